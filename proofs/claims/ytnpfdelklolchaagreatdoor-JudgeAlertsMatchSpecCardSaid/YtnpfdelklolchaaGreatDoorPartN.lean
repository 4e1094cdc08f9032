/- Of, DivMod, Lowest, Part of the reference: the result lies in new memory. Printed by gen_partnew.py. -/
import Derived.Test.YtnpfdelklolchaaGreatDoorG14
import Derived.Test.YtnpfdelklolchaaGreatDoorG31
namespace Go.Proofs.YtnpfdelklolchaaGreatDoor
open Go Go.RowKit Go.Proofs

/-- a fraction's numbers lie in the blocks from B on -/
def FrNew (B : Nat) (v : Value) : Prop := ∃ b A1 n1 c1 A2 n2 c2, v = .agg #[.bool b, .slice A1 n1 c1, .slice A2 n2 c2] ∧ (∀ b o, A1 = some ⟨b, o, none⟩ → B ≤ b) ∧ (∀ b o, A2 = some ⟨b, o, none⟩ → B ≤ b)
def FracNew (B : Nat) (q : Rat) (w : World) (e : Ending) (w' : World) : Prop := ∃ v, e = .returned v ∧ FracR w' v q ∧ Below w.heap.size w w' ∧ FrNew B v
/-- the blocks of [lo, w.heap.size) stay as they are -/
def Band (lo : Nat) (w w' : World) : Prop := w.heap.size ≤ w'.heap.size ∧ ∀ b, lo ≤ b → b < w.heap.size → w'.heap[b]? = w.heap[b]?
theorem Band.refl (lo : Nat) (w : World) : Band lo w w := ⟨Nat.le_refl _, fun _ _ _ => rfl⟩
theorem Band.fr {lo : Nat} {may : Nat → Prop} {w w1 w2 : World} (h : Band lo w w1) (hf : Fr may w1 w2) (hm : ∀ i, lo ≤ i → i < w.heap.size → ¬ may i) : Band lo w w2 :=
  ⟨Nat.le_trans h.1 hf.size, fun b h1 h2 => (hf.block b (Nat.lt_of_lt_of_le h2 h.1) (hm b h1 h2)).trans (h.2 b h1 h2)⟩
theorem Band.on {lo : Nat} {w w1 w2 : World} (h : Band lo w w1) (hb : Below w1.heap.size w1 w2) : Band lo w w2 :=
  ⟨Nat.le_trans h.1 hb.size, fun b h1 h2 => (hb.block b (Nat.lt_of_lt_of_le h2 h.1)).trans (h.2 b h1 h2)⟩
theorem FracR.band {lo : Nat} {w w' : World} {v : Value} {q : Rat} (h : FracR w v q) (hn : FrNew lo v) (hb : Band lo w w') : FracR w' v q := by
  obtain ⟨A1, c1, l1, A2, c2, l2, rfl, h1, h2⟩ := h
  obtain ⟨b', A1', n1', c1', A2', n2', c2', e, g1, g2⟩ := hn
  simp only [Value.agg.injEq, Array.mk.injEq, List.cons.injEq, Value.slice.injEq, and_true] at e
  obtain ⟨-, ⟨e1, -, -⟩, e2, -, -⟩ := e
  subst e1
  subst e2
  exact ⟨A1, c1, l1, A2, c2, l2, rfl, h1.keep hb.1 (fun b o e h3 _ => hb.2 b (g1 b o e) h3), h2.keep hb.1 (fun b o e h3 _ => hb.2 b (g2 b o e) h3)⟩
set_option maxHeartbeats 1000000 in
set_option maxRecDepth 100000 in
theorem rnatOfNew_any (n : Int) (w : World) (hn : n ≤ 9223372036854775807) : Calls Tryz.prog 47 #[.int .i64 n] w (RNatNew n.toNat w) := by
  obtain ⟨i0, hi0, hz0, hz1, hz2⟩ := info_parts Tryz.infoI4
  by_cases h0 : n ≤ 0
  · have h' : decide (0 < n) = false := by simp; omega
    have HZ := Lib.hid (show n.toNat = 0 by omega)
    go_enter Tryz.func47, Tryz.ntmps47
    go_wp2
    refine wp_loop_rounds 1 ?_
    rw [rounds_succ]
    go_wp2
    go_ret
    exact ⟨none, 0, [], rfl, by rw [HZ.out]; exact rnatr_nil w, Below.refl _ _, fun _ _ e => by cases e⟩
  · obtain ⟨N, rfl⟩ := Int.eq_ofNat_of_zero_le (show 0 ≤ n by omega)
    rw [Int.toNat_natCast]
    go_enter Tryz.func47, Tryz.ntmps47
    go_wp2
    go_loopw [0, 3] (fun i v wr => ∃ m : Nat, i = .int .i64 m ∧ m ≤ N ∧ ROfR w wr N m v) (fun i _ _ => (intOf i).toNat)
    case atStart => exact ⟨N, rfl, Nat.le_refl _, [], by simp, by simp, fun _ h => by simp at h, by simp [val], fun _ => by simp, ⟨by simp [d4s], .inl ⟨rfl, rfl⟩⟩, Below.refl _ _⟩
    case round =>
      obtain ⟨m, rfl, hm, o, ho1, ho2, ho3, ho4, ho5, hown, hbw⟩ := hrel
      have HOW := Lib.hid hown
      have HBW := Lib.hid hbw
      have hsz := hbw.size
      have H3 := Lib.hid ho3
      have H4 := Lib.hid ho4
      have H5 := Lib.hid ho5
      have H2 := Lib.hid ho2
      clear ho2 ho3 ho4 ho5 hown hbw
      by_cases hp : 0 < m
      · have t1 : decide ((0 : Int) < ↑m) = true := by simp; omega
        have t2 : decide (0 < m) = true := by simpa using hp
        go_wp2_with (at_builtin; refine wpList_append_own _ rfl (.tmp 6) (.tmp 9) 29 rfl w.heap.size 3 i0 _ 1 8 Tryz.underlying29 hi0 hz0 hz1 hz2 rfl (by decide) _ _ _ rfl (HOW.out.alloc _) ⟨wr.heap.size, 0, none⟩ 1 1 [.int .i64 ((m : Int) % 10000)] rfl rfl (cell_one_new _ _ _) (by simp [Value.oneCell']) ?c3 ?c4 ?c5 ?_)
        case c3 => unfold maxLen; omega
        case c4 => omega
        case c5 => simp; omega
        intro v' w2 hown' hgrow _
        obtain ⟨g1, g2, g3, g4⟩ := rof_step (_w := w) hp (by omega) H2.out H4.out
        have hnew : ROfR w w2 N (m / 10000) v' := by
          refine ⟨o ++ [m % 10000], g1, g2, ?_, g3, g4, ?_, ?_⟩
          · intro d hd
            rcases List.mem_append.1 hd with h | h
            · exact H3.out d h
            · simp at h; subst h; unfold T4; omega
          · simpa [d4s] using hown'
          · exact (HBW.out.alloc hsz _).grown hgrow (by simp; omega) (fun j hj => (ownsRow_block HOW.out hj.symm).1)
        have HN := Lib.hid hnew
        clear hown' hgrow g1 g2 g3 g4 hnew
        go_wp2
        go_roundw
        case rel => exact ⟨m / 10000, by first | rfl | go_num, by omega, HN.out⟩
        case measure => simp [intOf]; omega
      · obtain rfl : m = 0 := by omega
        obtain ⟨A', cap', rfl, hnc, hcm, hA'⟩ := ownsRow_shape HOW.out
        have HF := Lib.hid (show RNatR wr A' cap' o N from ⟨(Rd.of_own HOW.out).more (Nat.zero_le _) (Nat.le_refl _), ⟨H3.out, H5.out rfl⟩, by have := H4.out; simpa using this, hnc, hcm, hA'⟩)
        have HNW := Lib.hid (show ∀ b o, A' = some ⟨b, o, none⟩ → w.heap.size ≤ b from fun b o e => (ownsRow_block HOW.out (i := b) (by rw [e]; rfl)).1)
        clear hA'
        go_wp2
        go_ret
        exact ⟨A', cap', o, rfl, HF.out, HBW.out, HNW.out⟩
set_option maxHeartbeats 4000000 in
set_option maxRecDepth 100000 in
theorem rnatDivModN_any (A1 A2 : Option Addr) (c1 c2 : Nat) (la lb : List Nat) (x y : Nat) (w : World) (h1 : RNatR w A1 c1 la x) (h2 : RNatR w A2 c2 lb y) (hs : la.length ≤ 900000) (hs2 : lb.length ≤ 900000) (hy : 0 < y) :
    Calls Tryz.prog 90 #[.slice A1 la.length c1, .slice A2 lb.length c2] w fun e w' => ∃ A3 c3 l3 A4 c4 l4, e = .returned (.tuple #[.slice A3 l3.length c3, .slice A4 l4.length c4]) ∧ RNatR w' A3 c3 l3 (x / y) ∧ RNatR w' A4 c4 l4 (x % y) ∧ Below w.heap.size w w' ∧ ∀ b o, A3 = some ⟨b, o, none⟩ → w.heap.size ≤ b := by
  obtain ⟨i0, hi0, hz0, hz1, hz2⟩ := info_parts Tryz.infoI4
  have HN1 := Lib.hid h1
  have HN2 := Lib.hid h2
  clear h1 h2
  go_enter Tryz.func90, Tryz.ntmps90
  go_wp2_with (at_make; refine wpList_make_full _ rfl (.tmp 13) (.tmp 13) 29 rfl w.heap.size 3 i0 _ 1 Tryz.underlying29 hi0 hz0 hz1 .i64 .i64 _ _ la.length rfl rfl ?m1 ?m2 ?m3 ?m4 ?m5 ?_)
  case m1 => rfl
  case m2 => rfl
  case m3 => rw [hz2]; omega
  case m4 => unfold maxLen; omega
  case m5 => exact Nat.le_refl _
  intro w1 hown hgr
  rw [made_zeros4] at hown
  obtain ⟨hblk, _⟩ := Blk4.of_own hown
  have hb1 : Below w.heap.size w w1 := (Below.refl _ w).grown hgr (Nat.le_refl _) (fun k hk => by cases hk)
  have hsz1 : w.heap.size < w1.heap.size := heap_lt hblk
  have HBK := Lib.hid hblk
  have HB1 := Lib.hid hb1
  clear hown hgr hblk hb1
  go_wp2
  go_loopw [7, 8, 9, 10, 11] (fun rv iv _ _ _ wr => ∃ k : Nat, iv = .int .i64 ((k : Int) - 1) ∧ k ≤ la.length ∧ DivO w wr w.heap.size la y k rv) (fun _ iv _ _ _ _ => (intOf iv + 1).toNat)
  case atStart => exact ⟨la.length, rfl, Nat.le_refl _, List.replicate la.length 0, by simp, fun d hd => by rw [List.eq_of_mem_replicate hd]; unfold T4; omega, HBK.out, by rw [List.drop_of_length_le (by simp), List.drop_length]; simp [val], HB1.out, none, 0, [], rfl, by rw [List.drop_length]; simpa [val] using rnatr_nil w1⟩
  case round =>
    obtain ⟨k, rfl, hk, o, hol, hod, hblk, hval, hbw, A, c, l, rfl, hrn⟩ := hrel
    have HO := Lib.hid hod
    have HOL := Lib.hid hol
    have HV := Lib.hid hval
    have HBW := Lib.hid hbw
    have HBL := Lib.hid hblk
    have HRN := Lib.hid hrn
    have hgl := heap_lt hblk
    cases k with
    | zero =>
      have hval0 : val T4 o = x / y := by have := HV.out; rw [List.drop_zero, List.drop_zero, HN1.out.val] at this; exact this
      rw [List.drop_zero, HN1.out.val] at HRN
      have hrd' := hblk.rd
      have HCUT := Lib.hid (trimmed_any (some ⟨w.heap.size, 0, none⟩) la.length o wr hrd' (by rw [HOL.out]; exact Nat.le_refl _) (by unfold maxLen; omega) (fun h => by cases h))
      have hnr := rnatr_trim hrd' HO.out (by rw [HOL.out]; unfold maxLen; omega) (fun h => by cases h)
      rw [hval0] at hnr
      have HNR := Lib.hid hnr
      rw [HOL.out] at HCUT
      clear hod hol hval hblk hrn hbw hval0 hrd' hnr
      go_wp2_with fail
      refine HCUT.out.mono ?_
      rintro e w' ⟨rfl, rfl⟩
      go_wp2
      go_ret2
      exact ⟨_, _, _, _, _, _, rfl, HNR.out, HRN.out, HBW.out, fun b o e => by simp only [Option.some.injEq, Addr.mk.injEq, and_true] at e; omega⟩
    | succ j =>
      have e : (((j + 1 : Nat) : Int) - 1) = (j : Int) := by omega
      rw [e]
      obtain ⟨b, oo, u, rfl, hb, hu, qk⟩ := (HN1.out.rd.old hbw).at1 (show j < la.length by omega)
      obtain ⟨d, hd, rfl⟩ := d4s_get hu
      have hdW : d < 10000 := HN1.out.norm.1 d (List.mem_of_getElem? hd)
      have hlr : l.length ≤ lb.length := dm_len hrn.norm hrn.val HN2.out.norm HN2.out.val (Nat.mod_lt _ hy)
      have hstep := ddm_step (H := val T4 (la.drop (j + 1))) hy hdW
      rw [← val_drop_dig hd] at hstep
      obtain ⟨R, hR⟩ : ∃ R, R = val T4 (la.drop (j + 1)) % y := ⟨_, rfl⟩
      rw [← hR] at hstep hrn HRN
      have HST := Lib.hid hstep
      clear hu hod hol hval hblk hrn hstep hR
      go_wp2_with (at_builtin; refine wpList_append_rd rfl (.tmp 26) (.tmp 27) 29 rfl wr.heap.size 3 i0 _ 1 8 Tryz.underlying29 hi0 hz0 hz1 hz2 rfl (by decide) (.slice (some ⟨wr.heap.size, 0, none⟩) 1 1) 1 [.int .i64 (d : Int)] rfl (own_one wr _ _) A l.length c 0 (wr.alloc (.cells #[.int .i64 (d : Int)] 3)).heap.size (d4s l) rfl HRN.out.nil (HRN.out.on ((Below.refl _ wr).alloc (Nat.le_refl _) _)).rd ?c1 ?c2 ?c3 ?c4 ?_)
      case c1 => intro u hu; obtain ⟨z, _, rfl⟩ := List.mem_map.1 hu; rfl
      case c2 => unfold maxLen; omega
      case c3 => omega
      case c4 => simp
      intro v5 w5 hown5 hgr5
      obtain ⟨A5, c5, rfl, hc5, hcm5, hA5⟩ := ownsRow_shape hown5
      have hb5 : Below wr.heap.size wr w5 := ((Below.refl _ wr).alloc (Nat.le_refl _) (.cells #[.int .i64 (d : Int)] 3)).grown hgr5 (by simp) (fun k hk => by cases hk; exact Nat.le_refl _)
      have hlen5 : (d :: l).length = 1 + l.length := by simp; omega
      have hrd5 : Rd w5 0 w5.heap.size 1 A5 (d :: l).length (d4s (d :: l)) := by rw [hlen5]; exact (Rd.of_own hown5).more (Nat.zero_le _) (Nat.le_refl _)
      have HAP := Lib.hid (show ∀ b o, A5 = some ⟨b, o, none⟩ → wr.heap.size ≤ b from fun b o e => by
        obtain ⟨b', o', e', h1, _⟩ := (Rd.of_own hown5).2 (by omega)
        rw [e] at e'
        simp only [Option.some.injEq, Addr.mk.injEq, and_true] at e'
        omega)
      have hval5 : val T4 (d :: l) = d + T4 * R := by have := HRN.out.val; simp [val, this]
      have HTR := Lib.hid (trimmed_any A5 c5 (d :: l) w5 hrd5 (by rw [hlen5]; exact hc5) hcm5 (fun h => by have := hA5 h; rw [hlen5]; exact this))
      have hnr := rnatr_trim hrd5 (fun x hx => by
        rcases List.mem_cons.1 hx with h | h
        · rw [h]; exact hdW
        · exact HRN.out.norm.1 x h) (by rw [hlen5]; unfold maxLen; omega) (fun h => by rw [hlen5]; exact (hA5 h).1)
      rw [hval5] at hnr
      have hl6 : (trim (d :: l)).length ≤ l.length + 1 := Nat.le_trans (trim_length _) (by simp)
      rw [hlen5] at HTR
      have HB5 := Lib.hid hb5
      obtain ⟨l6, hl6e⟩ : ∃ l6, l6 = trim (d :: l) := ⟨_, rfl⟩
      rw [← hl6e] at HTR hnr hl6
      have HN6 := Lib.hid hnr
      obtain ⟨X, hX⟩ : ∃ X, X = d + T4 * R := ⟨_, rfl⟩
      rw [← hX] at HN6 HST
      have hq := HST.out.2.2
      unfold T4 at hq
      have HD := Lib.hid hd
      clear hown5 hgr5 hrd5 hval5 hnr hl6e hX hb5 qk hA5 hd
      have HSM := Lib.hid (fun W n (hb : Below w5.heap.size w5 W) (h0 : n ≤ 1000000000000000) => rSmall_any A2 c2 lb y n W (HN2.out.on (below_next HBW.out (below_next HB5.out hb))) (by omega) h0)
      have HCM := Lib.hid (fun W A3 c3 l3 z (hb : Below w5.heap.size w5 W) (h3 : RNatR W A3 c3 l3 z) (hl3 : l3.length ≤ 1000000) => rnatCmp_any A3 A5 c3 l6.length l3 l6 z X W h3 (HN6.out.on hb) hl3 (by omega))
      have HSB := Lib.hid (fun W A3 c3 l3 z (hb : Below w5.heap.size w5 W) (h3 : RNatR W A3 c3 l3 z) (hz : z ≤ X) => rnatSub_any A5 A3 l6.length c3 l6 l3 X z W (HN6.out.on hb) h3 (by omega) hz)
      have hyl : y < T4 ^ lb.length := rval_lt HN2.out.norm HN2.out.val
      have HLEN := Lib.hid (fun (W : World) A3 c3 (l3 : List Nat) m (h3 : RNatR W A3 c3 l3 (y * m)) (hm : m < 10000) => show l3.length ≤ lb.length + 1 from rlen_lt h3.norm h3.val (by
        rw [Nat.pow_succ]
        exact Nat.lt_of_le_of_lt (Nat.mul_le_mul_left y (Nat.le_of_lt hm)) (by unfold T4 at *; exact Nat.mul_lt_mul_of_pos_right hyl (by omega))))
      clear hyl
      go_wp2_with fail
      refine HTR.out.mono ?_
      rintro e w6 ⟨rfl, rfl⟩
      go_wp2_with fail
      go_loopw [9, 10, 11] (fun lv hv _ wr2 => ∃ lo hi : Nat, lv = .int .i64 lo ∧ hv = .int .i64 hi ∧ lo ≤ X / y ∧ X / y ≤ hi ∧ hi ≤ 9999 ∧ Below w5.heap.size w5 wr2) (fun lv hv _ _ => (intOf hv - intOf lv).toNat)
      case atStart => exact ⟨0, 9999, rfl, rfl, Nat.zero_le _, by omega, Nat.le_refl _, Below.refl _ _⟩
      case round =>
        obtain ⟨lo, hi, rfl, rfl, hlo, hhi, hh9, hbi⟩ := hrel
        have HBI := Lib.hid hbi
        clear hbi
        by_cases hlh : lo < hi
        · have t1 : decide ((lo : Int) < (hi : Int)) = true := by simpa using hlh
          have t1' : decide (lo < hi) = true := by simpa using hlh
          obtain ⟨m, hm⟩ : ∃ m, m = (lo + hi + 1) / 2 := ⟨_, rfl⟩
          have hm9 : m ≤ 9999 := by omega
          have hm1 : 1 ≤ m := by omega
          have hmi : ((lo : Int) + hi + 1).tdiv 2 = (m : Int) := by
            rw [Int.tdiv_eq_ediv_of_nonneg (by omega)]; omega
          have HS2 := Lib.hid (HSM.out wr (m : Int) HBI.out (by omega))
          rw [Int.toNat_natCast] at HS2
          have HU := Lib.hid (fun hc => bis_up (X := X) (lo := lo) (hi := hi) hy hhi hm hlh hc)
          have HDN := Lib.hid (fun hc => bis_down (X := X) (lo := lo) (hi := hi) hy hlo hm hlh hc)
          clear hm
          go_wp2_with fail
          refine HS2.out.mono ?_
          rintro e w7 ⟨A7, c7, l7, rfl, hn7, hb7⟩
          have hb7' := below_next HBI.out hb7
          have hl7 := HLEN.out w7 A7 c7 l7 m hn7 (by omega)
          have HC7 := Lib.hid (HCM.out w7 A7 c7 l7 _ hb7' hn7 (by omega))
          have HB7 := Lib.hid hb7'
          obtain ⟨cv, hcv⟩ : ∃ cv, cv = cmpN (y * m) X := ⟨_, rfl⟩
          rw [← hcv] at HC7
          clear hn7 hb7 hb7'
          by_cases hc : y * m ≤ X
          · have hu := HU.out hc
            have tc : decide (cv ≤ 0) = true := by rw [hcv]; unfold cmpN; simp; split <;> (try split) <;> omega
            clear hcv hc
            go_wp2_with fail
            refine HC7.out.mono ?_
            rintro e w8 ⟨rfl, q, rfl⟩
            go_wp2
            go_roundw
            case rel => exact ⟨m, hi, rfl, rfl, hu.1, hhi, hh9, below_drewN HB7.out _⟩
            case measure => simp [intOf]; omega
          · have hu := HDN.out hc
            have tc : decide (cv ≤ 0) = false := by rw [hcv]; unfold cmpN; simp; split <;> (try split) <;> omega
            clear hcv hc
            go_wp2_with fail
            refine HC7.out.mono ?_
            rintro e w8 ⟨rfl, q, rfl⟩
            go_wp2
            go_roundw
            case rel => exact ⟨lo, m - 1, rfl, by go_num, hlo, hu.1, by omega, below_drewN HB7.out _⟩
            case measure => simp [intOf]; omega
        · have t1 : decide ((lo : Int) < (hi : Int)) = false := by simpa using hlh
          have t1' : decide (lo < hi) = false := by simpa using hlh
          obtain rfl : lo = hi := by omega
          have hq2 : lo = X / y := by omega
          have HX := Lib.hid hq2
          obtain ⟨od, hod⟩ : ∃ od, o[j]? = some od := ⟨o[j]'(by have := HOL.out; omega), List.getElem?_eq_getElem _⟩
          have hbl2 : Blk4 wr w.heap.size o := (below_next HB5.out HBI.out).block _ hgl |>.trans HBL.out
          have q0 := hbl2.cell hod
          have z0 := hbl2.frozen j
          have hb9 : Below w.heap.size w (wr.setCell ⟨w.heap.size, j, none⟩ (.int .i64 (lo : Int))) := (below_next HBW.out (below_next HB5.out HBI.out)).setCell (Nat.le_refl _) _
          have hj : j < o.length := by have := HOL.out; omega
          have HNEW := Lib.hid (hbl2.set j lo)
          have HB9 := Lib.hid hb9
          have hbi := HBI.out.size
          have HN9 := Lib.hid (show RNatR (wr.setCell ⟨w.heap.size, j, none⟩ (.int .i64 (lo : Int))) A5 l6.length l6 X from (HN6.out.on HBI.out).keep (by simp [World.setCell]) (fun b o e _ _ => Below.heap_setCell _ _ _ _ (by have := HAP.out b o e; simp only; omega)))
          have HS9 := Lib.hid (rSmall_any A2 c2 lb y lo _ (HN2.out.on hb9) (by omega) (by omega))
          rw [Int.toNat_natCast] at HS9
          have hlX : y * lo ≤ X := by rw [hq2]; exact Nat.mul_div_le X y
          have hmod : X - y * lo = X % y := by have := Nat.div_add_mod X y; rw [← hq2] at this; omega
          have HDO := Lib.hid (show ∀ W A c (l : List Nat), Below (wr.setCell ⟨w.heap.size, j, none⟩ (.int .i64 (lo : Int))).heap.size (wr.setCell ⟨w.heap.size, j, none⟩ (.int .i64 (lo : Int))) W → RNatR W A c l (X - y * lo) → DivO w W w.heap.size la y j (.slice A l.length c) from fun W A c l hb hn => by
            refine ⟨o.set j lo, by simp [HOL.out], mem_set4 HO.out (by unfold T4; omega), (hb.block _ (heap_lt HNEW.out)).trans HNEW.out, ?_, HB9.out.trans (hb.mono HB9.out.size), A, c, l, rfl, ?_⟩
            · rw [val_drop_set hj, HV.out, HX.out]; rw [HST.out.1, Nat.add_comm]
            · rw [hmod] at hn; rw [HST.out.2.1]; exact hn)
          have hlo9 : lo < 10000 := by omega
          clear hod hbl2 hb9 hq2 hmod hj
          go_wp2_with fail
          refine HS9.out.mono ?_
          rintro e w7 ⟨A7, c7, l7, rfl, hn7, hb7⟩
          have HB7 := Lib.hid hb7
          have HS8 := Lib.hid (rnatSub_any A5 A7 l6.length c7 l6 l7 X _ w7 (HN9.out.on hb7) hn7 (by omega) hlX)
          clear hn7 hb7 q0 z0
          go_wp2_with fail
          refine HS8.out.mono ?_
          rintro e w8 ⟨A8, c8, l8, rfl, hn8, hb8⟩
          have HD8 := Lib.hid (HDO.out w8 A8 c8 l8 (below_next HB7.out hb8) hn8)
          clear hn8 hb8
          go_wp2
          go_roundw
          case rel => exact ⟨j, by go_num, by omega, HD8.out⟩
          case measure => simp [intOf]
set_option maxHeartbeats 2000000 in
set_option maxRecDepth 100000 in
theorem rLowestN_any (b : Bool) (A1 A2 : Option Addr) (c1 c2 : Nat) (l1 l2 : List Nat) (x y : Nat) (w : World) (h1 : RNatR w A1 c1 l1 x) (h2 : RNatR w A2 c2 l2 y) (hs : l1.length ≤ 900000) (hs2 : l2.length ≤ 900000) (hy : 0 < y) (B : Nat) (hB : B ≤ w.heap.size) (g1 : ∀ b o, A1 = some ⟨b, o, none⟩ → B ≤ b) (g2 : ∀ b o, A2 = some ⟨b, o, none⟩ → B ≤ b) :
    Calls Tryz.prog 53 #[.bool b, .slice A1 l1.length c1, .slice A2 l2.length c2] w (FracNew B (mkRat (sg b x) y) w) := by
  have HG1 := Lib.hid g1
  have HG2 := Lib.hid g2
  clear g1 g2
  have HN1 := Lib.hid h1
  have HN2 := Lib.hid h2
  rcases Nat.eq_zero_or_pos x with h0 | h0
  · have h0' : l1 = [] := (val_zero T4_pos h1.norm).1 (by rw [h1.val, h0])
    subst h0' h0
    rw [low_zero]
    clear h1 h2
    have HO := Lib.hid (fun W => rnatOfNew_any 1 W (by omega))
    go_enter Tryz.func53, Tryz.ntmps53
    obtain ⟨W0, hW0⟩ : ∃ W0, W0 = w.alloc (.cells #[.bool false, .slice none 0 0, .slice none 0 0] 31) := ⟨_, rfl⟩
    have hb0 : Below w.heap.size w W0 := by rw [hW0]; exact (Below.refl _ w).alloc (Nat.le_refl _) _
    have hx0 : FBox W0 w.heap.size := by rw [hW0]; exact alloc_at _ _ _ rfl
    go_wp2_with fail
    rw [← hW0]
    clear hW0
    refine (HO.out _).mono ?_
    rintro e w1 ⟨A3, c3, l3, rfl, hn3, hb3, hw3⟩
    have HW3 := Lib.hid (show ∀ b o, A3 = some ⟨b, o, none⟩ → B ≤ b from fun b o e => by have h1 := hw3 b o e; have h2 := hb0.size; omega)
    clear hw3
    have HX := Lib.hid (hx0.on hb3)
    have HF := Lib.hid (fun W (hf : Fr (fun i => i = w.heap.size) w1 W) => frac_ret (q := 0) (b := false) (hx0.on hb3) rfl (rnatr_nil w1) hn3 (below_next hb0 hb3) (Nat.le_refl _) hf)
    obtain ⟨k0, k1, k2, z0, z1, z2, hlt⟩ := HX.out.facts
    clear hb0 hx0 hn3 hb3
    go_wp2
    refine bodyPost_ret (v := .agg #[.bool false, .slice none 0 0, .slice A3 l3.length c3]) (by simp [results, Tryz.results53, go_sem, k0, k1, k2]) rfl ⟨_, rfl, (HF.out _ (fr3 _ _ _)).1, (HF.out _ (fr3 _ _ _)).2, ⟨_, _, _, _, _, _, _, rfl, (fun _ _ e => by cases e), HW3.out⟩⟩
  · obtain ⟨f1, f2, f3⟩ := low_pos (b := b) h0 hy
    have hg0 : 0 < Nat.gcd x y := Nat.gcd_pos_of_pos_left y h0
    have hgy : Nat.gcd x y ≤ y := Nat.le_of_dvd hy (Nat.gcd_dvd_right x y)
    have hyl : y < T4 ^ l2.length := rval_lt h2.norm h2.val
    have hxl : l1.length ≠ 0 := by
      intro h
      have : l1 = [] := List.eq_nil_of_length_eq_zero h
      subst this
      have := h1.val
      simp [val] at this; omega
    have t1 : ((l1.length : Int) == 0) = false := by simpa using hxl
    have t1' : (l1.length == 0) = false := by simpa using hxl
    have hGL := fun (W : World) A c (l : List Nat) (h : RNatR W A c l (Nat.gcd x y)) => show l.length ≤ l2.length from h.len (Nat.lt_of_le_of_lt hgy hyl)
    obtain ⟨g, hg⟩ : ∃ g, g = Nat.gcd x y := ⟨_, rfl⟩
    rw [← hg] at f2 f3 hg0 hGL
    obtain ⟨q, hq⟩ : ∃ q, q = mkRat (sg b x) y := ⟨_, rfl⟩
    rw [← hq] at f1 f2 f3 ⊢
    have HGL := Lib.hid hGL
    have HFF := Lib.hid (And.intro f1 (And.intro f2 f3))
    have HO := Lib.hid (fun W => rnatOfNew_any 1 W (by omega))
    have HG := Lib.hid (fun W (hb : Below w.heap.size w W) => rnatGcd_any A1 A2 c1 c2 l1 l2 x y W (HN1.out.on hb) (HN2.out.on hb) hs hs2)
    rw [← hg] at HG
    clear h1 h2 hq hg f1 f2 f3 hgy hyl hxl hGL
    obtain ⟨W0, hW0⟩ : ∃ W0, W0 = w.alloc (.cells #[.bool false, .slice none 0 0, .slice none 0 0] 31) := ⟨_, rfl⟩
    have HB0 := Lib.hid (show Below w.heap.size w W0 by rw [hW0]; exact (Below.refl _ w).alloc (Nat.le_refl _) _)
    have HX0 := Lib.hid (show FBox W0 w.heap.size by rw [hW0]; exact alloc_at _ _ _ rfl)
    go_enter Tryz.func53, Tryz.ntmps53
    go_wp2_with fail
    rw [← hW0]
    clear hW0
    refine (HG.out _ HB0.out).mono ?_
    rintro e w1 ⟨A3, c3, l3, rfl, hn3, hb3⟩
    have HN3 := Lib.hid hn3
    have HB1 := Lib.hid hb3
    have hl3 := HGL.out w1 A3 c3 l3 hn3
    clear hn3 hb3
    go_wp2_with fail
    refine (HO.out _).mono ?_
    rintro e w2 ⟨A4, c4, l4, rfl, hn4, hb4, -⟩
    have hl4 : l4.length ≤ 4 := hn4.len (by rw [T4_4]; decide)
    have HC := Lib.hid (rnatCmp_any A3 A4 c3 c4 l3 l4 g _ w2 (HN3.out.on hb4) hn4 (by omega) (by omega))
    have HB2 := Lib.hid (below_next HB1.out hb4)
    obtain ⟨cv, hcv⟩ : ∃ cv, cv = cmpN g (1 : Int).toNat := ⟨_, rfl⟩
    rw [← hcv] at HC
    clear hn4
    by_cases hg1 : 1 < g
    · have tc : decide (0 < cv) = true := by rw [hcv]; unfold cmpN; simp; split <;> (try split) <;> omega
      have HD1 := Lib.hid (fun W (hb : Below w2.heap.size w2 W) (h3 : RNatR W A3 c3 l3 g) => rnatDivModN_any A1 A3 c1 c3 l1 l3 x g W (HN1.out.on (below_next HB0.out (below_next HB2.out hb))) h3 (by omega) (by omega) hg0)
      have HD2 := Lib.hid (fun W (hb : Below w2.heap.size w2 W) (h3 : RNatR W A3 c3 l3 g) => rnatDivModN_any A2 A3 c2 c3 l2 l3 y g W (HN2.out.on (below_next HB0.out (below_next HB2.out hb))) h3 (by omega) (by omega) hg0)
      clear hcv
      go_wp2_with fail
      refine HC.out.mono ?_
      rintro e w3 ⟨rfl, qq, rfl⟩
      have HN3' := Lib.hid (show RNatR (w2.drewN qq) A3 c3 l3 g from (HN3.out.on hb4).on (below_drewN (Below.refl _ w2) qq))
      have HD := Lib.hid (below_drewN (Below.refl w2.heap.size w2) qq)
      go_wp2_with fail
      refine (HD1.out _ HD.out HN3'.out).mono ?_
      rintro e w4 ⟨A5, c5, l5, A6, c6, l6, rfl, hn5, _, hb5, hw5⟩
      have HBW0 := Lib.hid (show B ≤ w2.heap.size from Nat.le_trans hB (below_next HB0.out HB2.out).size)
      have HW5 := Lib.hid (show ∀ b o, A5 = some ⟨b, o, none⟩ → B ≤ b from fun b o e => by have h1 := hw5 b o e; have h2 := HD.out.size; have h3 := HBW0.out; omega)
      clear hw5
      have HD4 := Lib.hid (below_next HD.out hb5)
      have HN5 := Lib.hid hn5
      have HN3'' := Lib.hid (HN3'.out.on hb5)
      clear hn5 hb5
      go_wp2_with fail
      refine (HD2.out _ HD4.out HN3''.out).mono ?_
      rintro e w5 ⟨A7, c7, l7, A8, c8, l8, rfl, hn7, _, hb7, hw7⟩
      have HW7 := Lib.hid (show ∀ b o, A7 = some ⟨b, o, none⟩ → B ≤ b from fun b o e => by have h1 := hw7 b o e; have h2 := HD4.out.size; have h3 := HBW0.out; omega)
      clear hw7
      have hb9 : Below W0.heap.size W0 w5 := below_next HB2.out (below_next HD4.out hb7)
      have HX := Lib.hid (HX0.out.on hb9)
      obtain ⟨f1, f2, f3⟩ := HFF.out
      have HF := Lib.hid (fun W (hf : Fr (fun i => i = w.heap.size) w5 W) => frac_ret (q := q) (b := b) HX.out f1.symm (by rw [f2]; exact HN5.out.on hb7) (by rw [f3]; exact hn7) (below_next HB0.out hb9) (Nat.le_refl _) hf)
      obtain ⟨k0, k1, k2, z0, z1, z2, hlt⟩ := HX.out.facts
      clear hb9 f1 f2 f3 hn7 hb7
      go_wp2
      refine bodyPost_ret (v := .agg #[.bool b, .slice A5 l5.length c5, .slice A7 l7.length c7]) (by simp [results, Tryz.results53, go_sem, k0, k1, k2]) rfl ⟨_, rfl, (HF.out _ (fr3 _ _ _)).1, (HF.out _ (fr3 _ _ _)).2, ⟨_, _, _, _, _, _, _, rfl, HW5.out, HW7.out⟩⟩
    · obtain rfl : g = 1 := by omega
      have tc : decide (0 < cv) = false := by rw [hcv]; rfl
      clear hcv
      go_wp2_with fail
      refine HC.out.mono ?_
      rintro e w3 ⟨rfl, qq, rfl⟩
      have hb3 : Below W0.heap.size W0 (w2.drewN qq) := below_drewN HB2.out qq
      have HX := Lib.hid (HX0.out.on hb3)
      obtain ⟨f1, f2, f3⟩ := HFF.out
      rw [Nat.div_one] at f2 f3
      have HF := Lib.hid (fun W (hf : Fr (fun i => i = w.heap.size) (w2.drewN qq) W) => frac_ret (q := q) (b := b) HX.out f1.symm (by rw [f2]; exact HN1.out.on (below_next HB0.out hb3)) (by rw [f3]; exact HN2.out.on (below_next HB0.out hb3)) (below_next HB0.out hb3) (Nat.le_refl _) hf)
      obtain ⟨k0, k1, k2, z0, z1, z2, hlt⟩ := HX.out.facts
      clear hb3 f1 f2 f3
      go_wp2
      refine bodyPost_ret (v := .agg #[.bool b, .slice A1 l1.length c1, .slice A2 l2.length c2]) (by simp [results, Tryz.results53, go_sem, k0, k1, k2]) rfl ⟨_, rfl, (HF.out _ (fr3 _ _ _)).1, (HF.out _ (fr3 _ _ _)).2, ⟨_, _, _, _, _, _, _, rfl, HG1.out, HG2.out⟩⟩
set_option maxHeartbeats 2000000 in
set_option maxRecDepth 100000 in
theorem rPartN_any (n d : Int) (w : World) (h0 : 0 ≤ n) (h1 : n ≤ 9223372036854775807) (hd0 : 1 ≤ d) (hd : d ≤ 9223372036854775807) :
    Calls Tryz.prog 39 #[.int .i64 n, .int .i64 d] w (FracNew w.heap.size (mkRat n d.toNat) w) := by
  have HD := Lib.hid (fun W => rnatOfNew_any d W hd)
  obtain ⟨W0, hW0⟩ : ∃ W0, W0 = w.alloc (.cells #[.bool false, .slice none 0 0, .slice none 0 0] 31) := ⟨_, rfl⟩
  have HB0 := Lib.hid (show Below w.heap.size w W0 by rw [hW0]; exact (Below.refl _ w).alloc (Nat.le_refl _) _)
  have HX0 := Lib.hid (show FBox W0 w.heap.size by rw [hW0]; exact alloc_at _ _ _ rfl)

  have hn : ¬ n < 0 := by omega
  have t1 : decide (n < 0) = false := by simpa using hn

  have HN := Lib.hid (fun W => rnatOfNew_any n W (by omega))
  have HL := Lib.hid (fun W A1 c1 l1 A2 c2 l2 (h1 : RNatR W A1 c1 l1 (n : Int).toNat) (h2 : RNatR W A2 c2 l2 d.toNat) (hB : w.heap.size ≤ W.heap.size) g1 g2 => rLowestN_any false A1 A2 c1 c2 l1 l2 _ _ W h1 h2 (by have := of_len h1 (by omega); omega) (by have := of_len h2 (by omega); omega) (by omega) w.heap.size hB g1 g2)
  have hsg : sg false (n : Int).toNat = n := by unfold sg; simp; omega
  rw [hsg] at HL
  clear hsg
  go_enter Tryz.func39, Tryz.ntmps39
  go_wp2_with fail
  rw [← hW0]
  clear hW0
  refine (HN.out _).mono ?_
  rintro e w1 ⟨A1, c1, l1, rfl, hn1, hb1, hw1⟩
  have HW1 := Lib.hid (show ∀ b o, A1 = some ⟨b, o, none⟩ → w.heap.size ≤ b from fun b o e => by have h1 := hw1 b o e; have h2 := HB0.out.size; omega)
  clear hw1
  have HN1 := Lib.hid hn1
  have HB1 := Lib.hid hb1
  clear hn1 hb1
  go_wp2_with fail
  refine (HD.out _).mono ?_
  rintro e w2 ⟨A2, c2, l2, rfl, hn2, hb2, hw2⟩
  have HW2 := Lib.hid (show ∀ b o, A2 = some ⟨b, o, none⟩ → w.heap.size ≤ b from fun b o e => by have h1 := hw2 b o e; have h2 := (below_next HB0.out HB1.out).size; omega)
  clear hw2
  have HL2 := Lib.hid (HL.out w2 A1 c1 l1 A2 c2 l2 (HN1.out.on hb2) hn2 (below_next HB0.out (below_next HB1.out hb2)).size HW1.out HW2.out)
  have HB2 := Lib.hid (below_next HB1.out hb2)
  clear hn2 hb2
  go_wp2_with fail
  refine HL2.out.mono ?_
  rintro e w3 ⟨v, rfl, hv, hb3, hnw⟩
  have hb3' := below_next HB2.out hb3
  have HF := Lib.hid (fun W (hf : Fr (fun i => i = w.heap.size) w3 W) => frac_ret2 (HX0.out.on hb3') hv (below_next HB0.out hb3') (Nat.le_refl _) hf)
  obtain ⟨k0, k1, k2, z0, z1, z2, hlt⟩ := (HX0.out.on hb3').facts
  obtain ⟨A5, c5, l5, A6, c6, l6, rfl, _, _⟩ := hv
  have HNW := Lib.hid hnw
  clear hnw
  clear hb3 hb3'
  go_wp2
  refine bodyPost_ret (v := .agg #[.bool _, .slice A5 l5.length c5, .slice A6 l6.length c6]) (by simp [results, Tryz.results39, go_sem, k0, k1, k2]) rfl ⟨_, rfl, (HF.out _ (fr3 _ _ _)).1, (HF.out _ (fr3 _ _ _)).2, HNW.out⟩

end Go.Proofs.YtnpfdelklolchaaGreatDoor
