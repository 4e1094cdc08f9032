/- The reference's Busy. -/
import Derived.Test.YtjkoppdddaknlaaGreatDoorG22
import Derived.Shelf.RegionOpenPlain
import Derived.Deep.CutBlock
import Derived.Deep.DeepCutAuto
namespace Go.Proofs.YtjkoppdddaknlaaGreatDoor
open Go Go.RowKit Go.Proofs Go.Maps

set_option maxHeartbeats 16000000 in
set_option maxRecDepth 100000 in
theorem RBusy_ok (A : Option Addr) (n c : Nat) (l : List Smp) (w : World) (hr : SmpR w w.heap.size A n l) (hn : n ≤ maxLen) (hc : codeS n l = 0) :
    Calls Tryz.prog 12 #[.slice A n c] w (BPostR n l w) := by
  obtain ⟨hn2, hfine⟩ := codeS_zero hc
  have hl := hr.len
  have HCK := Lib.hid (samplesFault_any A n c l w hr hn)
  rw [hc] at HCK
  have HR := Lib.hid hr
  have HL := Lib.hid hl
  have HF := Lib.hid hfine
  obtain ⟨ii, hii, hiz0, hiz1, hiz2⟩ := info_parts infoIW
  obtain ⟨i1, hi', hz0', hz1', hz2'⟩ := info_parts Tryz.infoCh
  clear hr hl hfine hc
  unfold maxLen at hn
  have hmm := @run_makeMap Tryz.prog
  have mixed : Tryz.prog.follows Departure.mixedOrders = true := by kernel_rfl
  go_enter Tryz.func12, Tryz.ntmps12
  go_wp2_with fail
  (with_reducible refine (HCK.out).mono ?_)
  rintro e w1 ⟨rfl, hb1⟩
  have hs1 := hb1.size
  have HB1 := Lib.hid hb1
  clear hb1 HCK
  go_wp2
  clear hmm
  go_loopw [6, 7, 9, 46] (fun tv iv _ _ wr => ∃ (v : Value) (k : Nat), v = tv ∧ iv = .int .i64 (k : Int) ∧ k ≤ n ∧ MapV wr w1.heap.size (2 * k) (hadF (tmN l k)) ∧ wr.ownsRow (w1.heap.size + 1) 3 1 v (tmN l k).length (izC (tmN l k)) ∧ Below w.heap.size w wr ∧ w1.heap.size + 1 ≤ wr.heap.size) (fun _ iv _ _ _ => n - (intOf iv).toNat)
  case atStart =>
    refine ⟨.slice none 0 0, 0, rfl, rfl, Nat.zero_le _, ?_, ⟨by simp [izC, tmN], .inl ⟨rfl, rfl⟩⟩, HB1.out.alloc hs1 _, by simp⟩
    have := mapV_made w1
    rw [show tmN l 0 = [] from rfl, hadF_nil]; exact this
  case round =>
    obtain ⟨wo, hwo⟩ : ∃ wo : World, wo = wr := ⟨_, rfl⟩
    subst hwo
    obtain ⟨v, k, rfl, rfl, hk, hmap, hown, hbw, hM⟩ := hrel
    have hsw := hbw.size
    by_cases hlt : k < n
    · obtain ⟨bk, o, ⟨a, d, sA, sn, sc, lab, sf⟩, rfl, hbk, hs, c0, c1, -, -⟩ := (HR.out.below hbw (Nat.le_refl _)).at hlt
      simp only at c0 c1
      have hfi := HF.out _ (List.mem_of_getElem? hs)
      simp only at hfi
      have HTK := Lib.hid (tmN_succ hs)
      simp only at HTK
      have hll := tmN_len l k
      obtain ⟨x, hx⟩ : ∃ x : Nat, a = x := ⟨a.toNat, by omega⟩
      obtain ⟨y, hy⟩ : ∃ y : Nat, a + d = y := ⟨(a + d).toNat, by omega⟩
      have hxt : a.toNat = x := by omega
      have hyt : (a + d).toNat = y := by omega
      rw [hxt, hyt] at HTK
      have hw1 : IntKind.i64.wrap (a + d) = (y : Int) := by rw [IntWalk.i64_in _ (by omega)]; exact hy
      obtain ⟨L0, hL0⟩ : ∃ L, L = tmN l k := ⟨_, rfl⟩
      rw [← hL0] at hmap hown HTK hll
      have HMAP := Lib.hid hmap
      have HOWN := Lib.hid hown
      have HBW := Lib.hid hbw
      have hxb : x ≤ 2000000000000 := by omega
      have hyb : y ≤ 2000000000000 := by omega
      have c0d : wo.drew.cell? ⟨bk, o + k * 4, none⟩ = some (.int .i64 a) := c0
      have c1d : wo.drew.cell? ⟨bk, o + k * 4 + 1, none⟩ = some (.int .i64 d) := c1
      have hbld : ∀ W : World, (Instr.build 79 #[(0, .int .i64 (x : Int)), (1, .int .i64 (y : Int))]).run Tryz.prog W = .ok (.agg #[.int .i64 (x : Int), .int .i64 (y : Int)]) W := fun W => by kernel_rfl
      clear hmap hown hbw hs hL0 hfi hxt hyt
      subst hx
      go_wp2_with fail
      go_quiet (fail)
      obtain ⟨Lj, hLj⟩ : ∃ Lj : Nat → List Nat, Lj = fun j => if j = 0 then L0 else if j = 1 then addT L0 x else addT (addT L0 x) y := ⟨_, rfl⟩
      have hL0 : Lj 0 = L0 := by rw [hLj]; rfl
      have hL2 : Lj 2 = addT (addT L0 x) y := by rw [hLj]; rfl
      have HLN := Lib.hid (show ∀ j : Nat, (Lj j).length ≤ 2 * k + 2 from fun j => by
        have h1 := addT_len (addT L0 x) y
        have h2 := addT_len L0 x
        rw [hLj]; dsimp only
        split
        · omega
        · split <;> omega)
      have HST := Lib.hid (show ∀ j : Nat, j < 2 → ∃ t : Nat, (∀ W : World, (Instr.index 79 (.agg #[.int .i64 (x : Int), .int .i64 (y : Int)]) (.int .i64 (j : Int))).run Tryz.prog W = .ok (.int .i64 (t : Int)) W) ∧ Lj (j + 1) = addT (Lj j) t ∧ t ≤ 2000000000000 from fun j hj => by
        rcases (show j = 0 ∨ j = 1 by omega) with rfl | rfl
        · exact ⟨x, fun W => by rfl, by rw [hLj]; rfl, hxb⟩
        · exact ⟨y, fun W => by rfl, by rw [hLj]; rfl, hyb⟩)
      have HL2 := Lib.hid hL2
      obtain ⟨wa, hwa⟩ : ∃ W : World, W = wo.drewN nq := ⟨_, rfl⟩
      have hbwa : Below wo.heap.size wo wa := by rw [hwa]; exact below_drewN (Below.refl _ _) _
      rw [← hwa]
      have HMA := Lib.hid (show MapV wa w1.heap.size (2 * k + 0) (hadF (Lj 0)) by rw [hL0]; exact HMAP.out.on hbwa)
      have HOA := Lib.hid (show wa.ownsRow (w1.heap.size + 1) 3 1 v (Lj 0).length (izC (Lj 0)) by rw [hL0]; exact ownsRow_fr HOWN.out (Fr.of_below hbwa) (fun i hi => by have := ownsRow_block HOWN.out hi; omega))
      have HBA := Lib.hid (show Below w.heap.size w wa from HBW.out.trans (hbwa.mono hsw))
      have hsa := hbwa.size
      clear hLj hL0 hL2 hwa hbwa c0 c1 c0d c1d hbld HMAP HOWN HBW hxb hyb hw1
      go_wp2_with fail
      go_loopw [6, 9, 46] (fun tv _ jv wr => ∃ (v : Value) (j : Nat), v = tv ∧ jv = .int .i64 (j : Int) ∧ j ≤ 2 ∧ MapV wr w1.heap.size (2 * k + j) (hadF (Lj j)) ∧ wr.ownsRow (w1.heap.size + 1) 3 1 v (Lj j).length (izC (Lj j)) ∧ Below w.heap.size w wr ∧ w1.heap.size + 1 ≤ wr.heap.size) (fun _ _ jv _ => 2 - (intOf jv).toNat)
      case atStart => exact ⟨v, 0, rfl, rfl, by omega, HMA.out, HOA.out, HBA.out, by omega⟩
      case round =>
        obtain ⟨wb, hwb⟩ : ∃ wb : World, wb = wr := ⟨_, rfl⟩
        subst hwb
        obtain ⟨v2, j, rfl, rfl, hj, hmap, hown, hbw, hsz⟩ := hrel
        have HMJ := Lib.hid hmap
        have HOJ := Lib.hid hown
        have HBJ := Lib.hid hbw
        have hlj := HLN.out j
        clear hmap hown hbw
        by_cases hj2 : j < 2
        · obtain ⟨t, hidx, hnext, htb⟩ := HST.out j hj2
          have hj2z : (j : Int) < 2 := by omega
          have HNX := Lib.hid hnext
          have hlook := lookV_run Tryz.underlying78 HMJ.out (t : Int) (by omega) (by omega) (zeroBo wb)
          rw [hadF_at] at hlook
          clear hnext
          by_cases hin : t ∈ Lj j
          · rw [decide_eq_true hin] at hlook
            have HE := Lib.hid (show Lj (j + 1) = Lj j by rw [HNX.out]; unfold addT; rw [if_pos hin])
            clear hin
            go_wp2
            go_roundw
            case rel => exact ⟨v2, j + 1, rfl, by go_num, by omega, by rw [HE.out]; exact HMJ.out.mono (by omega), by rw [HE.out]; exact HOJ.out, HBJ.out, by omega⟩
            case measure => simp [intOf]; omega
          · rw [decide_eq_false hin] at hlook
            obtain ⟨hput, hpm, hpg⟩ := putV_run Tryz.underlying78 HMJ.out (by omega) (t : Int) (.bool true) (by omega) (by omega)
            obtain ⟨W3, hW3⟩ : ∃ W3, W3 = putV 78 w1.heap.size (t : Int) (.bool true) wb := ⟨_, rfl⟩
            rw [← hW3] at hput hpm hpg
            rw [hadF_put _ _ hin, ← HNX.out] at hpm
            have HM3 := Lib.hid hpm
            have hs3 := hpg.size
            have HO3 := Lib.hid (show W3.ownsRow (w1.heap.size + 1) 3 1 v2 (Lj j).length (izC (Lj j)) from ownsRow_fr HOJ.out (Fr.of_grown hpg) (fun i hi hm => by have := (ownsRow_block HOJ.out hi).1; simp at hm; omega))
            have HB3 := Lib.hid (show Below w.heap.size w W3 from HBJ.out.grown hpg (by omega) (fun i hi => by simp at hi; omega))
            have HE := Lib.hid (show Lj (j + 1) = Lj j ++ [t] by rw [HNX.out]; unfold addT; rw [if_neg hin])
            clear hpm hpg hW3 hin
            go_wp2_with (at_builtin; refine wpList_append_own _ rfl (.tmp 55) (.tmp 57) 34 rfl (w1.heap.size + 1) 3 ii _ 1 8 Tryz.underlying34 hii hiz0 hiz1 hiz2 rfl (by decide) _ _ _ rfl (HO3.out.alloc _) ⟨W3.heap.size, 0, none⟩ 1 1 [.int .i64 (t : Int)] rfl rfl (cell_one_new W3 _ 3) (by simp [Value.oneCell']) ?c3 ?c4 ?c5 ?_)
            case c3 => unfold maxLen; omega
            case c4 => omega
            case c5 => simp; omega
            intro v' w6 hown6 hgrow6 _
            have hf6 := (((Fr.refl (fun i => some i = v2.ownBlock) W3).alloc (.cells #[.int .i64 (t : Int)] 3)).trans (Fr.of_grown hgrow6) (fun i _ h => h))
            have hs6 := hf6.size
            have HM6 := Lib.hid (HM3.out.fr hf6 (fun h => by have := ownsRow_block HO3.out h; omega))
            have HB6 := Lib.hid (show Below w.heap.size w w6 from HB3.out.trans (hf6.below (by omega) (fun i hi h => by have := ownsRow_block HO3.out h; omega)))
            have HO6 := Lib.hid (show w6.ownsRow (w1.heap.size + 1) 3 1 v' (Lj (j + 1)).length (izC (Lj (j + 1))) by rw [HE.out, izC_snoc, List.length_append]; exact hown6)
            clear hown6 hgrow6 hf6
            go_wp2
            go_roundw
            case rel => exact ⟨v', j + 1, rfl, by go_num, by omega, HM6.out.mono (by omega), HO6.out, HB6.out, by omega⟩
            case measure => simp [intOf]; omega
        · obtain rfl : j = 2 := by omega
          have HM9 := Lib.hid (show MapV wb w1.heap.size (2 * (k + 1)) (hadF (tmN l (k + 1))) by rw [HTK.out, ← HL2.out]; exact HMJ.out.mono (by omega))
          have HO9 := Lib.hid (show wb.ownsRow (w1.heap.size + 1) 3 1 v2 (tmN l (k + 1)).length (izC (tmN l (k + 1))) by rw [HTK.out, ← HL2.out]; exact HOJ.out)
          go_wp2
          go_roundw
          case rel => exact ⟨v2, k + 1, rfl, by go_num, by omega, HM9.out, HO9.out, HBJ.out, by omega⟩
          case measure => simp [intOf]; omega
    · obtain rfl : k = n := by omega
      obtain ⟨T, hT⟩ : ∃ T, T = tmN l k := ⟨_, rfl⟩
      have HND := Lib.hid (show T.Nodup by rw [hT]; exact tmN_nodup l k)
      have HMEM := Lib.hid (show ∀ t : Int, (t ∈ tms (pts l) ↔ ∃ x ∈ T, t = (x : Int)) from fun t => by
        have := tmN_mem (l := l) (fun s hs => ⟨(HF.out s hs).1, (HF.out s hs).2.2.1⟩) k (by rw [HL.out]; exact Nat.le_refl _) t
        rw [List.take_of_length_le (by rw [HL.out]; exact Nat.le_refl _)] at this
        rw [hT]; exact this)
      have HTB := Lib.hid (show ∀ x ∈ T, x ≤ 2000000000000 by rw [hT]; exact tmN_bd HF.out k)
      have hTL : T.length ≤ 2 * k := by rw [hT]; exact tmN_len l k
      rw [← hT] at hown
      obtain ⟨Av, cap, rfl, hNc, hcm, hA⟩ := ownsRow_shape hown
      obtain ⟨N, hN⟩ : ∃ N, N = T.length := ⟨_, rfl⟩
      have HN := Lib.hid hN
      obtain ⟨RV, hRV⟩ : ∃ RV : World → List Nat → Prop, RV = fun W lc => ∀ g', Av = some ⟨g', 0, none⟩ → w1.heap.size + 1 ≤ g' ∧ RowI W g' lc := ⟨_, rfl⟩
      have HSOME := Lib.hid (show 0 < N → ∃ g', Av = some ⟨g', 0, none⟩ from fun h => by
        obtain ⟨g', cap', e, _, _, _, _⟩ := ownsRow_some hown (by omega)
        cases e
        exact ⟨g', rfl⟩)
      have HRV0 := Lib.hid (show RV wo T by
        rw [hRV]
        intro g' e
        subst e
        rw [← hN] at hown
        exact ⟨(ownsRow_block hown (i := g') rfl).1, rowI_of_own hown⟩)
      have HRV := Lib.hid hRV
      have HBW := Lib.hid hbw
      rw [← hN] at hTL ⊢
      clear hmap hown hbw hT hN hRV hA
      unfold maxLen at hcm
      go_wp2_with fail
      go_loopw [10, 11] (fun iv _ wr => ∃ (i : Nat) (lc : List Nat), iv = .int .i64 (i : Int) ∧ 1 ≤ i ∧ i ≤ N + 1 ∧ PermOn T lc 0 N ∧ SrtOn (fun x y : Nat => x < y) lc 0 i ∧ RV wr lc ∧ Fr (fun z => w1.heap.size + 1 ≤ z) wo wr) (fun iv _ _ => N + 1 - (intOf iv).toNat)
      case atStart => exact ⟨1, T, by go_num, Nat.le_refl _, by omega, PermOn.refl _ _ _, fun p q x y h1 h2 h3 => by omega, HRV0.out, Fr.refl _ _⟩
      case round =>
        obtain ⟨i, lc, rfl, hi1, hi2, hp, hs, hrow, hfr⟩ := hrel
        have HP := Lib.hid hp
        have HS := Lib.hid hs
        have HR1 := Lib.hid hrow
        have HF0 := Lib.hid hfr
        have hlen : lc.length = N := hp.len.trans HN.out.symm
        clear hp hs hrow hfr HRV0
        by_cases hib : i < N
        · obtain ⟨g', hg'⟩ := HSOME.out (by omega)
          subst hg'
          have hR1 := HR1.out
          rw [HRV.out] at hR1
          obtain ⟨hgb, hrowI⟩ := hR1 g' rfl
          have HROW1 := Lib.hid hrowI
          clear hR1 hrowI
          have hibz : (i : Int) < (N : Int) := by omega
          have hiw : IntKind.i64.wrap ((i : Int) + 1) = (i : Int) + 1 := IntWalk.i64_in _ (by omega)
          have HND2 := Lib.hid (((HP.out.all (Nat.zero_le _)).nodup_iff).1 HND.out)
          obtain ⟨x, hli⟩ : ∃ x, lc[i]? = some x := ⟨_, List.getElem?_eq_getElem (by omega)⟩
          go_wp2_with fail
          go_loopw [11] (fun jv wr => ∃ j : Nat, jv = .int .i64 (j : Int) ∧ j ≤ i ∧ (j < i → ∀ z, lc[j]? = some z → x < z) ∧ RowI wr g' (rot lc j i (i + 1)) ∧ Fr (fun z => w1.heap.size + 1 ≤ z) wo wr) (fun jv _ => (intOf jv).toNat)
          case atStart => exact ⟨i, rfl, Nat.le_refl _, fun h => absurd h (Nat.lt_irrefl _), by rw [rot_start' (by omega)]; exact HROW1.out, HF0.out⟩
          case round =>
            obtain ⟨j, rfl, hj2, hg, hrow, hfr⟩ := hrel
            have HG := Lib.hid hg
            have HR := Lib.hid hrow
            have HF := Lib.hid hfr
            clear hg hrow hfr HROW1 HF0
            obtain ⟨wj, rfl⟩ : ∃ W : World, W = wr := ⟨_, rfl⟩
            by_cases hja : 0 < j
            · obtain ⟨q, rfl⟩ : ∃ q, j = q + 1 := ⟨j - 1, by omega⟩
              have hqi : q + 1 ≤ i := hj2
              obtain ⟨y, hlq⟩ : ∃ y, lc[q]? = some y := ⟨_, List.getElem?_eq_getElem (by omega)⟩
              have hx : (rot lc (q + 1) i (i + 1))[q + 1]? = some x := by
                rw [rot_lo (by omega) (by omega) (by omega) (Nat.le_refl _) (by omega), show q + 1 - (q + 1) + i = i by omega]; exact hli
              have hy : (rot lc (q + 1) i (i + 1))[q]? = some y := by
                rw [rot_out (by omega) (by omega) (by omega) (.inl (by omega))]; exact hlq
              have x0 := HR.out.at hx
              have y0 := HR.out.at hy
              have hja' : (0 : Int) < (q : Int) + 1 := by omega
              have hj0 : (0 : Int) ≤ (q : Int) := by omega
              have hj1' : (q : Int) < (N : Int) := by omega
              have hj2' : (q : Int) + 1 < (N : Int) := by omega
              have hj3' : (0 : Int) ≤ (q : Int) + 1 := by omega
              have hj4' : q + 1 < N := by omega
              have hj5' : q < N := by omega
              have hw1 : IntKind.i64.wrap ((q : Int) + 1 - 1) = (q : Int) := by rw [IntWalk.i64_in _ (by omega)]; omega
              have hw2 : IntKind.i64.wrap (q : Int) = (q : Int) := IntWalk.i64_in _ (by omega)
              by_cases c1 : x < y
              · have c1z : (x : Int) < (y : Int) := by omega
                go_wp2_with fail
                go_big_quiet (fail)
                obtain ⟨wq, hwq⟩ : ∃ W : World, W = wj.drewN nq := ⟨_, rfl⟩
                have hbq : Below wj.heap.size wj wq := by rw [hwq]; exact below_drewN (Below.refl _ _) _
                rw [← hwq]
                clear hwq x0 y0
                have hrow2 := HR.out.on hbq
                have hfr2 := HF.out.trans (Fr.of_b (may := fun z => w1.heap.size + 1 ≤ z) hbq) (fun _ _ h => h)
                have x0 := hrow2.at hx
                have y0 := hrow2.at hy
                obtain ⟨W9, hW9⟩ : ∃ V, V = (wq.setCell ⟨g', q + 1, none⟩ (.int .i64 (y : Int))).setCell ⟨g', q, none⟩ (.int .i64 (x : Int)) := ⟨_, rfl⟩
                have HSW := Lib.hid (show RowI W9.drew g' (swL (rot lc (q + 1) i (i + 1)) (q + 1) q) by rw [hW9]; exact (hrow2.swap hx hy).on (Below.refl _ _).drew)
                have HFW := Lib.hid (show Fr (fun z => w1.heap.size + 1 ≤ z) wo W9.drew by rw [hW9]; exact (hfr2.trans (iz_fr wq g' (q + 1) q (.int .i64 (y : Int)) (.int .i64 (x : Int))) (fun z _ h => by subst h; exact hgb)).drew)
                have f0 := hrow2.frozen (q + 1)
                have f3' := hrow2.frozen q
                rw [rot_down hqi (by omega)] at HSW
                clear hrow2 hfr2 hbq
                go_wp2_with fail
                go_big_region_o
                rw [← hW9]
                clear hW9 x0 y0 f0 f3'
                go_wp2
                go_roundw
                case rel => exact ⟨q, by go_num, by omega, fun _ z hz => by rw [hlq] at hz; cases hz; exact c1, HSW.out, HFW.out⟩
                case measure => first | (simp [intOf]; done) | (simp [intOf]; omega)
              · have hyx : y < x := by
                  have := nodup_ne HND2.out (p := i) (q := q) (by omega) hli hlq
                  omega
                have c1z : ¬ (x : Int) < (y : Int) := by omega
                have d0 := decide_eq_false c1z
                have HSRT := Lib.hid (ins_right (lt := fun x y : Nat => x < y) (fun _ _ _ h1 h2 => Nat.lt_trans h1 h2) (show i < lc.length by omega) (show 0 ≤ q + 1 by omega) hqi HS.out hli (fun _ z hz => by rw [Nat.add_sub_cancel, hlq] at hz; cases hz; exact hyx) (fun hlt z hz => HG.out hlt z hz))
                go_wp2_with fail
                go_big_quiet (fail)
                have hbq : Below wj.heap.size wj (wj.drewN nq) := below_drewN (Below.refl _ _) _
                have HRN := Lib.hid (show RV (wj.drewN nq) (rot lc (q + 1) i (i + 1)) by rw [HRV.out]; intro g2 e; cases e; exact ⟨hgb, HR.out.on hbq⟩)
                have HFN := Lib.hid (HF.out.trans (Fr.of_b (may := fun z => w1.heap.size + 1 ≤ z) hbq) (fun _ _ h => h))
                clear hbq
                go_wp2
                go_roundw
                case rel => exact ⟨i + 1, _, by go_num, by omega, by omega, HP.out.trans ((rot_perm (by omega) (by omega) (by omega)).within (by omega) (by omega) (by omega) (by omega)), HSRT.out, HRN.out, HFN.out⟩
                case measure => first | (simp [intOf]; done) | (simp [intOf]; omega)
            · obtain rfl : j = 0 := by omega
              have HSRT := Lib.hid (ins_right (lt := fun x y : Nat => x < y) (fun _ _ _ h1 h2 => Nat.lt_trans h1 h2) (show i < lc.length by omega) (Nat.le_refl 0) (Nat.zero_le i) HS.out hli (fun h _ _ => absurd h (by omega)) (fun hlt z hz => HG.out hlt z hz))
              go_wp2_with fail
              go_big_quiet (fail)
              have hbq : Below wj.heap.size wj (wj.drewN nq) := below_drewN (Below.refl _ _) _
              have HRN := Lib.hid (show RV (wj.drewN nq) (rot lc 0 i (i + 1)) by rw [HRV.out]; intro g2 e; cases e; exact ⟨hgb, HR.out.on hbq⟩)
              have HFN := Lib.hid (HF.out.trans (Fr.of_b (may := fun z => w1.heap.size + 1 ≤ z) hbq) (fun _ _ h => h))
              clear hbq
              go_wp2
              go_roundw
              case rel => exact ⟨i + 1, _, by go_num, by omega, by omega, HP.out.trans ((rot_perm (by omega) (by omega) (by omega)).within (by omega) (by omega) (by omega) (by omega)), HSRT.out, HRN.out, HFN.out⟩
              case measure => first | (simp [intOf]; done) | (simp [intOf]; omega)
        · have HPM := Lib.hid (HP.out.all (Nat.zero_le _))
          have HND2 := Lib.hid ((HPM.out.nodup_iff).1 HND.out)
          obtain ⟨ts, hts⟩ : ∃ ts, ts = lc.map fun (x : Nat) => (x : Int) := ⟨_, rfl⟩
          have HTS := Lib.hid hts
          have hsl : ts.length = N := by rw [hts, List.length_map]; exact hlen
          have HSL := Lib.hid hsl
          have HRISE := Lib.hid (show ts.Pairwise (· < ·) by
            rw [hts]
            exact rise_of HND2.out (fun p q x y h1 h2 h3 h4 h5 => HS.out p q x y h1 h2 (by omega) h4 h5))
          have HMT := Lib.hid (show ∀ t, t ∈ ts ↔ t ∈ tms (pts l) from fun t => by
            rw [HMEM.out t, hts, List.mem_map]
            constructor
            · rintro ⟨x, hx, e⟩; exact ⟨x, HPM.out.mem_iff.2 hx, e.symm⟩
            · rintro ⟨x, hx, e⟩; exact ⟨x, HPM.out.mem_iff.1 hx, e.symm⟩)
          have HMM := Lib.hid (show ∀ s ∈ pts l, s.1 ∈ ts ∧ s.1 + s.2 ∈ ts from fun s hs => ⟨(HMT.out _).2 (mem_tms.2 ⟨s, hs, .inl rfl⟩), (HMT.out _).2 (mem_tms.2 ⟨s, hs, .inr rfl⟩)⟩)
          have HP0 := Lib.hid (show ∀ s ∈ pts l, 0 ≤ s.2 from fun s hs => by
            simp only [pts, List.mem_map] at hs
            obtain ⟨x, hx, rfl⟩ := hs
            exact (HF.out x hx).2.2.1)
          have HLV := Lib.hid (lvl_bd ts HRISE.out (pts l) HP0.out HMM.out)
          have hpl : (pts l).length = k := (pts_length l).trans HL.out
          rw [hpl] at HLV
          have HBV := Lib.hid (show Below w.heap.size w wr from HBW.out.trans (HF0.out.below (by omega) (fun i hi => by omega)))
          have hs9 := HBV.out.size
          have hso := HF0.out.size
          have HRVL := Lib.hid (show RV wr lc from HR1.out)
          have HPL := Lib.hid hpl
          clear hts hsl hpl HP HS HR1 HND HTB HN
          obtain ⟨W5, hW5⟩ : ∃ W : World, W = wr := ⟨_, rfl⟩
          subst hW5
          go_wp2_with fail
          go_loopw [12, 13, 14, 15, 16] (fun ov lv iv _ _ wr => ∃ (v2 : Value) (j : Nat), v2 = ov ∧ iv = .int .i64 (j : Int) ∧ lv = .int .i64 (sm (stp (pts l)) (ts.take j)) ∧ j ≤ N ∧ BL2 W5 wr l ts v2 j) (fun _ _ iv _ _ _ => N - (intOf iv).toNat)
          case atStart => exact ⟨.slice none 0 0, 0, rfl, rfl, rfl, Nat.zero_le _, ⟨by simp [cells2, chg], .inl ⟨rfl, by simp [chg]⟩⟩, Fr.refl _ _⟩
          case round =>
            obtain ⟨wo2, hwo2⟩ : ∃ W : World, W = wr := ⟨_, rfl⟩
            subst hwo2
            obtain ⟨v2, j, rfl, rfl, rfl, hj, hown, hf⟩ := hrel
            have hsz := hf.size
            have hcl := chg_length (stp (pts l)) (ts.take j)
            rw [List.length_take] at hcl
            have HO2 := Lib.hid hown
            have HFW := Lib.hid hf
            clear hown hf
            by_cases hjl : j < N
            · obtain ⟨g', hg'⟩ := HSOME.out (by omega)
              subst hg'
              have hR1 := HRVL.out
              rw [HRV.out] at hR1
              obtain ⟨hgb, hrowI⟩ := hR1 g' rfl
              have hgl := hrowI.lt
              obtain ⟨tn, htn⟩ : ∃ tn, lc[j]? = some tn := ⟨_, List.getElem?_eq_getElem (by omega)⟩
              have htj : ts[j]? = some (tn : Int) := by rw [HTS.out, List.getElem?_map, htn]; rfl
              have HCT := Lib.hid (show ∀ W, Below W5.heap.size W5 W → W.cell? ⟨g', j, none⟩ = some (.int .i64 (tn : Int)) from fun W hW => (hrowI.on hW).at htn)
              obtain ⟨hC1, hC2⟩ := chg_ref (pts l) HP0.out ts HRISE.out HMM.out htj
              have HC1 := Lib.hid hC1
              have HC2 := Lib.hid hC2
              have hub := und_bd (pts l) (tn : Int)
              rw [HPL.out] at hub
              have hlv := HLV.out j
              have HSM1 := Lib.hid (show sm (stp (pts l)) (ts.take (j + 1)) = und (pts l) (tn : Int) from by
                rw [List.take_add_one, htj]
                show sm (stp (pts l)) (ts.take j ++ [(tn : Int)]) = _
                rw [sm_snoc, hC1])
              have htnb : tn ≤ 2000000000000 := by
                have h1 := (HMT.out _).1 (List.mem_of_getElem? htj)
                obtain ⟨s, hs, e⟩ := mem_tms.1 h1
                simp only [pts, List.mem_map] at hs
                obtain ⟨z, hz, rfl⟩ := hs
                have := HF.out z hz
                simp only at e
                omega
              obtain ⟨U, hU⟩ : ∃ U : Int, U = und (pts l) (tn : Int) := ⟨_, rfl⟩
              obtain ⟨lv, hlvv⟩ : ∃ lv : Int, lv = sm (stp (pts l)) (ts.take j) := ⟨_, rfl⟩
              rw [← hU] at hub HC2 HSM1
              rw [← hlvv] at hlv HC2 ⊢
              have HU := Lib.hid hU
              clear hR1 hrowI htn htj hC1 hC2 hU hlvv
              have hjz : (j : Int) < (N : Int) := by omega
              have HFB := Lib.hid (show Below W5.heap.size W5 wo2 from HFW.out.below (Nat.le_refl _) (fun i hi => by omega))
              go_wp2_with fail
              go_loopw [15, 16] (fun nv kv wq => ∃ (i : Nat) (u : Int), kv = .int .i64 (i : Int) ∧ nv = .int .i64 u ∧ i ≤ k ∧ u = und (pts (l.take i)) (tn : Int) ∧ Below wo2.heap.size wo2 wq) (fun _ kv _ => k - (intOf kv).toNat)
              case atStart => exact ⟨0, 0, rfl, rfl, Nat.zero_le _, by simp [pts, und], Below.refl _ _⟩
              case round =>
                obtain ⟨i, u, rfl, rfl, hi, hu, hbq⟩ := hrel
                have HU2 := Lib.hid hu
                have HBQ := Lib.hid hbq
                have hbq5 : Below W5.heap.size W5 wr := HFB.out.trans (hbq.mono hsz)
                have hbqw : Below w.heap.size w wr := HBV.out.trans (hbq5.mono hs9)
                have hubi := und_bd (pts (l.take i)) (tn : Int)
                rw [pts_length, List.length_take] at hubi
                rw [← hu] at hubi
                clear hu
                by_cases hil : i < k
                · obtain ⟨bk, o, ⟨a, d, sA, sn, sc, lab, sf⟩, rfl, hbk, hs, c0, c1, -, -⟩ := (HR.out.below hbqw (Nat.le_refl _)).at hil
                  simp only at c0 c1
                  have hfi := HF.out _ (List.mem_of_getElem? hs)
                  simp only at hfi
                  have ct := HCT.out wr hbq5
                  have HPT := Lib.hid (show und (pts (l.take (i + 1))) (tn : Int) = u + if a ≤ (tn : Int) ∧ (tn : Int) < a + d then 1 else 0 by
                    rw [pts_take l i _ hs, und_snoc, ← HU2.out])
                  have hw1 : IntKind.i64.wrap (a + d) = a + d := IntWalk.i64_in _ (by omega)
                  have hw2 : IntKind.i64.wrap (u + 1) = u + 1 := IntWalk.i64_in _ (by omega)
                  have hilz : (i : Int) < (k : Int) := by omega
                  clear hs hbq hbq5 hbqw hfi
                  by_cases e1 : a ≤ (tn : Int)
                  · have e1z : decide (a ≤ (tn : Int)) = true := by simpa using e1
                    by_cases e2 : (tn : Int) < a + d
                    · have e2z : decide ((tn : Int) < a + d) = true := by simpa using e2
                      have HN1 := Lib.hid (show u + 1 = und (pts (l.take (i + 1))) (tn : Int) by rw [HPT.out, if_pos ⟨e1, e2⟩])
                      clear e1 e2
                      go_wp2_with fail
                      go_big_quiet (fail)
                      go_wp2
                      go_roundw
                      case rel => exact ⟨i + 1, u + 1, by go_num, by first | rfl | go_num, by omega, HN1.out, below_drewN HBQ.out _⟩
                      case measure => simp [intOf]; omega
                    · have e2z : decide ((tn : Int) < a + d) = false := by simpa using e2
                      have HN1 := Lib.hid (show u = und (pts (l.take (i + 1))) (tn : Int) by rw [HPT.out, if_neg (fun h => e2 h.2)]; omega)
                      clear e1 e2
                      go_wp2_with fail
                      go_big_quiet (fail)
                      go_wp2
                      go_roundw
                      case rel => exact ⟨i + 1, u, by go_num, rfl, by omega, HN1.out, below_drewN HBQ.out _⟩
                      case measure => simp [intOf]; omega
                  · have e1z : decide (a ≤ (tn : Int)) = false := by simpa using e1
                    have HN1 := Lib.hid (show u = und (pts (l.take (i + 1))) (tn : Int) by rw [HPT.out, if_neg (fun h => e1 h.1)]; omega)
                    clear e1
                    go_wp2_with fail
                    go_big_quiet (fail)
                    go_wp2
                    go_roundw
                    case rel => exact ⟨i + 1, u, by go_num, rfl, by omega, HN1.out, below_drewN HBQ.out _⟩
                    case measure => simp [intOf]; omega
                · obtain rfl : u = U := by
                    have := HU2.out
                    rw [List.take_of_length_le (by rw [HL.out]; omega)] at this
                    rw [HU.out]; exact this
                  have HB2 := Lib.hid hbq5
                  have HO3 := Lib.hid (show wr.ownsRow W5.heap.size 76 2 v2 (chg (stp (pts l)) (ts.take j)).length (cells2 (chg (stp (pts l)) (ts.take j))) from ownsRow_fr HO2.out (Fr.of_below hbq) (fun i hi => by have := ownsRow_block HO2.out hi; omega))
                  have HFR3 := Lib.hid (show Fr (fun i => W5.heap.size ≤ i) W5 wr from HFW.out.trans (Fr.of_below hbq) (fun i _ h => by omega))
                  have ct := HCT.out wr hbq5
                  have hs3 := hbq.size
                  clear hbq hbq5 hbqw HBQ HU2 hubi
                  by_cases hne : u = lv
                  · have hnez : (u != lv) = false := by simpa using hne
                    have HC3 := Lib.hid (show BL2 W5 wr l ts v2 (j + 1) from ⟨by rw [HC2.out, if_pos hne]; exact HO3.out, HFR3.out⟩)
                    have HSM2 := Lib.hid (show lv = sm (stp (pts l)) (ts.take (j + 1)) by rw [HSM1.out, hne])
                    clear hne
                    go_wp2
                    go_roundw
                    case rel => exact ⟨v2, j + 1, rfl, by go_num, by rw [HSM2.out], by omega, HC3.out⟩
                    case measure => simp [intOf]; omega
                  · have hnez : (u != lv) = true := by simpa using hne
                    have HCC := Lib.hid (show chg (stp (pts l)) (ts.take (j + 1)) = chg (stp (pts l)) (ts.take j) ++ [((tn : Int), u)] by rw [HC2.out, if_neg hne])
                    clear hne
                    go_wp2_with (at_builtin; refine wpList_append_own _ rfl (.tmp 144) (.tmp 151) 38 rfl W5.heap.size 76 i1 _ 2 16 Tryz.underlying38 hi' hz0' hz1' hz2' rfl (by decide) v2 _ _ rfl (HO3.out.alloc _) ⟨wr.heap.size, 0, none⟩ 1 1 [.int .i64 (tn : Int), .int .i64 u] rfl rfl (cell_two_new _ _ _ _) (by simp [Value.oneCell']) ?c3 ?c4 ?c5 ?_)
                    case c3 => unfold maxLen; omega
                    case c4 => omega
                    case c5 => simp; omega
                    intro v' w6 hown6 hgrow6 _
                    have hf6 := (((Fr.refl (fun i => some i = v2.ownBlock) wr).alloc (.cells #[.int .i64 (tn : Int), .int .i64 u] 76)).trans (Fr.of_grown hgrow6) (fun i _ h => h))
                    have HC3 := Lib.hid (show BL2 W5 w6 l ts v' (j + 1) from ⟨by
                      rw [HCC.out, cells2_append, List.length_append]
                      simpa [cells2] using hown6, HFR3.out.trans hf6 (fun i _ h => (ownsRow_block HO3.out h).1)⟩)
                    have HSM2 := Lib.hid HSM1.out.symm
                    clear hown6 hgrow6 hf6
                    go_wp2
                    go_roundw
                    case rel => exact ⟨v', j + 1, rfl, by go_num, by rw [← HSM2.out], by omega, HC3.out⟩
                    case measure => simp [intOf]; omega
            · obtain rfl : j = N := by omega
              obtain ⟨A3, c3, rfl, _, _, _⟩ := ownsRow_shape HO2.out
              have htk : ts.take j = ts := List.take_of_length_le (by rw [HSL.out]; exact Nat.le_refl _)
              rw [htk] at HO2 hcl
              have hcn : (chg (stp (pts l)) (ts.take j)).length = (chg (stp (pts l)) ts).length := by rw [htk]
              have HRD := Lib.hid ((Rd.of_own HO2.out).more (L' := w.heap.size) (by omega) (Nat.le_refl _))
              have HTY := Lib.hid (TyB.of_own HO2.out)
              have HBF := Lib.hid (show Below w.heap.size w wo2 from HBV.out.trans ((HFW.out.below (B := w.heap.size) (by omega) (fun i hi => by omega))))
              clear HO2
              go_wp2
              go_ret2
              refine ⟨A3, c3, ts, by rw [← hcn]; rfl, HRISE.out, HMT.out, by rw [HSL.out]; exact hTL, HRD.out, HBF.out, HTY.out⟩
end Go.Proofs.YtjkoppdddaknlaaGreatDoor
