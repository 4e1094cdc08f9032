/- Group of the program. -/
import Derived.Test.YtjkoppdddaknlaaGreatDoorG35
import Derived.Test.YtjkoppdddaknlaaGreatDoorGrpRows
import Derived.Deep.AppendLies
import Derived.Deep.RegionHeld3
namespace Go.Proofs.YtjkoppdddaknlaaGreatDoor
open Go Go.RowKit Go.Proofs Go.Maps

theorem rowM (A : Option Addr) (n c : Nat) (A' : Option Addr) (n' c' : Nat) (f : Int) (W : World) : (Instr.build 64 #[(0, .slice A n c), (1, .agg #[.int .i64 8, .slice A' n' c']), (2, .int .i64 f)]).run Tryz.prog W = .ok (.agg #[.slice A n c, .int .i64 8, .slice A' n' c', .int .i64 f]) W := by kernel_rfl
theorem infoIn : (Tryz.prog.info? 3).map (fun i => (i.zero, i.size, i.bytes)) = some (some (.int .i64 0), 1, 8) := by kernel_rfl
theorem infoK5 : (Tryz.prog.info? 53).map (fun i => (i.zero, i.size, i.bytes)) = some (some (.agg #[.string ⟨#[]⟩, .string ⟨#[]⟩, .string ⟨#[]⟩, .string ⟨#[]⟩, .string ⟨#[]⟩]), 5, 80) := by kernel_rfl
theorem RowW.app {w w1 : World} {base : Nat} {v u : Value} {L : List RowX} {r : RowX} (h : RowW w base v L) (hown : w1.ownsRow base 64 4 u (L.length + 1) (rowCells L ++ rowC r)) (hf : Fr (fun i => some i = v.ownBlock) w w1) (hat : v.ownBlock = u.ownBlock ∨ ∀ b, some b = u.ownBlock → w.heap.size ≤ b) (hr : RowP w base v r) : RowW w1 base u (L ++ [r]) := by
  have hmv : ∀ b, base ≤ b → b < w.heap.size → some b ≠ v.ownBlock → ¬ some b = v.ownBlock ∧ some b ≠ u.ownBlock := fun b _ hb hne => ⟨hne, fun e => by
    rcases hat with h1 | h1
    · rw [← h1] at e; exact hne e
    · have := h1 b e; omega⟩
  have e1 : rowCells (L ++ [r]) = rowCells L ++ rowC r := by rw [rowCells_append]; rfl
  refine ⟨by rw [List.length_append, e1]; exact hown, fun x hx => ?_⟩
  rcases List.mem_append.1 hx with h1 | h1
  · exact (h.2 x h1).move hf hmv
  · simp only [List.mem_singleton] at h1
    subst h1
    exact hr.move hf hmv
theorem pad_set {vs : List ByteArray} {k : Nat} {y : ByteArray} (hk : vs[k]? = some y) (h5 : vs.length ≤ 5) : (strC (padV (vs.take k))).toArray.setIfInBounds k (.string y) = (strC (padV (vs.take (k + 1)))).toArray := by
  have hkl := (List.getElem?_eq_some_iff.1 hk).1
  have e1 : (vs.take k).length = k := by rw [List.length_take]; omega
  have e2 : (vs.take (k + 1)).length = k + 1 := by rw [List.length_take]; omega
  rw [List.setIfInBounds_toArray]
  congr 1
  unfold padV
  rw [e1, e2, List.take_add_one, hk, show 5 - k = 5 - (k + 1) + 1 by omega, List.replicate_succ]
  unfold strC
  rw [List.map_append, List.map_append, List.map_cons, List.set_append_right _ _ (by rw [List.length_map, e1]; exact Nat.le_refl _), List.length_map, e1, Nat.sub_self]
  simp
set_option maxHeartbeats 16000000 in
set_option maxRecDepth 100000 in
theorem group_any (A Ak : Option Addr) (n c ck : Nat) (l : List Smp) (keys : List ByteArray) (w : World) (hr : SmpR w w.heap.size A n l) (hn : n ≤ maxLen) (hk : Rd w 0 w.heap.size 1 Ak keys.length (strC keys)) (hkl : keys.length ≤ maxLen) (hck : keys.length ≤ ck) (hlb : ∀ s ∈ l, ∀ nm, (labV s.lab nm).size ≤ maxLen) :
    Calls Tryz.prog 4 #[.slice A n c, .slice Ak keys.length ck] w (GPost n l keys w) := by
  obtain ⟨is, his, hsz0, hsz1, hsz2⟩ := info_parts infoSt
  obtain ⟨ir, hir, hrz0, hrz1, hrz2⟩ := info_parts infoRw
  obtain ⟨ii, hii, hiz0, hiz1, hiz2⟩ := info_parts infoIn
  obtain ⟨ik, hik, hkz0, hkz1, hkz2⟩ := info_parts infoK5
  have hmm := @run_makeMap Tryz.prog
  unfold maxLen at hn hkl
  have hl := hr.len
  have HR := Lib.hid hr
  have HL := Lib.hid hl
  have HK := Lib.hid hk
  have HCK := Lib.hid (checkSamples_any A n c l w hr (by unfold maxLen; omega))
  obtain ⟨m, hm⟩ : ∃ m, m = keys.length := ⟨_, rfl⟩
  have HM := Lib.hid hm
  rw [← hm] at hkl hck ⊢
  have mixed : Tryz.prog.follows Departure.mixedOrders = true := by kernel_rfl
  clear hr hl hk hm
  go_enter Tryz.func4, Tryz.ntmps4
  go_wp2_with fail
  (with_reducible refine (HCK.out).mono ?_)
  rintro e w1 ⟨rfl, hb1⟩
  have HB1 := Lib.hid hb1
  clear hb1 HCK
  obtain ⟨cc, hcc⟩ : ∃ z, z = codeS n l := ⟨_, rfl⟩
  rw [← hcc]
  by_cases hc0 : cc = 0
  · subst hc0
    obtain ⟨hn2, hfine⟩ := codeS_zero hcc.symm
    have HF := Lib.hid hfine
    have HCC := Lib.hid hcc
    clear hcc hfine
    by_cases hm5 : 5 < m
    · have HC := Lib.hid (show codeG n l keys = 3 by unfold codeG; rw [if_neg (by rw [← HCC.out]; simp), if_pos (by rw [← HM.out]; exact hm5)])
      have hm5z : (5 : Int) < (m : Int) := by omega
      go_wp2
      go_ret2
      exact ⟨HB1.out, .inl ⟨by rw [HC.out]; decide, by rw [HC.out]; rfl⟩⟩
    · have hm5z : ¬ (5 : Int) < (m : Int) := by omega
      go_wp2
      go_loopw [7, 8, 30] (fun _ _ iv wr => ∃ i : Nat, iv = .int .i64 (i : Int) ∧ i ≤ m ∧ (keys.take i).Nodup ∧ Below w.heap.size w wr) (fun _ _ iv _ => m - (intOf iv).toNat)
      case atStart => exact ⟨0, rfl, Nat.zero_le _, by simp, HB1.out⟩
      case round =>
        obtain ⟨i, rfl, hi, hnd, hbw⟩ := hrel
        have HND := Lib.hid hnd
        have HBW := Lib.hid hbw
        clear hnd
        by_cases him : i < m
        · obtain ⟨b, o, x, hAk, hb, hx, kx⟩ := (HK.out.below hbw (Nat.le_refl _)).atS (show i < keys.length by rw [← HM.out]; exact him)
          subst hAk
          have HX := Lib.hid hx
          have HKR := Lib.hid (HK.out.below hbw (Nat.le_refl _))
          have himz : (i : Int) < (m : Int) := by omega
          have hick : i ≤ ck := by omega
          have HCT := Lib.hid (show ∃ bv, (bv = true ↔ x ∈ keys.take i) ∧ Calls Tryz.prog 17 #[.slice (some ⟨b, o, none⟩) i ck, .string x] wr (fun e w' => e = .returned (.bool bv) ∧ w' = wr) from
            ⟨Lib.containsS (keys.take i) x, Lib.containsS_iff _ _, Tryz.slices_Contains_string b o i ck keys x wr (by rw [← HM.out]; omega) (by omega) (fun q hq => by
              obtain ⟨b', o', z, e', _, hz, hc⟩ := HKR.out.atS hq
              cases e'
              rw [hc, List.getD_eq_getElem?_getD, hz]; rfl)⟩)
          obtain ⟨bv, hbv, hct⟩ := HCT.out
          have HBV := Lib.hid hbv
          have HCA := Lib.hid hct
          clear hx hbw hbv hct HCT
          cases bv with
          | true =>
            have HC := Lib.hid (show codeG n l keys = 5 by
              unfold codeG
              rw [if_neg (by rw [← HCC.out]; simp), if_neg (by rw [← HM.out]; omega), if_neg]
              intro hd
              have hxm := HBV.out.1 rfl
              obtain ⟨q, hq, e⟩ := List.getElem_of_mem hxm
              rw [List.length_take] at hq
              rw [List.getElem_take] at e
              obtain ⟨h3, h4⟩ := List.getElem?_eq_some_iff.1 HX.out
              have hqk : q < keys.length := by omega
              have := (List.getElem_inj hd (h₀ := hqk) (h₁ := h3)).1 (by rw [h4]; exact e)
              omega)
            go_wp2_with fail
            (with_reducible refine (HCA.out).mono ?_)
            rintro e w2 ⟨rfl, rfl⟩
            go_wp2
            go_ret2
            exact ⟨HBW.out, .inl ⟨by rw [HC.out]; decide, by rw [HC.out]; rfl⟩⟩
          | false =>
            have HND2 := Lib.hid (show (keys.take (i + 1)).Nodup by
              rw [List.take_add_one, HX.out]
              show (keys.take i ++ [x]).Nodup
              rw [List.nodup_append]
              exact ⟨HND.out, by simp, fun a ha b hb e => by
                simp only [List.mem_singleton] at hb
                subst hb
                subst e
                have := HBV.out.2 ha
                cases this⟩)
            go_wp2_with fail
            (with_reducible refine (HCA.out).mono ?_)
            rintro e w2 ⟨rfl, rfl⟩
            go_wp2
            go_roundw
            case rel => exact ⟨i + 1, by go_num, by omega, HND2.out, HBW.out⟩
            case measure => simp [intOf]; omega
        · obtain rfl : i = m := by omega
          have HCZ := Lib.hid (show codeG n l keys = 0 by
            unfold codeG
            have := HND.out
            rw [List.take_of_length_le (by rw [← HM.out]; exact Nat.le_refl _)] at this
            rw [if_neg (by rw [← HCC.out]; simp), if_neg (by rw [← HM.out]; omega), if_pos this])
          obtain ⟨wS, hwS⟩ : ∃ W : World, W = wr := ⟨_, rfl⟩
          subst hwS
          have hsS := HBW.out.size
          clear HND hbw
          go_wp2
          clear hmm
          go_loopw [11, 13, 14, 15, 16, 45] (fun ov _ _ _ _ iv wr => ∃ (v : Value) (S : List (List ByteArray)) (j : Nat) (fT fF : List ByteArray → Option Value), v = ov ∧ iv = .int .i64 (j : Int) ∧ j ≤ n ∧ S.length ≤ j ∧ TK wr wS.heap.size wS.heap.size fT (padL keys l) (dW l) j ∧ FL wr (wS.heap.size + 1) fF (padL keys l) (flW l) j ∧ ORD wr wS.heap.size v S (padL keys l) j ∧ Below wS.heap.size wS wr) (fun _ _ _ _ _ iv _ => n - (intOf iv).toNat)
          case atStart =>
            have hm1 := (mapK_made wS)
            have hm2 := mapK_made (wS.alloc (Obj.map #[] 0))
            rw [show (wS.alloc (Obj.map #[] 0)).heap.size = wS.heap.size + 1 by simp] at hm2
            refine ⟨.slice none 0 0, [], 0, fun _ => none, fun _ => none, rfl, rfl, Nat.zero_le _, Nat.le_refl _, TK.zero (hm1.on ((Below.refl _ _).alloc (Nat.le_refl _) _)), FL.zero hm2, ORD.zero, ((Below.refl _ _).alloc (Nat.le_refl _) _).alloc (by simp) _⟩
          case round =>
            obtain ⟨wo, hwo⟩ : ∃ W : World, W = wr := ⟨_, rfl⟩
            subst hwo
            obtain ⟨v, S, j, fT, fF, rfl, rfl, hj, hSj, htk, hfl, hord, hbw⟩ := hrel
            have hszo := hbw.size
            have HTK := Lib.hid htk
            have HFL := Lib.hid hfl
            have HORD := Lib.hid hord
            have HBO := Lib.hid hbw
            have HBWO := Lib.hid (show Below w.heap.size w wo from HBW.out.trans (hbw.mono hsS))
            clear htk hfl hord hbw
            by_cases hjn : j < n
            · have HSM := Lib.hid (show ∃ s, l[j]? = some s from ⟨_, List.getElem?_eq_getElem (by rw [HL.out]; exact hjn)⟩)
              obtain ⟨⟨a, d, sA, sn, sc, lab, sf⟩, hs⟩ := HSM.out
              have HS := Lib.hid hs
              have hfi := HF.out _ (List.mem_of_getElem? hs)
              simp only at hfi
              have hrl := (HR.out.2 _ (List.mem_of_getElem? hs))
              simp only at hrl
              obtain ⟨hrl1, hrl2⟩ := hrl
              have HLAB := Lib.hid (show ∀ W, Below w.heap.size w W → Rd W 0 W.heap.size 2 sA sn (strs2 lab) from fun W hW => (hrl1.below hW (Nat.le_refl _)).more (Nat.le_refl _) hW.size)
              obtain ⟨bs, os, s', hA, hbs, hs', c0, c1, c2, c3⟩ := (HR.out.below HBWO.out (Nat.le_refl _)).at hjn
              rw [HS.out] at hs'
              cases hs'
              simp only at c0 c1 c2 c3
              subst hA
              have HKF := Lib.hid (kfL_at (keys := keys) hs)
              simp only at HKF
              clear hs hrl1 HSM
              have hjnz : (j : Int) < (n : Int) := by omega
              go_wp2
              obtain ⟨W1, hW1⟩ : ∃ W : World, W = ((wo.alloc (Obj.cells #[Value.int .i64 a, Value.int .i64 d, Value.slice sA sn sc, Value.bool sf] 52)).alloc (Obj.cells #[Value.string ⟨#[]⟩, Value.string ⟨#[]⟩, Value.string ⟨#[]⟩, Value.string ⟨#[]⟩, Value.string ⟨#[]⟩] 53)) := ⟨_, rfl⟩
              have HST1 := Lib.hid (show St wo W1 [(wo.heap.size, Obj.cells #[Value.int .i64 a, Value.int .i64 d, Value.slice sA sn sc, Value.bool sf] 52 (0, 0)), (wo.heap.size + 1, Obj.cells (strC (padV ((keys.map (labV lab)).take 0))).toArray 53 (0, 0))] by rw [hW1]; exact ((St.start wo).alloc _ _ rfl).alloc _ _ (by simp))
              rw [← hW1]
              clear hW1 c0 c1 c2 c3
              go_loopw [15, 16, 51] (fun _ _ kv W => ∃ k : Nat, kv = .int .i64 (k : Int) ∧ k ≤ i ∧ St wo W [(wo.heap.size, Obj.cells #[Value.int .i64 a, Value.int .i64 d, Value.slice sA sn sc, Value.bool sf] 52 (0, 0)), (wo.heap.size + 1, Obj.cells (strC (padV ((keys.map (labV lab)).take k))).toArray 53 (0, 0))]) (fun _ _ kv _ => i - (intOf kv).toNat)
              case atStart => exact ⟨0, rfl, Nat.zero_le _, HST1.out⟩
              case round =>
                obtain ⟨k, rfl, hki, hst⟩ := hrel
                have HST := Lib.hid hst
                have hbww : Below w.heap.size w wr := HBWO.out.trans (hst.below.mono HBWO.out.size)
                have HBWW := Lib.hid hbww
                clear hst
                by_cases hlt : k < i
                · obtain ⟨b, o, x, hAk, hb, hx, kx⟩ := (HK.out.below hbww (Nat.le_refl _)).atS (show k < keys.length by rw [← HM.out]; exact hlt)
                  subst hAk
                  have HX := Lib.hid hx
                  have q0 : wr.cell? ⟨wo.heap.size, 0, none⟩ = some (.int .i64 a) := HST.out.cell 0 0 rfl rfl
                  have q1 : wr.cell? ⟨wo.heap.size, 1, none⟩ = some (.int .i64 d) := HST.out.cell 0 1 rfl rfl
                  have q2 : wr.cell? ⟨wo.heap.size, 2, none⟩ = some (.slice sA sn sc) := HST.out.cell 0 2 rfl rfl
                  have q3 : wr.cell? ⟨wo.heap.size, 3, none⟩ = some (.bool sf) := HST.out.cell 0 3 rfl rfl
                  have HLB := Lib.hid (label_any a d sA sn sc lab sf x wr (HLAB.out wr hbww) hrl2)
                  have hltz : (k : Int) < (i : Int) := by omega
                  clear hx hbww
                  go_wp2_with fail
                  (with_reducible refine (HLB.out).mono ?_)
                  rintro e w5 ⟨rfl, hb5⟩
                  have HST5 := Lib.hid (HST.out.call hb5)
                  obtain ⟨y, hy⟩ : ∃ y, (strC (padV ((keys.map (labV lab)).take k))).toArray[k]? = some y := ⟨_, Array.getElem?_eq_getElem (by
                    have : (padV ((keys.map (labV lab)).take k)).length = 5 := padV_length (by rw [List.length_take, List.length_map, ← HM.out]; omega)
                    simp only [List.size_toArray, strC, List.length_map]
                    omega)⟩
                  have z0 : w5.cell? ⟨wo.heap.size + 1, k, none⟩ = some y := HST5.out.cell 1 k rfl hy
                  have z1 : w5.frozen? ⟨wo.heap.size + 1, k, none⟩ = false := HST5.out.frozen 1 k rfl
                  have hkk5 : k < 5 := by omega
                  clear hb5 HLB q0 q1 q2 q3 kx hy
                  have HST6 := Lib.hid (show St wo (w5.setCell ⟨wo.heap.size + 1, k, none⟩ (.string (labV lab x))) [(wo.heap.size, Obj.cells #[Value.int .i64 a, Value.int .i64 d, Value.slice sA sn sc, Value.bool sf] 52 (0, 0)), (wo.heap.size + 1, Obj.cells (strC (padV ((keys.map (labV lab)).take (k + 1)))).toArray 53 (0, 0))] by
                    have := St.setLast [(wo.heap.size, Obj.cells #[Value.int .i64 a, Value.int .i64 d, Value.slice sA sn sc, Value.bool sf] 52 (0, 0))] k (.string (labV lab x)) HST5.out (by simp)
                    rw [pad_set (by rw [List.getElem?_map, HX.out]; rfl) (by rw [List.length_map, ← HM.out]; omega)] at this
                    exact this)
                  go_wp2
                  go_roundw
                  case rel => exact ⟨k + 1, by go_num, by omega, HST6.out⟩
                  case measure => simp [intOf]; omega
                · obtain rfl : k = i := by omega
                  obtain ⟨wk, hwk⟩ : ∃ W : World, W = wr := ⟨_, rfl⟩
                  subst hwk
                  have hkk : (keys.map (labV lab)).take k = keys.map (labV lab) := List.take_of_length_le (by rw [List.length_map, ← HM.out]; exact Nat.le_refl _)
                  obtain ⟨pk, hpk⟩ : ∃ pk, pk = padL keys l j := ⟨_, rfl⟩
                  have HPK := Lib.hid hpk
                  have hpk2 : pk = padV (keys.map (labV lab)) := by rw [hpk]; unfold padL; rw [HKF.out]
                  have HOK := Lib.hid (show OkK pk from ⟨by rw [hpk2]; exact padV_length (by rw [List.length_map, ← HM.out]; omega), fun s hs => by
                    rw [hpk2] at hs
                    unfold padV at hs
                    rcases List.mem_append.1 hs with h | h
                    · obtain ⟨nm, _, rfl⟩ := List.mem_map.1 h
                      exact hlb _ (List.mem_of_getElem? HS.out) nm
                    · have := List.eq_of_mem_replicate h
                      subst this
                      exact Nat.zero_le _⟩)
                  obtain ⟨y0, y1, y2, y3, y4, hy⟩ : ∃ y0 y1 y2 y3 y4, pk = [y0, y1, y2, y3, y4] := by
                    match pk, HOK.out.1 with
                    | [a, b, c, d, e], _ => exact ⟨a, b, c, d, e, rfl⟩
                  have HKV := Lib.hid (show kvK pk = .agg #[.string y0, .string y1, .string y2, .string y3, .string y4] by rw [hy]; rfl)
                  have HSC := Lib.hid (show strC pk = [.string y0, .string y1, .string y2, .string y3, .string y4] by rw [hy]; rfl)
                  have HBS := Lib.hid (show wk.heap[wo.heap.size]? = some (.cells #[Value.int .i64 a, Value.int .i64 d, Value.slice sA sn sc, Value.bool sf] 52 (0, 0)) from HST.out.at 0 rfl)
                  have HB2 := Lib.hid (show wk.heap[wo.heap.size + 1]? = some (.cells #[.string y0, .string y1, .string y2, .string y3, .string y4] 53 (0, 0)) by
                    have := HST.out.at 1 rfl
                    rw [hkk, ← hpk2, HSC.out] at this
                    exact this)
                  have hbk : Below wo.heap.size wo wk := HST.out.below
                  have hszk := hbk.size
                  have HBK := Lib.hid hbk
                  have HTKK := Lib.hid (HTK.out.on hbk)
                  have HFLK := Lib.hid (HFL.out.on hbk)
                  have HORDK := Lib.hid (HORD.out.on hbk)
                  have k0 : wk.cell? ⟨wo.heap.size + 1, 0, none⟩ = some (.string y0) := cellsAt HB2.out 0
                  have k1 : wk.cell? ⟨wo.heap.size + 1, 1, none⟩ = some (.string y1) := cellsAt HB2.out 1
                  have k2 : wk.cell? ⟨wo.heap.size + 1, 2, none⟩ = some (.string y2) := cellsAt HB2.out 2
                  have k3 : wk.cell? ⟨wo.heap.size + 1, 3, none⟩ = some (.string y3) := cellsAt HB2.out 3
                  have k4 : wk.cell? ⟨wo.heap.size + 1, 4, none⟩ = some (.string y4) := cellsAt HB2.out 4
                  obtain ⟨zs, hzs⟩ : ∃ zs, zs = tkK (padL keys l) (dW l) j pk := ⟨_, rfl⟩
                  obtain ⟨u0, hu0⟩ : ∃ u0, u0 = (fT pk).getD nilV := ⟨_, rfl⟩
                  have HZS := Lib.hid hzs
                  have HU0 := Lib.hid hu0
                  have hzj : zs.length ≤ j := by rw [hzs]; exact ofK_length _ _ _ _
                  have HOW0 := Lib.hid (show wk.ownsRow wS.heap.size 3 1 u0 zs.length (ints zs) by rw [hu0, hzs]; exact HTKK.out.own pk)
                  obtain ⟨uA, uc, hu, _, _, _⟩ := ownsRow_shape HOW0.out
                  have HLK := lookK_run Tryz.underlying47 HTKK.out.map pk HOK.out (z := nilV) (by kernel_rfl)
                  rw [HKV.out, ← hu0, hu] at HLK
                  have HUS := Lib.hid hu
                  obtain ⟨nz, hnz⟩ : ∃ nz, nz = zs.length := ⟨_, rfl⟩
                  have HNZ := Lib.hid hnz
                  rw [← hnz] at HLK
                  have hnzj : nz ≤ j := by rw [hnz]; exact hzj
                  clear hnz hzj hkk hpk2 hy hzs hu0 hu hbk HST HST1 HBWW
                  by_cases hnew : nz = 0
                  · have HTN := Lib.hid (show tkK (padL keys l) (dW l) j (padL keys l j) = [] from List.eq_nil_of_length_eq_zero (by rw [← HPK.out, ← HZS.out, ← HNZ.out]; exact hnew))
                    have hnzz : (nz : Int) = 0 := by omega
                    go_upto_region 25 with fail
                    clear hnzz hnew
                    go_wp2_with (at_builtin; go_loud (refine wpList_append_lies _ rfl (.tmp 67) (.tmp 69) 49 rfl wS.heap.size 53 ik _ 5 80 Tryz.underlying49 hik hkz0 hkz1 hkz2 rfl (by decide) v S.length (keyCells S) rfl (HORDK.out.own.alloc _) ⟨wk.heap.size, 0, none⟩ 1 1 [.string y0, .string y1, .string y2, .string y3, .string y4] rfl rfl (World.news_of_block (cs := #[.string y0, .string y1, .string y2, .string y3, .string y4]) (t := 53) (fr := (0, 0)) (heap_alloc_new wk _)) (by simp [Value.oneCell']) (by decide) ?h63 ?hby ?hba (wk.heap.size + 1) (by simp) ?_))
                    case h63 => unfold maxLen; omega
                    case hby => omega
                    case hba => show wS.heap.size ≤ (wk.heap.push _).size; simp; omega
                    intro g7 cap7 w7 hown7 hgrow7 hat7 hlt7

                    have hF7 : Fr (fun i => some i = v.ownBlock) wk w7 := (((Fr.refl (fun i => some i = v.ownBlock) wk).alloc (Obj.cells #[.string y0, .string y1, .string y2, .string y3, .string y4] 53)).trans (Fr.of_grown hgrow7) (fun i _ h => h))
                    have hvlt : ∀ b, some b = v.ownBlock → wS.heap.size ≤ b ∧ b < wo.heap.size := fun b hb => ownsRow_block HORD.out.own hb
                    have HTKX := Lib.hid (HTKK.out.fr hF7 (map_ne HTKK.out.map HORDK.out.own) (fun x b hb => own_ne (HTKK.out.own x) HORDK.out.own (by decide) b hb))
                    have HFLX := Lib.hid (HFLK.out.fr hF7 (map_ne HFLK.out.map HORDK.out.own))
                    obtain ⟨vx, hvx⟩ : ∃ vx, vx = Value.slice (some ⟨g7, 0, none⟩) (S.length + 1) cap7 := ⟨_, rfl⟩
                    have HORDX := Lib.hid (show ORD w7 wS.heap.size vx (S ++ [padL keys l j]) (padL keys l) (j + 1) from HORDK.out.new HTN.out (by rw [hvx, ← HPK.out, HSC.out]; exact hown7))
                    have HBSX := Lib.hid ((hF7.block wo.heap.size (heap_lt HBS.out) (fun hm => by have := (hvlt _ hm).2; omega)).trans HBS.out)
                    have HB2X := Lib.hid ((hF7.block (wo.heap.size + 1) (heap_lt HB2.out) (fun hm => by have := (hvlt _ hm).2; omega)).trans HB2.out)
                    have HBX := Lib.hid (show Below wS.heap.size wS w7 from (HBO.out.trans (HBK.out.mono hszo)).trans (hF7.below (by omega) (fun i hi hm => by have := (hvlt _ hm).1; omega)))
                    obtain ⟨Sx, hSx⟩ : ∃ Sx, Sx = S ++ [padL keys l j] := ⟨_, rfl⟩
                    have hSl : Sx.length ≤ j + 1 := by rw [hSx]; simp; omega
                    rw [← hSx] at HORDX
                    clear hown7 hgrow7 hat7 hlt7 hF7 hvlt hSx k0 k1 k2 k3 k4 HLK
                    go_upto_region 26 with fail
                    rw [← hvx]
                    clear hvx
                    obtain ⟨wx, hwx⟩ : ∃ W : World, W = w7 := ⟨_, rfl⟩
                    subst hwx
                    have k0 : wx.cell? ⟨wo.heap.size + 1, 0, none⟩ = some (.string y0) := cellsAt HB2X.out 0
                    have k1 : wx.cell? ⟨wo.heap.size + 1, 1, none⟩ = some (.string y1) := cellsAt HB2X.out 1
                    have k2 : wx.cell? ⟨wo.heap.size + 1, 2, none⟩ = some (.string y2) := cellsAt HB2X.out 2
                    have k3 : wx.cell? ⟨wo.heap.size + 1, 3, none⟩ = some (.string y3) := cellsAt HB2X.out 3
                    have k4 : wx.cell? ⟨wo.heap.size + 1, 4, none⟩ = some (.string y4) := cellsAt HB2X.out 4
                    have b1 : wx.cell? ⟨wo.heap.size, 1, none⟩ = some (.int .i64 d) := cellsAt HBSX.out 1
                    have HTKA := Lib.hid (HTKX.out.on ((Below.refl wx.heap.size wx).alloc (Nat.le_refl _) (Obj.cells #[Value.int .i64 d] 3)))
                    have hmlt := HTK.out.map.lt
                    have hult : ∀ b, some b = u0.ownBlock → wS.heap.size ≤ b ∧ b < wo.heap.size := fun b hb => by rw [HU0.out] at hb; exact ownsRow_block (HTK.out.own pk) hb
                    have hszx := HBX.out.size
                    have h2x := heap_lt HB2X.out
                    obtain ⟨st, w1', hE, hgE, hsE, hmE, -, hSt⟩ := entryK Tryz.underlying47 HTKA.out.map (by omega) pk HOK.out (z := nilV) (fun u => by kernel_rfl)
                    rw [HKV.out, ← HU0.out] at hE
                    have HSTO := Lib.hid hSt
                    have HGE := Lib.hid hgE
                    have HSE := Lib.hid hsE
                    have HUM := Lib.hid (show ∀ b, some b = u0.ownBlock → b ≠ wS.heap.size from fun b hb e => map_ne HTKX.out.map (HTKX.out.own pk) (by rw [← HU0.out, ← e]; exact hb))
                    have HOW1 := Lib.hid (show w1'.ownsRow wS.heap.size 3 1 u0 nz (ints zs) by
                      have := HTKA.out.own pk
                      rw [← HU0.out, ← HZS.out, ← HNZ.out] at this
                      exact ownsRow_fr this (Fr.of_grown hgE) (fun i hi hm => HUM.out i hi (Option.some.inj hm)))
                    have HNW := Lib.hid (show ∀ j u, [Value.int .i64 d][j]? = some u → w1'.cell? ((⟨wx.heap.size, 0, none⟩ : Addr).add j) = some u from World.news_of_block (cs := #[.int .i64 d]) (t := 3) (fr := (0, 0)) ((hgE.block wx.heap.size (by simp) (fun h => by have := Option.some.inj h; omega)).trans (heap_alloc_new wx _)))
                    have hsz1 : wx.heap.size + 1 = w1'.heap.size := by rw [hsE]; simp
                    clear hSt hgE hsE
                    go_wp2_with (at_builtin; go_loud (refine wpList_append_lies _ rfl (.tmp 73) (.tmp 76) 34 rfl wS.heap.size 3 ii _ 1 8 Tryz.underlying34 hii hiz0 hiz1 hiz2 rfl (by decide) u0 nz (ints zs) rfl HOW1.out ⟨wx.heap.size, 0, none⟩ 1 1 [.int .i64 d] rfl rfl HNW.out (by simp [Value.oneCell']) (by decide) ?h63 ?hby ?hba w1'.heap.size rfl ?_))
                    case h63 => unfold maxLen; omega
                    case hby => omega
                    case hba => omega
                    intro g2 cap2 w2 hown2 hgr2 hat2 hlt2
                    obtain ⟨w3, hS3, hM3, hg3, hs3⟩ := HSTO.out w2 (.slice (some ⟨g2, 0, none⟩) (nz + 1) cap2) (hgr2.block wS.heap.size (by omega) (fun h => HUM.out _ h rfl))
                    have HTK3 := Lib.hid (show TK w3 wS.heap.size wS.heap.size (updK fT (padL keys l j) (.slice (some ⟨g2, 0, none⟩) (nz + 1) cap2)) (padL keys l) (dW l) (j + 1) from
                      TK.step HTKA.out HGE.out HSE.out (by rw [← HPK.out, ← HZS.out, ← HNZ.out, dW_at HS.out]; exact hown2) (by rw [← HPK.out, ← HU0.out]; exact hgr2) (by rw [← HPK.out, ← HU0.out]; exact hat2.elim (fun h => .inl h.symm) (fun h => .inr (by rw [h]; rfl))) (by rw [← HPK.out]; exact hM3)
                        (by obtain ⟨es, ck', h⟩ := hmE; exact ⟨es, ck', (hgr2.block wS.heap.size (by omega) (fun h => HUM.out _ h rfl)).trans h⟩) hg3)
                    have hF3 : Fr (fun i => i = wS.heap.size ∨ some i = u0.ownBlock) wx w3 :=
                      ((((Fr.refl (fun i => i = wS.heap.size ∨ some i = u0.ownBlock) wx).alloc (Obj.cells #[Value.int .i64 d] 3)).trans (Fr.of_grown HGE.out) (fun i _ h => .inl (Option.some.inj h))).trans (Fr.of_grown hgr2) (fun i _ h => .inr h)).trans (Fr.of_grown hg3) (fun i _ h => .inl (Option.some.inj h))
                    have HFL3 := Lib.hid (HFLX.out.fr hF3 (fun h => h.elim (fun h => by omega) (fun h => map_ne HFLX.out.map (HTKX.out.own pk) (by rw [← HU0.out]; exact h))))
                    have HORD3 := Lib.hid (HORDX.out.fr hF3 (fun b hb h => h.elim (fun h => map_ne HTKX.out.map HORDX.out.own (by rw [← h]; exact hb)) (fun h => own_ne (HTKX.out.own pk) HORDX.out.own (by decide) b (by rw [← HU0.out]; exact h) hb)))
                    have HBS3 := Lib.hid ((hF3.block wo.heap.size (heap_lt HBSX.out) (fun h => h.elim (fun h => by omega) (fun h => by have := (hult _ h).2; omega))).trans HBSX.out)
                    have HB23 := Lib.hid ((hF3.block (wo.heap.size + 1) h2x (fun h => h.elim (fun h => by omega) (fun h => by have := (hult _ h).2; omega))).trans HB2X.out)
                    have HB3 := Lib.hid (HBX.out.trans (hF3.below (B := wS.heap.size) (by omega) (fun i hi h => h.elim (fun h => by omega) (fun h => by have := (hult _ h).1; omega))))
                    clear hown2 hgr2 hat2 hlt2 hM3 hg3 hs3 hF3 k0 k1 k2 k3 k4 b1 hE hmE
                    have b3 : w3.cell? ⟨wo.heap.size, 3, none⟩ = some (.bool sf) := cellsAt HBS3.out 3
                    cases hsf : sf with
                    | false =>
                      subst hsf
                      go_wp2
                      go_roundw
                      case rel => exact ⟨vx, Sx, j + 1, _, fF, rfl, by go_num, by omega, hSl, HTK3.out, HFL3.out.same (flW_at HS.out), HORD3.out, HB3.out⟩
                      case measure => simp [intOf]; omega
                    | true =>
                      subst hsf
                      have k0 : w3.cell? ⟨wo.heap.size + 1, 0, none⟩ = some (.string y0) := cellsAt HB23.out 0
                      have k1 : w3.cell? ⟨wo.heap.size + 1, 1, none⟩ = some (.string y1) := cellsAt HB23.out 1
                      have k2 : w3.cell? ⟨wo.heap.size + 1, 2, none⟩ = some (.string y2) := cellsAt HB23.out 2
                      have k3 : w3.cell? ⟨wo.heap.size + 1, 3, none⟩ = some (.string y3) := cellsAt HB23.out 3
                      have k4 : w3.cell? ⟨wo.heap.size + 1, 4, none⟩ = some (.string y4) := cellsAt HB23.out 4
                      obtain ⟨fv, hfv⟩ : ∃ fv, fv = flK (padL keys l) (flW l) j pk := ⟨_, rfl⟩
                      have hfb : 0 ≤ fv ∧ fv ≤ j := by rw [hfv]; exact flK_bd pk
                      have hval := HFL3.out.val pk
                      rw [← hfv] at hval
                      have hL := lookK_run Tryz.underlying48 (show MapK w3.drew (wS.heap.size + 1) j fF from HFL3.out.map) pk HOK.out (z := .int .i64 0) (by kernel_rfl)
                      rw [HKV.out, hval] at hL
                      obtain ⟨st2, w4, hE2, hgE2, hsE2, hmE2, hM4, hSt2⟩ := entryK Tryz.underlying48 (show MapK w3.drew (wS.heap.size + 1) j fF from HFL3.out.map) (by omega) pk HOK.out (z := .int .i64 0) (fun u => by kernel_rfl)
                      rw [HKV.out, hval] at hE2
                      have hL4 := lookK_run Tryz.underlying48 hM4 pk HOK.out (z := .int .i64 0) (by kernel_rfl)
                      rw [HKV.out, updK_same, hval] at hL4
                      simp only [Option.getD_some] at hL4
                      obtain ⟨w5, hS5, hM5, hg5, hs5⟩ := hSt2 w4 (.int .i64 (fv + 1)) rfl
                      have hwr1 : IntKind.i64.wrap (fv + 1) = fv + 1 := IntWalk.i64_in _ (by omega)
                      have HM5 := Lib.hid hM5
                      have HG5 := Lib.hid hg5
                      have HGE2 := Lib.hid hgE2
                      have HFV := Lib.hid hfv
                      clear hval hSt2 hM4 hM5 hg5 hgE2 hfv hmE2
                      go_upto_region 28 with fail
                      go_region
                      all_goals
                        have hF5 : Fr (fun i => i = wS.heap.size + 1) w3 w5 := (((Fr.refl (fun i => i = wS.heap.size + 1) w3).drew).trans (Fr.of_grown HGE2.out) (fun i _ h => Option.some.inj h)).trans (Fr.of_grown HG5.out) (fun i _ h => Option.some.inj h)
                        have HFL5 := Lib.hid (FL.step (w3 := w5) HFL3.out (flW_at HS.out) (by rw [← HPK.out, ← HFV.out]; exact HM5.out))
                        have HTK5 := Lib.hid (HTK3.out.fr hF5 (by omega) (fun x b hb h => map_ne HFL3.out.map (HTK3.out.own x) (by rw [← h]; exact hb)))
                        have HORD5 := Lib.hid (HORD3.out.fr hF5 (fun b hb h => map_ne HFL3.out.map HORD3.out.own (by rw [← h]; exact hb)))
                        have HB5 := Lib.hid (HB3.out.trans (hF5.below (B := wS.heap.size) HB3.out.size (fun i hi h => by omega)))
                        clear hF5 k0 k1 k2 k3 k4 b3 hL hL4 hE2 hS5 hs5 hsE2
                        go_wp2
                        go_roundw
                        case rel => exact ⟨vx, Sx, j + 1, _, _, rfl, by go_num, by omega, hSl, HTK5.out, HFL5.out, HORD5.out, HB5.out⟩
                        case measure => simp [intOf]; omega
                  · have HTN := Lib.hid (show tkK (padL keys l) (dW l) j (padL keys l j) ≠ [] from fun e => hnew (by rw [HNZ.out, HZS.out, HPK.out, e]; rfl))
                    have hnzz : ¬ (nz : Int) = 0 := by omega
                    go_upto_region 26 with fail

                    have HTKX := Lib.hid HTKK.out
                    have HFLX := Lib.hid HFLK.out
                    have HORDX := Lib.hid (HORDK.out.old HTN.out)
                    have HBSX := Lib.hid HBS.out
                    have HB2X := Lib.hid HB2.out
                    have HBX := Lib.hid (show Below wS.heap.size wS wk from HBO.out.trans (HBK.out.mono hszo))
                    obtain ⟨Sx, hSx⟩ : ∃ Sx, Sx = S := ⟨_, rfl⟩
                    have hSl : Sx.length ≤ j + 1 := by rw [hSx]; omega
                    rw [← hSx] at HORDX
                    clear hSx k0 k1 k2 k3 k4 HLK
                    obtain ⟨vx, hvx⟩ : ∃ vx, vx = v := ⟨_, rfl⟩
                    rw [← hvx] at HORDX ⊢
                    clear hvx
                    obtain ⟨wx, hwx⟩ : ∃ W : World, W = wk := ⟨_, rfl⟩
                    rw [← hwx] at HTKX HFLX HORDX HBSX HB2X HBX ⊢
                    clear hwx
                    have k0 : wx.cell? ⟨wo.heap.size + 1, 0, none⟩ = some (.string y0) := cellsAt HB2X.out 0
                    have k1 : wx.cell? ⟨wo.heap.size + 1, 1, none⟩ = some (.string y1) := cellsAt HB2X.out 1
                    have k2 : wx.cell? ⟨wo.heap.size + 1, 2, none⟩ = some (.string y2) := cellsAt HB2X.out 2
                    have k3 : wx.cell? ⟨wo.heap.size + 1, 3, none⟩ = some (.string y3) := cellsAt HB2X.out 3
                    have k4 : wx.cell? ⟨wo.heap.size + 1, 4, none⟩ = some (.string y4) := cellsAt HB2X.out 4
                    have b1 : wx.cell? ⟨wo.heap.size, 1, none⟩ = some (.int .i64 d) := cellsAt HBSX.out 1
                    have HTKA := Lib.hid (HTKX.out.on ((Below.refl wx.heap.size wx).alloc (Nat.le_refl _) (Obj.cells #[Value.int .i64 d] 3)))
                    have hmlt := HTK.out.map.lt
                    have hult : ∀ b, some b = u0.ownBlock → wS.heap.size ≤ b ∧ b < wo.heap.size := fun b hb => by rw [HU0.out] at hb; exact ownsRow_block (HTK.out.own pk) hb
                    have hszx := HBX.out.size
                    have h2x := heap_lt HB2X.out
                    obtain ⟨st, w1', hE, hgE, hsE, hmE, -, hSt⟩ := entryK Tryz.underlying47 HTKA.out.map (by omega) pk HOK.out (z := nilV) (fun u => by kernel_rfl)
                    rw [HKV.out, ← HU0.out] at hE
                    have HSTO := Lib.hid hSt
                    have HGE := Lib.hid hgE
                    have HSE := Lib.hid hsE
                    have HUM := Lib.hid (show ∀ b, some b = u0.ownBlock → b ≠ wS.heap.size from fun b hb e => map_ne HTKX.out.map (HTKX.out.own pk) (by rw [← HU0.out, ← e]; exact hb))
                    have HOW1 := Lib.hid (show w1'.ownsRow wS.heap.size 3 1 u0 nz (ints zs) by
                      have := HTKA.out.own pk
                      rw [← HU0.out, ← HZS.out, ← HNZ.out] at this
                      exact ownsRow_fr this (Fr.of_grown hgE) (fun i hi hm => HUM.out i hi (Option.some.inj hm)))
                    have HNW := Lib.hid (show ∀ j u, [Value.int .i64 d][j]? = some u → w1'.cell? ((⟨wx.heap.size, 0, none⟩ : Addr).add j) = some u from World.news_of_block (cs := #[.int .i64 d]) (t := 3) (fr := (0, 0)) ((hgE.block wx.heap.size (by simp) (fun h => by have := Option.some.inj h; omega)).trans (heap_alloc_new wx _)))
                    have hsz1 : wx.heap.size + 1 = w1'.heap.size := by rw [hsE]; simp
                    clear hSt hgE hsE
                    go_wp2_with (at_builtin; go_loud (refine wpList_append_lies _ rfl (.tmp 73) (.tmp 76) 34 rfl wS.heap.size 3 ii _ 1 8 Tryz.underlying34 hii hiz0 hiz1 hiz2 rfl (by decide) u0 nz (ints zs) rfl HOW1.out ⟨wx.heap.size, 0, none⟩ 1 1 [.int .i64 d] rfl rfl HNW.out (by simp [Value.oneCell']) (by decide) ?h63 ?hby ?hba w1'.heap.size rfl ?_))
                    case h63 => unfold maxLen; omega
                    case hby => omega
                    case hba => omega
                    intro g2 cap2 w2 hown2 hgr2 hat2 hlt2
                    obtain ⟨w3, hS3, hM3, hg3, hs3⟩ := HSTO.out w2 (.slice (some ⟨g2, 0, none⟩) (nz + 1) cap2) (hgr2.block wS.heap.size (by omega) (fun h => HUM.out _ h rfl))
                    have HTK3 := Lib.hid (show TK w3 wS.heap.size wS.heap.size (updK fT (padL keys l j) (.slice (some ⟨g2, 0, none⟩) (nz + 1) cap2)) (padL keys l) (dW l) (j + 1) from
                      TK.step HTKA.out HGE.out HSE.out (by rw [← HPK.out, ← HZS.out, ← HNZ.out, dW_at HS.out]; exact hown2) (by rw [← HPK.out, ← HU0.out]; exact hgr2) (by rw [← HPK.out, ← HU0.out]; exact hat2.elim (fun h => .inl h.symm) (fun h => .inr (by rw [h]; rfl))) (by rw [← HPK.out]; exact hM3)
                        (by obtain ⟨es, ck', h⟩ := hmE; exact ⟨es, ck', (hgr2.block wS.heap.size (by omega) (fun h => HUM.out _ h rfl)).trans h⟩) hg3)
                    have hF3 : Fr (fun i => i = wS.heap.size ∨ some i = u0.ownBlock) wx w3 :=
                      ((((Fr.refl (fun i => i = wS.heap.size ∨ some i = u0.ownBlock) wx).alloc (Obj.cells #[Value.int .i64 d] 3)).trans (Fr.of_grown HGE.out) (fun i _ h => .inl (Option.some.inj h))).trans (Fr.of_grown hgr2) (fun i _ h => .inr h)).trans (Fr.of_grown hg3) (fun i _ h => .inl (Option.some.inj h))
                    have HFL3 := Lib.hid (HFLX.out.fr hF3 (fun h => h.elim (fun h => by omega) (fun h => map_ne HFLX.out.map (HTKX.out.own pk) (by rw [← HU0.out]; exact h))))
                    have HORD3 := Lib.hid (HORDX.out.fr hF3 (fun b hb h => h.elim (fun h => map_ne HTKX.out.map HORDX.out.own (by rw [← h]; exact hb)) (fun h => own_ne (HTKX.out.own pk) HORDX.out.own (by decide) b (by rw [← HU0.out]; exact h) hb)))
                    have HBS3 := Lib.hid ((hF3.block wo.heap.size (heap_lt HBSX.out) (fun h => h.elim (fun h => by omega) (fun h => by have := (hult _ h).2; omega))).trans HBSX.out)
                    have HB23 := Lib.hid ((hF3.block (wo.heap.size + 1) h2x (fun h => h.elim (fun h => by omega) (fun h => by have := (hult _ h).2; omega))).trans HB2X.out)
                    have HB3 := Lib.hid (HBX.out.trans (hF3.below (B := wS.heap.size) (by omega) (fun i hi h => h.elim (fun h => by omega) (fun h => by have := (hult _ h).1; omega))))
                    clear hown2 hgr2 hat2 hlt2 hM3 hg3 hs3 hF3 k0 k1 k2 k3 k4 b1 hE hmE
                    have b3 : w3.cell? ⟨wo.heap.size, 3, none⟩ = some (.bool sf) := cellsAt HBS3.out 3
                    cases hsf : sf with
                    | false =>
                      subst hsf
                      go_wp2
                      go_roundw
                      case rel => exact ⟨vx, Sx, j + 1, _, fF, rfl, by go_num, by omega, hSl, HTK3.out, HFL3.out.same (flW_at HS.out), HORD3.out, HB3.out⟩
                      case measure => simp [intOf]; omega
                    | true =>
                      subst hsf
                      have k0 : w3.cell? ⟨wo.heap.size + 1, 0, none⟩ = some (.string y0) := cellsAt HB23.out 0
                      have k1 : w3.cell? ⟨wo.heap.size + 1, 1, none⟩ = some (.string y1) := cellsAt HB23.out 1
                      have k2 : w3.cell? ⟨wo.heap.size + 1, 2, none⟩ = some (.string y2) := cellsAt HB23.out 2
                      have k3 : w3.cell? ⟨wo.heap.size + 1, 3, none⟩ = some (.string y3) := cellsAt HB23.out 3
                      have k4 : w3.cell? ⟨wo.heap.size + 1, 4, none⟩ = some (.string y4) := cellsAt HB23.out 4
                      obtain ⟨fv, hfv⟩ : ∃ fv, fv = flK (padL keys l) (flW l) j pk := ⟨_, rfl⟩
                      have hfb : 0 ≤ fv ∧ fv ≤ j := by rw [hfv]; exact flK_bd pk
                      have hval := HFL3.out.val pk
                      rw [← hfv] at hval
                      have hL := lookK_run Tryz.underlying48 (show MapK w3.drew (wS.heap.size + 1) j fF from HFL3.out.map) pk HOK.out (z := .int .i64 0) (by kernel_rfl)
                      rw [HKV.out, hval] at hL
                      obtain ⟨st2, w4, hE2, hgE2, hsE2, hmE2, hM4, hSt2⟩ := entryK Tryz.underlying48 (show MapK w3.drew (wS.heap.size + 1) j fF from HFL3.out.map) (by omega) pk HOK.out (z := .int .i64 0) (fun u => by kernel_rfl)
                      rw [HKV.out, hval] at hE2
                      have hL4 := lookK_run Tryz.underlying48 hM4 pk HOK.out (z := .int .i64 0) (by kernel_rfl)
                      rw [HKV.out, updK_same, hval] at hL4
                      simp only [Option.getD_some] at hL4
                      obtain ⟨w5, hS5, hM5, hg5, hs5⟩ := hSt2 w4 (.int .i64 (fv + 1)) rfl
                      have hwr1 : IntKind.i64.wrap (fv + 1) = fv + 1 := IntWalk.i64_in _ (by omega)
                      have HM5 := Lib.hid hM5
                      have HG5 := Lib.hid hg5
                      have HGE2 := Lib.hid hgE2
                      have HFV := Lib.hid hfv
                      clear hval hSt2 hM4 hM5 hg5 hgE2 hfv hmE2
                      go_upto_region 28 with fail
                      go_region
                      all_goals
                        have hF5 : Fr (fun i => i = wS.heap.size + 1) w3 w5 := (((Fr.refl (fun i => i = wS.heap.size + 1) w3).drew).trans (Fr.of_grown HGE2.out) (fun i _ h => Option.some.inj h)).trans (Fr.of_grown HG5.out) (fun i _ h => Option.some.inj h)
                        have HFL5 := Lib.hid (FL.step (w3 := w5) HFL3.out (flW_at HS.out) (by rw [← HPK.out, ← HFV.out]; exact HM5.out))
                        have HTK5 := Lib.hid (HTK3.out.fr hF5 (by omega) (fun x b hb h => map_ne HFL3.out.map (HTK3.out.own x) (by rw [← h]; exact hb)))
                        have HORD5 := Lib.hid (HORD3.out.fr hF5 (fun b hb h => map_ne HFL3.out.map HORD3.out.own (by rw [← h]; exact hb)))
                        have HB5 := Lib.hid (HB3.out.trans (hF5.below (B := wS.heap.size) HB3.out.size (fun i hi h => by omega)))
                        clear hF5 k0 k1 k2 k3 k4 b3 hL hL4 hE2 hS5 hs5 hsE2
                        go_wp2
                        go_roundw
                        case rel => exact ⟨vx, Sx, j + 1, _, _, rfl, by go_num, by omega, hSl, HTK5.out, HFL5.out, HORD5.out, HB5.out⟩
                        case measure => simp [intOf]; omega
            · obtain rfl : j = n := by omega
              have HS5 := Lib.hid (show ∀ s ∈ S, s.length = 5 from fun s hs => by obtain ⟨i', _, e⟩ := (HORD.out.mem s).1 hs; rw [← e]; exact padV_length (by rw [kfL_length, ← HM.out]; omega))
              have HSO := Lib.hid (keySortV_any (w := wo) (v := v) (l := S.map ofL) (n := S.length) (by rw [← keyCells_of HS5.out]; exact HORD.out.own) (by simp) (by omega))
              obtain ⟨vA, vc, hv, _, _, _⟩ := ownsRow_shape HORD.out.own
              obtain ⟨N, hN⟩ : ∃ N, N = S.length := ⟨_, rfl⟩
              have HN := Lib.hid hN
              have hNj : N ≤ j := by omega
              rw [← hN] at HSO
              have HV := Lib.hid (show v = .slice vA N vc by rw [hN]; exact hv)
              clear hv hN
              go_wp2_with fail
              (with_reducible refine (HSO.out).mono ?_)
              rintro e wT ⟨rfl, T, hperm, hsrt, hown, hfr⟩
              have HPM := Lib.hid hperm
              have HSR := Lib.hid hsrt
              have hTl : T.length = N := by rw [hperm.length_eq, List.length_map, ← HN.out]
              have HTL := Lib.hid hTl
              have HTKT := Lib.hid (HTK.out.fr hfr (map_ne HTK.out.map HORD.out.own) (fun x b hb => own_ne (HTK.out.own x) HORD.out.own (by decide) b hb))
              have HFLT := Lib.hid (HFL.out.fr hfr (map_ne HFL.out.map HORD.out.own))
              have HBT := Lib.hid (show Below wS.heap.size wS wT from HBO.out.trans (hfr.below HBO.out.size (fun i' hi' hm => by have := (ownsRow_block HORD.out.own hm).1; omega)))
              have HOT := Lib.hid (show Rd wT 0 wT.heap.size 5 vA N (T.flatMap encK) by have := hown; rw [HV.out] at this; exact (Rd.of_own this).more (Nat.zero_le _) (Nat.le_refl _))
              have HBWT := Lib.hid (show Below w.heap.size w wT from HBW.out.trans (HBT.out.mono hsS))
              rw [HV.out]
              have HOKP := Lib.hid (show ∀ i', i' < j → OkK (padL keys l i') from fun i' hi' => by
                obtain ⟨s, hs⟩ : ∃ s, l[i']? = some s := ⟨_, List.getElem?_eq_getElem (by rw [HL.out]; exact hi')⟩
                unfold padL
                rw [kfL_at hs]
                refine ⟨padV_length (by rw [List.length_map, ← HM.out]; omega), fun z hz => ?_⟩
                unfold padV at hz
                rcases List.mem_append.1 hz with h | h
                · obtain ⟨nm, _, rfl⟩ := List.mem_map.1 h
                  exact hlb _ (List.mem_of_getElem? hs) nm
                · have := List.eq_of_mem_replicate h
                  subst this
                  exact Nat.zero_le _)
              clear hperm hsrt hown hfr hTl HSO HBO HBWO
              go_wp2
              go_loopw [17, 19, 93] (fun uv _ iv wr => ∃ (u : Value) (R : List RowX) (q : Nat), u = uv ∧ iv = .int .i64 (q : Int) ∧ q = R.length ∧ q ≤ N ∧ RowW wr wT.heap.size u R ∧ (∀ (i : Nat) (r : RowX) (x : K5), R[i]? = some r → T[i]? = some x → r.vals = (toL x).take keys.length ∧ IsHist (cntB 8 (tkK (padL keys l) (dW l) j (toL x))) r.cs ∧ r.f = flK (padL keys l) (flW l) j (toL x)) ∧ Below wT.heap.size wT wr) (fun _ _ iv _ => N - (intOf iv).toNat)
              case atStart => exact ⟨.slice none 0 0, [], 0, rfl, rfl, rfl, Nat.zero_le _, ⟨⟨rfl, .inl ⟨rfl, rfl⟩⟩, fun r h => by cases h⟩, fun _ _ _ h => by simp at h, Below.refl _ _⟩
              case round =>
                obtain ⟨u, R, q, rfl, rfl, hqR, hqN, hrw, hgood, hbw⟩ := hrel
                obtain ⟨wo, hwo⟩ : ∃ W : World, W = wr := ⟨_, rfl⟩
                subst hwo
                have HQR := Lib.hid hqR
                have HRW := Lib.hid hrw
                have HGD := Lib.hid hgood
                have HBO := Lib.hid hbw
                have hszo := hbw.size
                clear hqR hrw hgood
                by_cases hlt : q < N
                · obtain ⟨⟨x0, x1, x2, x3, x4⟩, hx⟩ : ∃ x, T[q]? = some x := ⟨_, List.getElem?_eq_getElem (by rw [HTL.out]; exact hlt)⟩
                  obtain ⟨bT, oT, hvA, _, hbT, hcT⟩ := (HOT.out.below hbw (Nat.le_refl _)).2 (show 0 < N by omega)
                  subst hvA
                  have hc : ∀ z, z < 5 → ∀ y, (encK (x0, x1, x2, x3, x4))[z]? = some y → wo.cell? ⟨bT, oT + (q * 5 + z), none⟩ = some y := fun z hz y hy => hcT (q * 5 + z) y (by rw [flat_get encK 5 encK_length T q z hz _ hx]; exact hy)
                  have k0 : wo.cell? ⟨bT, oT + q * 5, none⟩ = some (.string x0) := hc 0 (by omega) _ rfl
                  have k1 : wo.cell? ⟨bT, oT + q * 5 + 1, none⟩ = some (.string x1) := by have := hc 1 (by omega) _ rfl; rwa [← Nat.add_assoc] at this
                  have k2 : wo.cell? ⟨bT, oT + q * 5 + 2, none⟩ = some (.string x2) := by have := hc 2 (by omega) _ rfl; rwa [← Nat.add_assoc] at this
                  have k3 : wo.cell? ⟨bT, oT + q * 5 + 3, none⟩ = some (.string x3) := by have := hc 3 (by omega) _ rfl; rwa [← Nat.add_assoc] at this
                  have k4 : wo.cell? ⟨bT, oT + q * 5 + 4, none⟩ = some (.string x4) := by have := hc 4 (by omega) _ rfl; rwa [← Nat.add_assoc] at this
                  have hltz : (q : Int) < (N : Int) := by omega
                  have HXT := Lib.hid hx
                  clear hc hcT hx hbw
                  go_upto_region 35 with fail
                  obtain ⟨W1, hW1⟩ : ∃ W : World, W = wo.alloc (Obj.cells #[Value.string x0, Value.string x1, Value.string x2, Value.string x3, Value.string x4] 53) := ⟨_, rfl⟩
                  have HST1 := Lib.hid (show St wo W1 [(wo.heap.size, Obj.cells #[Value.string x0, Value.string x1, Value.string x2, Value.string x3, Value.string x4] 53 (0, 0))] by rw [hW1]; exact (St.start wo).alloc _ _ rfl)
                  rw [← hW1]
                  clear hW1 k0 k1 k2 k3 k4
                  have HB1T := Lib.hid (show Below wT.heap.size wT W1 from HBO.out.trans (HST1.out.below.mono hszo))
                  have hs1 : wo.heap.size < W1.heap.size := HST1.out.lt 0 rfl
                  obtain ⟨px, hpx⟩ : ∃ px, px = toL (x0, x1, x2, x3, x4) := ⟨_, rfl⟩
                  have HPX := Lib.hid hpx
                  have HKV := Lib.hid (show kvK px = .agg #[.string x0, .string x1, .string x2, .string x3, .string x4] by rw [hpx]; rfl)
                  have HOKX := Lib.hid (show OkK px by
                    obtain ⟨s, hs1, e⟩ := List.mem_map.1 (HPM.out.mem_iff.1 (List.mem_of_getElem? HXT.out))
                    have e1 : px = s := by rw [hpx, ← e, toL_ofL (HS5.out s hs1)]
                    obtain ⟨i', hi', e2⟩ := (HORD.out.mem s).1 hs1
                    rw [e1, ← e2]
                    exact HOKP.out i' hi')
                  obtain ⟨zs, hzs⟩ : ∃ zs, zs = tkK (padL keys l) (dW l) j px := ⟨_, rfl⟩
                  have HZS := Lib.hid hzs
                  obtain ⟨u0, hu0⟩ : ∃ u0, u0 = (fT px).getD nilV := ⟨_, rfl⟩
                  have hu0own : wT.ownsRow wS.heap.size 3 1 u0 zs.length (ints zs) := by rw [hu0, hzs]; exact HTKT.out.own px
                  obtain ⟨uA, uc, hu, _, _, _⟩ := ownsRow_shape hu0own
                  obtain ⟨nz, hnz⟩ : ∃ nz, nz = zs.length := ⟨_, rfl⟩
                  have hnzj : nz ≤ j := by rw [hnz, hzs]; exact ofK_length _ _ _ _
                  have HUR := Lib.hid (show Rd wT wS.heap.size wT.heap.size 1 uA nz (ints zs) by rw [hu] at hu0own; rw [hnz]; exact Rd.of_own hu0own)
                  have HLT := Lib.hid (show ∀ W, Below wT.heap.size wT W → (Instr.lookup 47 (.map (some wS.heap.size)) (.agg #[.string x0, .string x1, .string x2, .string x3, .string x4]) false).run Tryz.prog W = .ok (.slice uA nz uc) W from fun W hW => by
                    have := lookK_run Tryz.underlying47 (HTKT.out.on hW).map px HOKX.out (z := nilV) (by kernel_rfl)
                    rw [HKV.out, ← hu0, hu, ← hnz] at this
                    exact this)
                  obtain ⟨fv, hfv⟩ : ∃ fv, fv = flK (padL keys l) (flW l) j px := ⟨_, rfl⟩
                  have HFV := Lib.hid hfv
                  have HLF := Lib.hid (show ∀ W, Below wT.heap.size wT W → (Instr.lookup 48 (.map (some (wS.heap.size + 1))) (.agg #[.string x0, .string x1, .string x2, .string x3, .string x4]) false).run Tryz.prog W = .ok (.int .i64 fv) W from fun W hW => by
                    have := lookK_run Tryz.underlying48 (HFLT.out.on hW).map px HOKX.out (z := .int .i64 0) (by kernel_rfl)
                    rw [HKV.out, HFLT.out.val px, ← hfv] at this
                    exact this)
                  have HFI := Lib.hid (show ∀ v ∈ zs, fineV v = true from fun v hv => by
                    rw [hzs] at hv
                    obtain ⟨i', hi', e⟩ := ofK_mem hv
                    obtain ⟨s, hs⟩ : ∃ s, l[i']? = some s := ⟨_, List.getElem?_eq_getElem (by rw [HL.out]; exact hi')⟩
                    have := HF.out _ (List.mem_of_getElem? hs)
                    rw [← e, dW_at hs]
                    unfold fineV
                    simp; omega)
                  have HOF := Lib.hid (show ∀ W, Below wT.heap.size wT W → _ from fun W hW => of_any 8 uA nz uc zs W ((HUR.out.below hW (Nat.le_refl _)).more (Nat.zero_le _) hW.size) (by omega) (by omega) (by omega) HFI.out)
                  have HBC := Lib.hid (show ∀ W, Below W1.heap.size W1 W → W.cell? ⟨wo.heap.size, 0, none⟩ = some (.string x0) ∧ W.cell? ⟨wo.heap.size, 1, none⟩ = some (.string x1) ∧ W.cell? ⟨wo.heap.size, 2, none⟩ = some (.string x2) ∧ W.cell? ⟨wo.heap.size, 3, none⟩ = some (.string x3) ∧ W.cell? ⟨wo.heap.size, 4, none⟩ = some (.string x4) from fun W hW =>
                    ⟨(HST1.out.call hW).cell 0 0 rfl rfl, (HST1.out.call hW).cell 0 1 rfl rfl, (HST1.out.call hW).cell 0 2 rfl rfl, (HST1.out.call hW).cell 0 3 rfl rfl, (HST1.out.call hW).cell 0 4 rfl rfl⟩)
                  have HCLN := Lib.hid (show ∀ W, Below W1.heap.size W1 W → _ from fun W hW => Tryz.slices_Clone_string wo.heap.size 0 i 5 px W (by rw [HOKX.out.1]; omega) (by omega) (fun z hz => by
                    rw [HOKX.out.1] at hz
                    obtain ⟨q0, q1, q2, q3, q4⟩ := HBC.out W hW
                    rw [HPX.out, Nat.zero_add]
                    have hz5 : z = 0 ∨ z = 1 ∨ z = 2 ∨ z = 3 ∨ z = 4 := by omega
                    rcases hz5 with rfl | rfl | rfl | rfl | rfl
                    · exact q0
                    · exact q1
                    · exact q2
                    · exact q3
                    · exact q4))
                  have HROW := Lib.hid (show ∀ W, Below wo.heap.size wo W → W.ownsRow wT.heap.size 64 4 u q (rowCells R) from fun W hW => by
                    have := (HRW.out.on hW).1
                    rw [← HQR.out] at this
                    exact this)
                  have hult : ∀ b, some b = u.ownBlock → wT.heap.size ≤ b ∧ b < wo.heap.size := fun b hb => ownsRow_block HRW.out.1 hb
                  have HULT := Lib.hid hult
                  have HNX := Lib.hid (show ∀ (w5 w6 w7 : World) (A5 : Option Addr) (c5 : Nat) (A6 : Option Addr) (cs6 : List (Int × Int)) (g7 cap7 : Nat), Below W1.heap.size W1 w5 → w5.ownsRow W1.heap.size 9 1 (.slice A5 i c5) i ((px.take i).map Value.string) → Below w5.heap.size w5 w6 → Rd w6 w5.heap.size w6.heap.size 2 A6 cs6.length (cells2 cs6) → IsHist (cntB 8 zs) cs6 →
                      w7.ownsRow wT.heap.size 64 4 (.slice (some ⟨g7, 0, none⟩) (q + 1) cap7) (q + 1) (rowCells R ++ [.slice A5 i c5, .int .i64 8, .slice A6 cs6.length cs6.length, .int .i64 fv]) → (w6.alloc (.cells #[.slice A5 i c5, .int .i64 8, .slice A6 cs6.length cs6.length, .int .i64 fv] 64)).grownBy w7 u.ownBlock → (u.ownBlock = some g7 ∨ g7 = w6.heap.size + 1) →
                      ∃ R2 : List RowX, q + 1 = R2.length ∧ RowW w7 wT.heap.size (.slice (some ⟨g7, 0, none⟩) (q + 1) cap7) R2 ∧ (∀ (i : Nat) (r : RowX) (x : K5), R2[i]? = some r → T[i]? = some x → r.vals = (toL x).take keys.length ∧ IsHist (cntB 8 (tkK (padL keys l) (dW l) j (toL x))) r.cs ∧ r.f = flK (padL keys l) (flW l) j (toL x)) ∧ Below wT.heap.size wT w7 from
                    fun w5 w6 w7 A5 c5 A6 cs6 g7 cap7 hb5 hown5 hb6 hrd6 hist6 hown7 hgr7 hat7 => by
                      have hs5 := hb5.size
                      have hs6 := hb6.size
                      have hvl : (px.take i).length = i := by rw [List.length_take, HOKX.out.1]; omega
                      have hbo6 : Below wo.heap.size wo w6 := (HST1.out.below.trans (hb5.mono (by omega))).trans (hb6.mono (by omega))
                      have hF7 : Fr (fun b => some b = u.ownBlock) w6 w7 := ((Fr.refl (fun b => some b = u.ownBlock) w6).alloc _).trans (Fr.of_grown hgr7) (fun _ _ h => h)
                      obtain ⟨r7, hr7⟩ : ∃ r7 : RowX, r7 = { vals := px.take i, cs := cs6, f := fv, vA := A5, vc := c5, hA := A6, hc := cs6.length } := ⟨_, rfl⟩
                      have hR5 : Rd w5 W1.heap.size w5.heap.size 1 A5 i (strC (px.take i)) := Rd.of_own hown5
                      have hP : RowP w6 wT.heap.size u r7 := by
                        rw [hr7]
                        refine ⟨?_, hrd6.more (by omega) (Nat.le_refl _), fun b o e hp => ?_, fun b o e hp => ?_⟩
                        · show Rd w6 wT.heap.size w6.heap.size 1 A5 (px.take i).length (strC (px.take i))
                          rw [hvl]
                          exact (hR5.below hb6 (Nat.le_refl _)).more (by omega) hs6
                        · simp only at e hp
                          rw [hvl] at hp
                          obtain ⟨b', o', e', hL, _, _⟩ := hR5.2 hp
                          rw [e] at e'
                          simp only [Option.some.injEq, Addr.mk.injEq, and_true] at e'
                          intro hu'
                          have := HULT.out b hu'
                          omega
                        · simp only at e hp
                          obtain ⟨b', o', e', hL, _, _⟩ := hrd6.2 hp
                          rw [e] at e'
                          simp only [Option.some.injEq, Addr.mk.injEq, and_true] at e'
                          intro hu'
                          have := HULT.out b hu'
                          omega
                      refine ⟨R ++ [r7], by rw [List.length_append, ← HQR.out]; rfl, RowW.app (r := r7) (HRW.out.on hbo6) ?_ hF7 ?_ hP, fun i' r x hr hx => ?_, HBO.out.trans (((hbo6.mono hszo)).trans (hF7.below (B := wT.heap.size) (by omega) (fun b hb hm => by have := (HULT.out b hm).1; omega)))⟩
                      · rw [← HQR.out, hr7]
                        show w7.ownsRow wT.heap.size 64 4 _ (q + 1) (rowCells R ++ [.slice A5 (px.take i).length c5, .int .i64 8, .slice A6 cs6.length cs6.length, .int .i64 fv])
                        rw [hvl]
                        exact hown7
                      · rcases hat7 with h | h
                        · exact .inl h
                        · refine .inr fun b hb => ?_
                          rw [ownBlock_eq] at hb
                          have := Option.some.inj hb
                          omega
                      · rcases Nat.lt_or_ge i' R.length with h | h
                        · rw [List.getElem?_append_left h] at hr
                          exact HGD.out i' r x hr hx
                        · have hi' : i' = R.length := by
                            have := (List.getElem?_eq_some_iff.1 hr).1
                            simp at this
                            omega
                          subst hi'
                          rw [List.getElem?_append_right (Nat.le_refl _), Nat.sub_self] at hr
                          obtain rfl : r7 = r := by simpa using hr
                          rw [← HQR.out, HXT.out] at hx
                          cases hx
                          rw [hr7, ← HM.out, ← HPX.out]
                          exact ⟨rfl, by rw [← HZS.out]; exact hist6, HFV.out⟩)
                  have hbN := rowM
                  have HBR := Lib.hid (Below.refl W1.heap.size W1)
                  obtain ⟨k0, k1, k2, k3, k4⟩ := HBC.out W1 HBR.out
                  have k0d : W1.drew.cell? ⟨wo.heap.size, 0, none⟩ = some (.string x0) := k0
                  have k1d : W1.drew.cell? ⟨wo.heap.size, 1, none⟩ = some (.string x1) := k1
                  have k2d : W1.drew.cell? ⟨wo.heap.size, 2, none⟩ = some (.string x2) := k2
                  have k3d : W1.drew.cell? ⟨wo.heap.size, 3, none⟩ = some (.string x3) := k3
                  have k4d : W1.drew.cell? ⟨wo.heap.size, 4, none⟩ = some (.string x4) := k4
                  have hT1 := HLT.out W1 HB1T.out
                  have hT1d := HLT.out W1.drew HB1T.out.drew
                  have hF1 := HLF.out W1 HB1T.out
                  have hF1d := HLF.out W1.drew HB1T.out.drew
                  have h5i : (i : Int) ≤ 5 := by omega
                  have h5n : i ≤ 5 := by omega
                  have HB15 := Lib.hid (show ∀ W, Below W1.heap.size W1 W → Below wT.heap.size wT W from fun W hW => HB1T.out.trans (hW.mono HB1T.out.size))
                  have HBO5 := Lib.hid (show ∀ W, Below W1.heap.size W1 W → Below wo.heap.size wo W from fun W hW => HST1.out.below.trans (hW.mono (by omega)))
                  have HSS := Lib.hid (show ∀ X, Below W1.heap.size W1 X → (Below wT.heap.size wT X ∧ X.cell? ⟨wo.heap.size, 0, none⟩ = some (.string x0) ∧ X.cell? ⟨wo.heap.size, 1, none⟩ = some (.string x1) ∧ X.cell? ⟨wo.heap.size, 2, none⟩ = some (.string x2) ∧ X.cell? ⟨wo.heap.size, 3, none⟩ = some (.string x3) ∧ X.cell? ⟨wo.heap.size, 4, none⟩ = some (.string x4) ∧ (Instr.lookup 47 (.map (some wS.heap.size)) (.agg #[.string x0, .string x1, .string x2, .string x3, .string x4]) false).run Tryz.prog X = .ok (.slice uA nz uc) X ∧ (Instr.lookup 48 (.map (some (wS.heap.size + 1))) (.agg #[.string x0, .string x1, .string x2, .string x3, .string x4]) false).run Tryz.prog X = .ok (.int .i64 fv) X) from fun X hX => ⟨HB15.out X hX, (HBC.out X hX).1, (HBC.out X hX).2.1, (HBC.out X hX).2.2.1, (HBC.out X hX).2.2.2.1, (HBC.out X hX).2.2.2.2, HLT.out X (HB15.out X hX), HLF.out X (HB15.out X hX)⟩)
                  have HS7 := Lib.hid (show ∀ (w6 X : World) (o : Obj), Below W1.heap.size W1 w6 → (w6.alloc o).grownBy X u.ownBlock → (Below wT.heap.size wT X ∧ X.cell? ⟨wo.heap.size, 0, none⟩ = some (.string x0) ∧ X.cell? ⟨wo.heap.size, 1, none⟩ = some (.string x1) ∧ X.cell? ⟨wo.heap.size, 2, none⟩ = some (.string x2) ∧ X.cell? ⟨wo.heap.size, 3, none⟩ = some (.string x3) ∧ X.cell? ⟨wo.heap.size, 4, none⟩ = some (.string x4) ∧ (Instr.lookup 47 (.map (some wS.heap.size)) (.agg #[.string x0, .string x1, .string x2, .string x3, .string x4]) false).run Tryz.prog X = .ok (.slice uA nz uc) X ∧ (Instr.lookup 48 (.map (some (wS.heap.size + 1))) (.agg #[.string x0, .string x1, .string x2, .string x3, .string x4]) false).run Tryz.prog X = .ok (.int .i64 fv) X) from fun w6 X o hW hg => by
                    have hF : Fr (fun b => some b = u.ownBlock) w6 X := ((Fr.refl (fun b => some b = u.ownBlock) w6).alloc o).trans (Fr.of_grown ⟨hg.os, hg.tape, hg.output, hg.size, hg.block⟩) (fun _ _ h => h)
                    have hc : ∀ z, X.cell? ⟨wo.heap.size, z, none⟩ = w6.cell? ⟨wo.heap.size, z, none⟩ := fun z => hF.cell (by have := hW.size; simp only; omega) (fun h => by have := (HULT.out _ h).2; simp only at this; omega)
                    have hB : Below wT.heap.size wT X := (HB15.out _ hW).trans (hF.below (B := wT.heap.size) (HB15.out _ hW).size (fun b hb hm => by have := (HULT.out b hm).1; omega))
                    obtain ⟨q0, q1, q2, q3, q4⟩ := HBC.out w6 hW
                    exact ⟨hB, by rw [hc]; exact q0, by rw [hc]; exact q1, by rw [hc]; exact q2, by rw [hc]; exact q3, by rw [hc]; exact q4, HLT.out X hB, HLF.out X hB⟩)
                  clear hpx hzs hu0 hu0own hu hnz hfv hult k0 k1 k2 k3 k4 k0d k1d k2d k3d k4d hT1 hT1d hF1 hF1d
                  refine wp_region_noPanic ?_
                  refine wp_region_held_drew (S := (fun X => Below wT.heap.size wT X ∧ X.cell? ⟨wo.heap.size, 0, none⟩ = some (.string x0) ∧ X.cell? ⟨wo.heap.size, 1, none⟩ = some (.string x1) ∧ X.cell? ⟨wo.heap.size, 2, none⟩ = some (.string x2) ∧ X.cell? ⟨wo.heap.size, 3, none⟩ = some (.string x3) ∧ X.cell? ⟨wo.heap.size, 4, none⟩ = some (.string x4) ∧ (Instr.lookup 47 (.map (some wS.heap.size)) (.agg #[.string x0, .string x1, .string x2, .string x3, .string x4]) false).run Tryz.prog X = .ok (.slice uA nz uc) X ∧ (Instr.lookup 48 (.map (some (wS.heap.size + 1))) (.agg #[.string x0, .string x1, .string x2, .string x3, .string x4]) false).run Tryz.prog X = .ok (.int .i64 fv) X)) (by kernel_rfl) (HSS.out _ HBR.out.drew) (fun HS0 => ?_)
                  refine wpAnyH_take (i := 0) (v := ?_) rfl (by kernel_rfl) (by kernel_rfl) (by kernel_rfl) (fun _ _ _ h => h) (Or.inl ⟨by kernel_rfl, ?_⟩) HS0 ?_
                  rotate_left
                  · intro W hW; obtain ⟨hW0, hW1, hW2, hW3, hW4, hW5, hW6, hW7⟩ := hW; go_simp; try (with_reducible rfl)
                  refine wpAnyH_take (i := 1) (v := ?_) rfl (by kernel_rfl) (by kernel_rfl) (by kernel_rfl) (fun _ _ _ h => h) (Or.inl ⟨by kernel_rfl, ?_⟩) HS0 ?_
                  rotate_left
                  · intro W hW; obtain ⟨hW0, hW1, hW2, hW3, hW4, hW5, hW6, hW7⟩ := hW; go_simp; try (with_reducible rfl)
                  refine wpAnyH_take (i := 2) (v := ?_) rfl (by kernel_rfl) (by kernel_rfl) (by kernel_rfl) (fun _ _ _ h => h) (Or.inl ⟨by kernel_rfl, ?_⟩) HS0 ?_
                  rotate_left
                  · intro W hW; obtain ⟨hW0, hW1, hW2, hW3, hW4, hW5, hW6, hW7⟩ := hW; go_simp; try (with_reducible rfl)
                  refine wpAnyH_take (i := 3) (v := ?_) rfl (by kernel_rfl) (by kernel_rfl) (by kernel_rfl) (fun _ _ _ h => h) (Or.inl ⟨by kernel_rfl, ?_⟩) HS0 ?_
                  rotate_left
                  · intro W hW; obtain ⟨hW0, hW1, hW2, hW3, hW4, hW5, hW6, hW7⟩ := hW; go_simp; try (with_reducible rfl)
                  refine wpAnyH_take (i := 5) (v := ?_) rfl (by kernel_rfl) (by kernel_rfl) (by kernel_rfl) (fun _ _ _ h => h) (Or.inl ⟨by kernel_rfl, ?_⟩) HS0 ?_
                  rotate_left
                  · intro W hW; obtain ⟨hW0, hW1, hW2, hW3, hW4, hW5, hW6, hW7⟩ := hW; go_simp; try (with_reducible rfl)
                  refine wpAnyH_take (i := 6) (v := ?_) rfl (by kernel_rfl) (by kernel_rfl) (by kernel_rfl) (fun _ _ _ h => h) (Or.inl ⟨by kernel_rfl, ?_⟩) HS0 ?_
                  rotate_left
                  · intro W hW; obtain ⟨hW0, hW1, hW2, hW3, hW4, hW5, hW6, hW7⟩ := hW; go_simp; try (with_reducible rfl)
                  refine wpAnyH_take (i := 7) (v := ?_) rfl (by kernel_rfl) (by kernel_rfl) (by kernel_rfl) (fun _ _ _ h => h) (Or.inl ⟨by kernel_rfl, ?_⟩) HS0 ?_
                  rotate_left
                  · intro W hW; obtain ⟨hW0, hW1, hW2, hW3, hW4, hW5, hW6, hW7⟩ := hW; go_simp; try (with_reducible rfl)
                  refine wpAnyH_take (i := 9) (v := ?_) rfl (by kernel_rfl) (by kernel_rfl) (by kernel_rfl) (fun _ _ _ h => h) (Or.inl ⟨by kernel_rfl, ?_⟩) HS0 ?_
                  rotate_left
                  · intro W hW; obtain ⟨hW0, hW1, hW2, hW3, hW4, hW5, hW6, hW7⟩ := hW; go_simp; try (with_reducible rfl)
                  refine wpAnyH_take (i := 10) (v := ?_) rfl (by kernel_rfl) (by kernel_rfl) (by kernel_rfl) (fun _ _ _ h => h) (Or.inl ⟨by kernel_rfl, ?_⟩) HS0 ?_
                  rotate_left
                  · intro W hW; obtain ⟨hW0, hW1, hW2, hW3, hW4, hW5, hW6, hW7⟩ := hW; go_simp; try (with_reducible rfl)
                  refine wpAnyH_take (i := 11) (v := ?_) rfl (by kernel_rfl) (by kernel_rfl) (by kernel_rfl) (fun _ _ _ h => h) (Or.inl ⟨by kernel_rfl, ?_⟩) HS0 ?_
                  rotate_left
                  · intro W hW; obtain ⟨hW0, hW1, hW2, hW3, hW4, hW5, hW6, hW7⟩ := hW; go_simp; try (with_reducible rfl)
                  clear HS0
                  refine run_oneG (i := 4) (by kernel_rfl) rfl (by kernel_rfl) ?_
                  intro K hK
                  go_simp
                  (with_reducible refine (HCLN.out _ HBR.out.drew).mono ?_)
                  rintro e w5 ⟨v5, rfl, hown5, -, hbC⟩
                  obtain ⟨A5, c5, rfl, -, -, -⟩ := ownsRow_shape hown5
                  have hb5 : Below W1.heap.size W1 w5 := below_next HBR.out.drew hbC
                  refine hK.out _ _ (HSS.out _ hb5) ?_
                  clear hK K
                  intro _
                  refine run_oneG (i := 8) (by kernel_rfl) rfl (by kernel_rfl) ?_
                  intro K hK
                  go_simp
                  (with_reducible refine (HOF.out _ (HB15.out _ hb5)).mono ?_)
                  rintro e w6 ⟨A6, cs6, rfl, hist6, hrd6, -, hb6⟩
                  have hb16 : Below W1.heap.size W1 w6 := bel_nx hb5 hb6
                  refine hK.out _ _ (HSS.out _ hb16) ?_
                  clear hK K
                  intro HS0
                  refine wpAnyH_take (i := 12) (v := ?_) rfl (by kernel_rfl) (by kernel_rfl) (by kernel_rfl) (fun _ _ _ h => h) (Or.inl ⟨by kernel_rfl, ?_⟩) HS0 ?_
                  rotate_left
                  · intro W hW; obtain ⟨hW0, hW1, hW2, hW3, hW4, hW5, hW6, hW7⟩ := hW; go_simp; try (with_reducible rfl)
                  clear HS0
                  refine run_oneG (i := 13) (by kernel_rfl) rfl (by kernel_rfl) ?_
                  intro K hK
                  go_simp
                  refine hK.out _ _ (HSS.out _ (hb16.alloc hb16.size _)) ?_
                  clear hK K
                  intro _
                  refine run_oneG (i := 14) (by kernel_rfl) rfl (by kernel_rfl) ?_
                  intro K hK
                  refine wp_append_lies _ (.tmp 97) (.tmp 110) 28 (by rfl) wT.heap.size 64 ir _ 4 64 Tryz.underlying28 hir hrz0 hrz1 hrz2 rfl (by omega) u q (rowCells R) (by rfl) ((HROW.out _ (HBO5.out _ hb16)).alloc _) ⟨w6.heap.size, 0, none⟩ 1 1 [.slice A5 i c5, .int .i64 8, .slice A6 cs6.length cs6.length, .int .i64 fv] (by rfl) (by rfl) (World.news_of_block (cs := #[.slice A5 i c5, .int .i64 8, .slice A6 cs6.length cs6.length, .int .i64 fv]) (t := 64) (fr := (0, 0)) (heap_alloc_new w6 _)) (by simp [Value.oneCell']) (by omega) (by unfold maxLen; omega) (by omega) (by have := (HB15.out _ hb16).size; show wT.heap.size ≤ (w6.heap.push _).size; simp <;> omega) (w6.heap.size + 1) (by simp) ?_
                  intro g7 cap7 w7 hown7 hgrow7 hat7 hlt7
                  refine hK.out _ _ (HS7.out w6 w7 _ hb16 hgrow7) ?_
                  clear hK K
                  intro HS0
                  refine wpAnyH_take (i := 15) (v := ?_) rfl (by kernel_rfl) (by kernel_rfl) (by kernel_rfl) (fun _ _ _ h => h) (Or.inl ⟨by kernel_rfl, ?_⟩) HS0 ?_
                  rotate_left
                  · intro W hW; obtain ⟨hW0, hW1, hW2, hW3, hW4, hW5, hW6, hW7⟩ := hW; go_simp; try (with_reducible rfl)
                  refine wpAnyH_done (by kernel_rfl) ?_ _
                  refine NoPanic.normal ?_
                  (try go_simp)
                  obtain ⟨R2, e1, e2, e3, e4⟩ := HNX.out w5 w6 w7 A5 c5 A6 cs6 g7 cap7 hb5 hown5 hb6 hrd6 hist6 hown7 hgrow7 hat7
                  have HE1 := Lib.hid e1
                  have HE2 := Lib.hid e2
                  have HE3 := Lib.hid e3
                  have HE4 := Lib.hid e4
                  clear e1 e2 e3 e4 hown7 hgrow7 hat7 HS0
                  go_wp2
                  go_roundw
                  case rel => exact ⟨_, R2, q + 1, rfl, by go_num, HE1.out, by omega, HE2.out, HE3.out, HE4.out⟩
                  case measure => simp [intOf]; omega
                · obtain rfl : q = N := by omega
                  obtain ⟨uA, uc, hu, hu1, hu2, hu3⟩ := ownsRow_shape HRW.out.1
                  have HCL := Lib.hid (clipR_any uA q uc wo (by rw [HQR.out]; exact hu1))
                  have HUS := Lib.hid (show u = .slice uA q uc by rw [HQR.out]; exact hu)
                  rw [HUS.out]
                  clear hu hu1 hu2 hu3
                  go_wp2_with fail
                  (with_reducible refine (HCL.out).mono ?_)
                  rintro e w9 ⟨rfl, rfl⟩
                  go_wp2
                  go_ret2
                  exact ⟨HBWT.out.trans (HBO.out.mono HBWT.out.size), .inr ⟨HCZ.out, uA, q, R, by rw [HQR.out]; rfl, RowW.rd (c := uc) (n := q) (by rw [← HUS.out]; exact HRW.out) HQR.out, grp_rows HPM.out HS5.out HORD.out.nodup HORD.out.mem HSR.out (by rw [← HQR.out, HTL.out]) HGD.out⟩⟩
  · have HC := Lib.hid (show codeG n l keys = cc by unfold codeG; rw [if_pos (by rw [← hcc]; exact hc0), hcc])
    have hcn : (cc != 0) = true := by simpa using hc0
    clear hcc
    go_wp2
    go_ret2
    exact ⟨HB1.out, .inl ⟨by rw [HC.out]; exact hc0, by rw [HC.out]; rfl⟩⟩
end Go.Proofs.YtjkoppdddaknlaaGreatDoor
