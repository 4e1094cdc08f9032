/- Package load: Spans: the loop over the changes. -/
import Derived.Test.YtajokainammahaaSpSort
import Derived.Deep.RegionLaw
namespace Go.Proofs.Ytajokainammahaa
open Go Go.RowKit Go.Proofs

/-- the rows without a box -/
structure SpR (w1 wr : World) (v6 v7 : Value) (st : Stk) : Prop where
  own1 : wr.ownsRow w1.heap.size 3 1 v6 st.1.length (ints st.1)
  own2 : wr.ownsRow w1.heap.size 44 3 v7 st.2.length (cells3 st.2)
  ne : ∀ i, some i = v6.ownBlock → some i ≠ v7.ownBlock
  below : Below w1.heap.size w1 wr
theorem SpI.out {w1 wr : World} {cB : Nat} {o : Obj} {v6 v7 : Value} {st : Stk} (h : SpI w1 wr cB o v6 v7 st) : SpR w1 wr v6 v7 st := ⟨h.own1, h.own2, h.ne, h.below⟩
theorem SpR.start {w1 wr : World} {v6 v7 : Value} {st : Stk} (h : SpR w1 wr v6 v7 st) {W : World} {o : Obj} (hb : Below wr.heap.size wr W) (hx : W.heap[wr.heap.size]? = some o) : SpI w1 W wr.heap.size o v6 v7 st where
  own1 := ownsRow_fr h.own1 (Fr.of_below hb) (fun i hi hm => by have := (ownsRow_block h.own1 hi).2; omega)
  own2 := ownsRow_fr h.own2 (Fr.of_below hb) (fun i hi hm => by have := (ownsRow_block h.own2 hi).2; omega)
  ne := h.ne
  below := below_next h.below hb
  box := hx
  ne1 := fun e => by have := (ownsRow_block h.own1 e).2; omega
  ne2 := fun e => by have := (ownsRow_block h.own2 e).2; omega
def slLen : Value → Nat
  | .slice _ n _ => n
  | _ => 0
theorem chS_len {st : Stk} {c : Int × Int} (hu : 0 ≤ c.2) : ((chS st c).1.length : Int) = c.2 ∧ (chS st c).2.length ≤ st.2.length + st.1.length + c.2.toNat := by
  have key : ∀ (k : Nat) (s : Stk), (popS c.1 k s).1.length = s.1.length - k ∧ (popS c.1 k s).2.length = s.2.length + k := by
    intro k
    induction k with
    | zero => intro s; exact ⟨rfl, rfl⟩
    | succ k ih => intro s; rw [popS]; have := ih (s.1.dropLast, s.2 ++ [((s.1.length : Int) - 1, s.1.getLast?.getD 0, c.1)]); simp at this; omega
  have key2 : ∀ (k : Nat) (bg : List Int), (pushS c.1 k bg).length = bg.length + k := by
    intro k
    induction k with
    | zero => intro bg; rfl
    | succ k ih => intro bg; rw [pushS, ih]; simp; omega
  unfold chS
  have h1 := key ((pushS c.1 (c.2.toNat - st.1.length) st.1).length - c.2.toNat) (pushS c.1 (c.2.toNat - st.1.length) st.1, st.2)
  rw [key2] at h1 ⊢
  simp only at h1
  omega

set_option maxHeartbeats 4000000 in
set_option maxRecDepth 100000 in
theorem spans_any (A : Option Addr) (c : Nat) (l : List (Int × Int × Int)) (w : World) (hr : Rd w 0 w.heap.size 3 A l.length (cells3 l)) (hl : l.length ≤ 9223372036854775807) :
    Calls Try.prog 15 #[.slice A l.length c] w fun e w' => ∃ A' c' L, e = .returned (.tuple #[.slice A' L.length c', .int .i64 (usrC l)]) ∧ Rd w' 0 w'.heap.size 3 A' L.length (cells3 L) ∧ (usrC l = 0 → L.Perm (spS (usrL l)).2 ∧ Srt L) ∧ L.length ≤ 1000000000000 ∧ Below w.heap.size w w' := by
  obtain ⟨ii, hii, hiz0, hiz1, hiz2⟩ := info_parts infoIs
  obtain ⟨is, his, hisz0, hisz1, hisz2⟩ := info_parts Try.infoSp
  have HUS := Lib.hid (users_any A c l w hr hl)
  clear hr
  by_cases hc : usrC l = 0
  · obtain ⟨⟨hi, hasc⟩, hnow, hlen⟩ := users_ok hc
    have HCZ := Lib.hid hc
    rw [hc] at HUS ⊢
    have HAB := Lib.hid hasc.bd
    obtain ⟨cs, hcs⟩ : ∃ cs, cs = usrL l := ⟨_, rfl⟩
    rw [← hcs] at HUS HAB hlen ⊢
    clear hasc hnow hcs hc
    go_enter Try.func15, Try.ntmps15
    go_wp2_with fail
    refine HUS.out.mono ?_
    rintro e w1 ⟨A', c', rfl, hrd, hb1⟩
    have HB1 := Lib.hid hb1
    have HRD := Lib.hid hrd
    clear hb1 hrd
    go_wp2_with fail
    go_loopw [6, 7, 9, 10, 21] (fun v6 v7 _ _ iv wr => ∃ i : Nat, iv = .int .i64 i ∧ i ≤ cs.length ∧ SpR w1 wr v6 v7 (spS (cs.take i)) ∧ (spS (cs.take i)).1.length ≤ 1000000 ∧ (spS (cs.take i)).2.length ≤ i * 2000000) (fun _ _ _ _ iv _ => cs.length - (intOf iv).toNat)
    case atStart => exact ⟨0, rfl, Nat.zero_le _, ⟨⟨rfl, .inl ⟨rfl, rfl⟩⟩, ⟨rfl, .inl ⟨rfl, rfl⟩⟩, fun i h => by simp [Value.ownBlock] at h, Below.refl _ _⟩, Nat.zero_le _, Nat.zero_le _⟩
    case round =>
      obtain ⟨i, rfl, hi', hsp, hl1, hl2⟩ := hrel
      have HSP := Lib.hid hsp
      by_cases hlt : i < cs.length
      · obtain ⟨bk, o, T, U, rfl, _, hbk, hx, q0, q1⟩ := (HRD.out.below hsp.below (Nat.le_refl _)).atC hlt
        have hU := HAB.out _ (List.mem_of_getElem? hx)
        simp only at hU
        have HTK := Lib.hid (spS_take hx)
        have hcl := chS_len (st := spS (cs.take i)) (c := (T, U)) hU.2.1
        obtain ⟨W2, hW2⟩ : ∃ W2, W2 = wr.alloc (.cells #[.int .i64 T, .int .i64 U] 46) := ⟨_, rfl⟩
        have HI := Lib.hid (show SpI w1 W2 wr.heap.size (.cells #[.int .i64 T, .int .i64 U] 46 (0, 0)) u6 u7 (spS (cs.take i)) from hsp.start (by rw [hW2]; exact (Below.refl _ wr).alloc (Nat.le_refl _) _) (by rw [hW2]; exact alloc_at _ _ _ rfl))
        have hCH : chS (spS (cs.take i)) (T, U) = _ := rfl
        obtain ⟨⟨bg, out⟩, hst⟩ : ∃ s, s = spS (cs.take i) := ⟨_, rfl⟩
        rw [← hst] at HI HTK hl1 hl2 hcl
        simp only at hl1 hl2 hcl
        clear hsp hx hst hCH
        go_wp2_with fail
        rw [← hW2]
        clear hW2 q0 q1
        obtain ⟨cB, hcB⟩ : ∃ cB, cB = wr.heap.size := ⟨_, rfl⟩
        rw [← hcB] at HI ⊢
        clear hcB
        go_loopw [6] (fun v6 wr2 => ∃ bg' : List Int, SpI w1 wr2 cB (.cells #[.int .i64 T, .int .i64 U] 46 (0, 0)) v6 u7 (bg', out) ∧ pushS T (U.toNat - bg'.length) bg' = pushS T (U.toNat - bg.length) bg ∧ bg'.length ≤ 1000000) (fun v6 _ => 2000000 - slLen v6)
        case atStart => exact ⟨bg, HI.out, rfl, hl1⟩
        case round =>
          obtain ⟨bg', hin, hpu, hb1⟩ := hrel
          have HIN := Lib.hid hin
          have k0 : wr.cell? ⟨cB, 0, none⟩ = some (.int .i64 T) := by rw [cellsAt hin.box]; rfl
          have k1 : wr.cell? ⟨cB, 1, none⟩ = some (.int .i64 U) := by rw [cellsAt hin.box]; rfl
          obtain ⟨A6, cap6, rfl, hcap6, hcm6, hA6⟩ := ownsRow_shape hin.own1
          clear hin
          by_cases hlt2 : (bg'.length : Int) < U
          · have t1 : decide ((bg'.length : Int) < U) = true := by simpa using hlt2
            have HPU := Lib.hid (show pushS T (U.toNat - (bg' ++ [T]).length) (bg' ++ [T]) = pushS T (U.toNat - bg.length) bg by
              rw [← hpu, show U.toNat - bg'.length = (U.toNat - (bg' ++ [T]).length) + 1 by simp; omega]; rfl)
            have hszw := (HIN.out.below).size
            clear hpu
            go_wp2_with (at_builtin; refine wpList_append_lies _ rfl (.tmp 30) (.tmp 33) 27 rfl w1.heap.size 3 ii _ 1 8 Try.underlying27 hii hiz0 hiz1 hiz2 rfl (by decide) (.slice A6 bg'.length cap6) bg'.length (ints bg') rfl (HIN.out.own1.alloc _) ⟨wr.heap.size, 0, none⟩ 1 1 [.int .i64 T] rfl rfl (cell_one_new wr (.int .i64 T) 3) (by simp [Value.oneCell']) (by omega) (by unfold maxLen; omega) (by omega) (by simp; omega) (wr.heap.size + 1) (by simp) ?_)
            intro g cap w4 hown hgr hat hlt4
            have HN := Lib.hid ((HIN.out.on ((Below.refl _ wr).alloc (Nat.le_refl _) (.cells #[.int .i64 T] 3))).push (T := T) hown hgr (hat.imp id (fun h => by rw [h]; simp)))
            clear hown hgr hat hlt4
            go_wp2
            go_roundw
            case rel => exact ⟨bg' ++ [T], by simpa using HN.out, HPU.out, by simp; omega⟩
            case measure => simp [slLen]; omega
          · have t1 : decide ((bg'.length : Int) < U) = false := by simpa using hlt2
            have HPU := Lib.hid (show bg' = pushS T (U.toNat - bg.length) bg by rw [← hpu, show U.toNat - bg'.length = 0 by omega]; rfl)
            have HPO := Lib.hid (show chS (bg, out) (T, U) = popS T (bg'.length - U.toNat) (bg', out) by rw [HPU.out]; rfl)
            clear hpu
            go_wp2_with fail
            go_loopw [6, 7, 10] (fun v6 v7 _ wr2 => ∃ bg2 out2, SpI w1 wr2 cB (.cells #[.int .i64 T, .int .i64 U] 46 (0, 0)) v6 v7 (bg2, out2) ∧ popS T (bg2.length - U.toNat) (bg2, out2) = chS (bg, out) (T, U) ∧ bg2.length ≤ 1000000 ∧ out2.length + bg2.length ≤ out.length + 1000000 ∧ U.toNat ≤ bg2.length) (fun v6 _ _ _ => slLen v6)
            case atStart => exact ⟨bg', out, HIN.out, HPO.out.symm, hb1, by omega, by omega⟩
            case round =>
              obtain ⟨bg2, out2, hin, hpo, hb2, ho2, hu2⟩ := hrel
              have HIN := Lib.hid hin
              have k0 : wr.cell? ⟨cB, 0, none⟩ = some (.int .i64 T) := by rw [cellsAt hin.box]; rfl
              have k1 : wr.cell? ⟨cB, 1, none⟩ = some (.int .i64 U) := by rw [cellsAt hin.box]; rfl
              obtain ⟨A7, cap7, rfl, _, _, _⟩ := ownsRow_shape hin.own1
              by_cases hgt : U < (bg2.length : Int)
              · have t2 : decide (U < (bg2.length : Int)) = true := by simpa using hgt
                obtain ⟨j, hj⟩ : ∃ j, bg2.length = j + 1 := ⟨bg2.length - 1, by omega⟩
                obtain ⟨g6, cp6, hv6, _, _, hnc, hcm⟩ := ownsRow_some hin.own1 (by simp only; omega)
                obtain ⟨rfl, rfl⟩ : A7 = some ⟨g6, 0, none⟩ ∧ cap7 = cp6 := by simpa using hv6
                have hdl : bg2.dropLast.length = j := by simp; omega
                simp only at hnc
                clear hv6
                obtain ⟨b6, o6, u6, hA, _, hu, qj⟩ := (Rd.of_own hin.own1).at1 (show j < bg2.length by omega)
                obtain ⟨x, hx, rfl⟩ := ints_get hu
                simp only [Option.some.injEq, Addr.mk.injEq, and_true] at hA
                obtain ⟨rfl, rfl⟩ := hA
                rw [Nat.zero_add] at qj
                have hgl : bg2.getLast? = some x := by rw [List.getLast?_eq_getElem?, hj, Nat.add_sub_cancel]; exact hx
                have HPO2 := Lib.hid (show popS T (bg2.dropLast.length - U.toNat) (bg2.dropLast, out2 ++ [((j : Int), x, T)]) = chS (bg, out) (T, U) by
                  rw [← hpo, show bg2.length - U.toNat = (bg2.dropLast.length - U.toNat) + 1 by omega, popS]
                  simp only [hgl, Option.getD_some, hj]
                  rw [show ((j + 1 : Nat) : Int) - 1 = (j : Int) by omega])
                have hji : (bg2.length : Int) - 1 = (j : Int) := by omega
                have hjlt : j < bg2.length := by omega
                have hjc : j ≤ cap7 := by omega
                have hszw := (HIN.out.below).size
                have HJ := Lib.hid hj
                clear hin hpo hu hx hgl hj
                go_wp2_with fail
                go_region_law
                  ((refine step_append_lies _ (by rfl) _ _ _ (by rfl) w1.heap.size 44 is _ 3 24 Try.underlying40 his hisz0 hisz1 hisz2 rfl (by omega) u7 out2.length (cells3 out2) (by rfl) ((HIN.out.own2.alloc _).drew)
                      ⟨wr.heap.size, 0, none⟩ 1 1 [.int .i64 (j : Int), .int .i64 x, .int .i64 T] (by rfl) (by rfl) (World.news_of_block (cs := #[.int .i64 (j : Int), .int .i64 x, .int .i64 T]) (t := 44) (fr := (0, 0)) (heap_alloc_new wr _)) (by simp [Value.oneCell'])
                      (by omega) (by unfold maxLen; omega) (by omega) (by simp; omega) (wr.heap.size + 1) (by simp) ?_; intro gg cap w4 hown' hgrow hat hlt'))
                all_goals (have HN := Lib.hid (((HIN.out.on (show Below wr.heap.size wr (wr.alloc (.cells #[.int .i64 (j : Int), .int .i64 x, .int .i64 T] 44)).drew from ((Below.refl _ wr).alloc (Nat.le_refl _) _).drew)).tell (s := ((j : Int), x, T)) hown' hgrow (hat.imp id (fun h => by show (wr.alloc _).heap.size ≤ gg; rw [h]; simp))).pop); clear hown' hgrow hat hlt')
                all_goals rw [show bg2.length - 1 = j by have := HJ.out; omega] at HN
                all_goals go_wp2
                all_goals exact ⟨⟨bg2.dropLast, out2 ++ [((j : Int), x, T)], HN.out, HPO2.out, by omega, by simp only [List.length_append, List.length_singleton]; omega, by omega⟩, by simp only [slLen]; omega⟩
              · have t2 : decide (U < (bg2.length : Int)) = false := by simpa using hgt
                have HFIN := Lib.hid (show spS (cs.take (i + 1)) = (bg2, out2) by rw [HTK.out, ← hpo, show bg2.length - U.toNat = 0 by omega]; rfl)
                clear hin hpo
                go_wp2
                go_roundw
                case rel => exact ⟨i + 1, by go_num, by omega, by rw [HFIN.out]; exact HIN.out.out, by rw [HFIN.out]; exact hb2, by rw [HFIN.out]; simp only; omega⟩
                case measure => simp [intOf]; omega
      · obtain rfl : i = cs.length := by omega
        rw [List.take_length] at hsp hl2
        have hPS := spanSortV_any hsp.own2 (by omega)
        have hsz := hsp.below.size
        have HBW := Lib.hid (below_next HB1.out hsp.below)
        have hown := fun i (hi : some i = u7.ownBlock) => (ownsRow_block hsp.own2 hi).1
        have HPS := Lib.hid hPS
        have HOW := Lib.hid hown
        obtain ⟨A7, cap7, rfl, hcp, hcm, hA7⟩ := ownsRow_shape hsp.own2
        have HCL := Lib.hid (fun W => clipS_any A7 (spS cs).2.length cap7 W hcp hcm hA7)
        have hs1 := HB1.out.size
        clear hsp hPS hown
        go_wp2_with fail
        refine HPS.out.mono ?_
        rintro e w4 ⟨rfl, L, hpm, hsr, hown4, hf4⟩
        have HRD4 := Lib.hid ((Rd.of_own hown4).more (Nat.zero_le _) (Nat.le_refl _))
        have HB4 := Lib.hid (HBW.out.trans (hf4.below (B := w.heap.size) (by omega) (fun i hi hm => by have := HOW.out i hm; omega)))
        have HPM := Lib.hid hpm
        have HSR := Lib.hid hsr
        have hlL := hpm.length_eq
        rw [← hlL] at HCL HRD4
        have HL := Lib.hid hlL
        clear hpm hsr hown4 hf4 hlL
        go_wp2_with fail
        rw [← HL.out]
        refine (HCL.out _).mono ?_
        rintro e w5 ⟨rfl, rfl⟩
        go_wp2
        go_ret2
        exact ⟨A7, L.length, L, rfl, HRD4.out, fun _ => ⟨HPM.out, HSR.out⟩, by have := HL.out; omega, HB4.out⟩
  · have HCZ := Lib.hid hc
    have HUL := Lib.hid (show usrL l = [] by unfold usrL; rw [if_neg hc])
    rw [HUL.out] at HUS
    obtain ⟨cc, hcc⟩ : ∃ cc, cc = usrC l := ⟨_, rfl⟩
    rw [← hcc] at HUS hc ⊢
    have t1 : (cc != 0) = true := by simpa using hc
    clear hcc
    go_enter Try.func15, Try.ntmps15
    go_wp2_with fail
    refine HUS.out.mono ?_
    rintro e w1 ⟨A', c', rfl, hrd, hb1⟩
    go_wp2
    go_ret2
    exact ⟨none, 0, [], rfl, Rd.nil, fun h => absurd h hc, by simp, hb1⟩
end Go.Proofs.Ytajokainammahaa
