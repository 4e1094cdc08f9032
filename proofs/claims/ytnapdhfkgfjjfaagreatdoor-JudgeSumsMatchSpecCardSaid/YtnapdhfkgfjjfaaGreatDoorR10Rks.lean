/- Package dynamometerref10: Ranks. -/
import Derived.StillTailTactics
import Derived.Test.YtnapdhfkgfjjfaaGreatDoorR10Wys
import Derived.Test.YtnapdhfkgfjjfaaGreatDoorG37
import Derived.Test.YtnapdhfkgfjjfaaGreatDoorG13
namespace Go.Proofs.YtnapdhfkgfjjfaaGreatDoor
open Go Go.RowKit Go.Proofs

theorem infoIn : (Tryz.prog.info? 3).map (fun i => (i.zero, i.size, i.bytes)) = some (some (.int .i64 0), 1, 8) := by kernel_rfl
/-- the reference's score of element i, of the first k elements -/
def rwP (all : List Int) (i : Nat) (x : Int) (k : Nat) : Int := scP all x k - (if i < k then 1 else 0)
theorem rwP_zero (all : List Int) (i : Nat) (x : Int) : rwP all i x 0 = 0 := by unfold rwP; rw [scP_nil, if_neg (by omega)]; rfl
theorem rwP_same {all : List Int} {i : Nat} {x : Int} (h : all[i]? = some x) : rwP all i x (i + 1) = rwP all i x i := by
  unfold rwP
  rw [scP_step x h, if_neg (Int.lt_irrefl x), if_pos rfl, if_pos (Nat.lt_succ_self i), if_neg (Nat.lt_irrefl i)]
  omega
theorem rwP_step {all : List Int} {i k : Nat} {x y : Int} (h : all[k]? = some y) (hk : k ≠ i) : rwP all i x (k + 1) = rwP all i x k + 1 + (if x - y < 0 then -1 else if 0 < x - y then 1 else 0) := by
  unfold rwP
  rw [scP_step x h]
  have e : (if i < k + 1 then (1 : Int) else 0) = if i < k then 1 else 0 := by
    by_cases hi : i < k
    · rw [if_pos hi, if_pos (by omega)]
    · rw [if_neg hi, if_neg (by omega)]
  rw [e]
  by_cases h1 : y < x
  · rw [if_pos h1, if_neg (show ¬ x - y < 0 by omega), if_pos (show 0 < x - y by omega)]; omega
  · rw [if_neg h1]
    by_cases h2 : y = x
    · rw [if_pos h2, if_neg (show ¬ x - y < 0 by omega), if_neg (show ¬ 0 < x - y by omega)]; omega
    · rw [if_neg h2, if_pos (show x - y < 0 by omega)]; omega
theorem rwP_all {all : List Int} {i : Nat} {x : Int} (h : i < all.length) : rwP all i x all.length = -1 + scr all x := by
  unfold rwP
  rw [scP_all, if_pos h]; omega
theorem rwP_bd (all : List Int) (i : Nat) (x : Int) (k : Nat) (h : all.length ≤ 1000000) : -1 ≤ rwP all i x k ∧ rwP all i x k ≤ 2000000 := by
  have := scP_bound all x k h
  unfold rwP
  split <;> omega
/-- the reference's weights -/
def wtR (all : List Int) : List Int := (scrs all).map (-1 + ·)
theorem wtR_len (all : List Int) : (wtR all).length = all.length := by unfold wtR; rw [List.length_map, scrs_len]
theorem wtR_at {all : List Int} {i : Nat} {x : Int} (h : all[i]? = some x) : (wtR all)[i]? = some (-1 + scr all x) := by unfold wtR; rw [List.getElem?_map, scrs_at h]; rfl
theorem wtR_next {all : List Int} {i : Nat} {x : Int} (h : all[i]? = some x) : ints ((wtR all).take (i + 1)) = ints ((wtR all).take i) ++ [.int .i64 (-1 + scr all x)] := by
  rw [List.take_add_one, wtR_at h]
  unfold ints
  rw [List.map_append]; rfl
theorem wtR_bd (all : List Int) (h : all.length ≤ 40) : ∀ x ∈ wtR all, -80 ≤ x ∧ x ≤ 80 := fun x hx => by
  unfold wtR scrs at hx
  rw [List.map_map] at hx
  obtain ⟨y, _, rfl⟩ := List.mem_map.1 hx
  have := scr_bound all y
  show -80 ≤ -1 + scr all y ∧ -1 + scr all y ≤ 80
  omega
/-- sums of weights -/
def wsR (all : List Int) (k : Nat) : Int := ((wtR all).take k).sum
theorem wsR_zero (all : List Int) : wsR all 0 = 0 := by unfold wsR; rfl
theorem wsR_step {all : List Int} {k : Nat} {z : Int} (h : (wtR all)[k]? = some z) : wsR all (k + 1) = wsR all k + z := by unfold wsR; rw [List.take_add_one, h]; simp
theorem wsR_bd (all : List Int) (hl : all.length ≤ 40) (k : Nat) : -(80 * (k : Int)) ≤ wsR all k ∧ wsR all k ≤ 80 * (k : Int) := by
  induction k with
  | zero => rw [wsR_zero]; omega
  | succ k ih =>
    cases hx : (wtR all)[k]? with
    | none =>
      have e : wsR all (k + 1) = wsR all k := by unfold wsR; rw [List.take_add_one, hx]; simp
      omega
    | some z =>
      rw [wsR_step hx]
      have := wtR_bd all hl z (List.mem_of_getElem? hx)
      omega
theorem wsR_eq (a b : List Int) : wsR (a ++ b) a.length = rkS a b - (a.length : Int) := by
  unfold wsR wtR scrs rkS vSum
  rw [List.map_map, ← List.map_take, List.take_append_of_le_length (Nat.le_refl _), List.take_length]
  generalize a ++ b = all
  induction a with
  | nil => rfl
  | cons x a ih =>
    rw [List.map_cons, List.map_cons, List.sum_cons, List.sum_cons, ih, List.length_cons]
    show -1 + scr all x + _ = _
    omega
theorem rkT_ref (a b : List Int) : chs (wtR (a ++ b)) a.length = (rkT a b).map (-(a.length : Int) + ·) := by
  unfold wtR rkT
  rw [chs_const]
  congr 1
  funext x
  omega
theorem rk_ref_le (a b : List Int) : cntLe (rkS a b - (a.length : Int)) (chs (wtR (a ++ b)) a.length) = cntLe (rkS a b) (rkT a b) := by
  rw [rkT_ref, cntLe_shift]; congr 1; omega
theorem rk_ref_ge (a b : List Int) : cntGe (rkS a b - (a.length : Int)) (chs (wtR (a ++ b)) a.length) = cntGe (rkS a b) (rkT a b) := by
  rw [rkT_ref, cntGe_shift]; congr 1; omega
theorem rk_ref_len (a b : List Int) : (chs (wtR (a ++ b)) a.length).length = (rkT a b).length := by rw [rkT_ref, List.length_map]
theorem ints_app (a b : List Int) : ints (a ++ b) = ints a ++ ints b := by unfold ints; rw [List.map_append]
set_option maxHeartbeats 8000000 in
set_option maxRecDepth 100000 in
theorem rRanks_any (A B : Option Addr) (c d : Nat) (a b : List Int) (w : World) (hr1 : Rd w 0 w.heap.size 1 A a.length (ints a)) (hr2 : Rd w 0 w.heap.size 1 B b.length (ints b)) (hm1 : a.length ≤ 4000000000000000000) (hm2 : b.length ≤ 4000000000000000000) :
    Calls Tryz.prog 15 #[.slice A a.length c, .slice B b.length d] w (rkP a b w) := by
  obtain ⟨i0, hi0, hz0, hz1, hz2⟩ := info_parts infoIn
  unfold rkP
  have HR1 := Lib.hid hr1
  have HR2 := Lib.hid hr2
  have HCK := Lib.hid (fun W (hW : Below w.heap.size w W) => rSmpF_any A B c d a b 40 W (hr1.old hW) (hr2.old hW) (by omega) (by omega))
  have hok := smC_ok (a := a) (b := b) (m := 40)
  have hokz : smC a b 40 = 0 → okZ (a ++ b) = true := fun h => by
    unfold smC at h
    split at h
    · cases h
    · split at h
      · cases h
      · split at h
        · assumption
        · cases h
  obtain ⟨C, hC⟩ : ∃ C, C = smC a b 40 := ⟨_, rfl⟩
  rw [← hC] at HCK hok hokz ⊢
  obtain ⟨W0, hW0⟩ : ∃ W0, W0 = w.alloc (.cells #[.int .i64 0, .int .i64 0, .int .i64 0, .int .i64 0] 24) := ⟨_, rfl⟩
  have HST0 := Lib.hid (show St w W0 [(w.heap.size, .cells #[.int .i64 0, .int .i64 0, .int .i64 0, .int .i64 0] 24 (0, 0))] by rw [hW0]; exact (St.start w).alloc _ _ rfl)
  clear hC
  by_cases hz : C = 0
  · obtain ⟨hN0, hM0, hNM⟩ := hok hz
    have HC0 := Lib.hid hz
    have t1 : (C != 0) = false := by rw [hz]; rfl
    have hoz := hokz hz
    obtain ⟨b1, o1, rfl, _⟩ := hr1.2 (by omega)
    obtain ⟨b2, o2, rfl, _⟩ := hr2.2 (by omega)
    obtain ⟨all, hall⟩ : ∃ l, l = a ++ b := ⟨_, rfl⟩
    have hal : all.length = a.length + b.length := by rw [hall]; simp
    have HEL := Lib.hid (And.intro (rk_ref_le a b) (And.intro (rk_ref_ge a b) (rk_ref_len a b)))
    have HVE := Lib.hid (wsR_eq a b)
    rw [← hall] at hoz HEL HVE
    have HALL := Lib.hid hall
    have HOZ := Lib.hid (fun j x (h : all[j]? = some x) => okZ_mem hoz (List.mem_of_getElem? h))
    have hM : a.length + b.length ≤ 40 := by omega
    have HAL := Lib.hid hal
    obtain ⟨Wt, hWt⟩ : ∃ l, l = wtR all := ⟨_, rfl⟩
    have hWl : Wt.length = a.length + b.length := by rw [hWt, wtR_len, hal]
    have HWY := Lib.hid (fun g cap W (h : Rd W 0 W.heap.size 1 (some ⟨g, 0, none⟩) Wt.length (ints Wt)) => rWays_any (some ⟨g, 0, none⟩) cap a.length Wt 80 W h (by omega) (by omega) (by omega) (by omega) (by rw [hWt]; exact wtR_bd all (by omega)))
    have HWF := Lib.hid (fun j i x => wTab_wfM (W := Wt) (M := 80) (by omega) (by omega) (by rw [hWt]; exact wtR_bd all (by omega)) (by omega) j i x)
    have HWT := Lib.hid hWt
    have HWL := Lib.hid hWl
    rw [hWl] at HWY
    have hN : a.length ≤ 39 := by omega
    clear hr1 hr2 hz hok hokz hall hal hoz hWt hWl hNM
    go_enter Tryz.func15, Tryz.ntmps15
    go_wp2_with fail
    rw [← hW0]
    clear hW0
    (with_reducible refine (HCK.out W0 HST0.out.below).mono ?_)
    rintro e w1 ⟨rfl, hb1⟩
    have HB1 := Lib.hid (below_next HST0.out.below hb1)
    have HB10 := Lib.hid hb1
    have hs1 : w.heap.size ≤ w1.heap.size := HB1.out.size
    have HNIL := Lib.hid (show w1.ownsRow w1.heap.size 3 1 (.slice none 0 0) 0 [] from ⟨rfl, .inl ⟨rfl, rfl⟩⟩)
    clear hb1
    go_wp2_with (at_builtin; refine wpList_append_rd rfl (.const (.slice none 0 0)) (.tmp 22) 22 rfl w1.heap.size 3 i0 _ 1 8 Tryz.underlying22 hi0 hz0 hz1 hz2 rfl (by decide) _ 0 [] rfl HNIL.out (some ⟨b1, o1, none⟩) a.length c 0 w.heap.size (ints a) rfl (fun h => by cases h) (HR1.out.below HB1.out (Nat.le_refl _)) (ints_one a) ?c3 ?c4 ?c5 ?_)
    case c3 => unfold maxLen; omega
    case c4 => omega
    case c5 => exact Nat.le_refl _
    intro v1 w2 hown1 hgr1
    have HO1 := Lib.hid hown1
    have HB21 := Lib.hid (show Below w1.heap.size w1 w2 from (Fr.of_grown hgr1).below (Nat.le_refl _) (fun i hi hm => by simp [Value.ownBlock] at hm))
    have hs2 : w1.heap.size ≤ w2.heap.size := HB21.out.size
    clear hown1 hgr1
    go_wp2_with (at_builtin; refine wpList_append_rd rfl (.tmp 23) (.tmp 24) 22 rfl w1.heap.size 3 i0 _ 1 8 Tryz.underlying22 hi0 hz0 hz1 hz2 rfl (by decide) _ a.length (ints a) rfl HO1.out (some ⟨b2, o2, none⟩) b.length d 0 w.heap.size (ints b) rfl (fun h => by cases h) (HR2.out.below (below_next HB1.out HB21.out) (Nat.le_refl _)) (ints_one b) ?c3 ?c4 ?c5 ?_)
    case c3 => unfold maxLen; omega
    case c4 => omega
    case c5 => exact hs2
    intro v2 w3 hown2 hgr2
    rw [← ints_app, ← HALL.out] at hown2
    obtain ⟨g, cap, rfl, hgb, hgl, _⟩ := ownsRow_some hown2 (by omega)
    have HCA := Lib.hid (fun W j x (hb : Below w3.heap.size w3 W) (h : all[j]? = some x) => show W.cell? ⟨g, j, none⟩ = some (.int .i64 x) from (World.cell?_of_block (hb.block g hgl)).trans ((hown2.cellAt j (by have := (List.getElem?_eq_some_iff.1 h).1; rw [HAL.out] at this; omega)).trans (by unfold ints; rw [List.getElem?_map, h]; rfl)))
    have HB3 := Lib.hid (show Below w1.heap.size w1 w3 from HB21.out.trans ((Fr.of_grown hgr2).below hs2 (fun i hi hm => by have := (ownsRow_block HO1.out hm).1; omega)))
    have HBW3 := Lib.hid (below_next HB1.out HB3.out)
    have hs3 : w1.heap.size ≤ w3.heap.size := HB3.out.size
    clear hown2 hgr2
    go_wp2
    go_loopw [8, 9] (fun ov iv wr => ∃ i : Nat, iv = .int .i64 (i : Nat) ∧ i ≤ a.length + b.length ∧ wr.ownsRow w3.heap.size 3 1 ov i (ints (Wt.take i)) ∧ Below w3.heap.size w3 wr) (fun _ iv _ => a.length + b.length - (intOf iv).toNat)
    case atStart => exact ⟨0, rfl, Nat.zero_le _, ⟨rfl, .inl ⟨rfl, rfl⟩⟩, Below.refl _ _⟩
    case round =>
      obtain ⟨i, rfl, hi, hown, hbw⟩ := hrel
      have HOW := Lib.hid hown
      have HBW := Lib.hid hbw
      by_cases hlt : i < a.length + b.length
      · obtain ⟨x, hx⟩ : ∃ x, all[i]? = some x := ⟨_, List.getElem?_eq_getElem (by rw [HAL.out]; exact hlt)⟩
        have hxb := HOZ.out i x hx
        have hx0 := hxb.1
        have hx1 := hxb.2
        have HX := Lib.hid hx
        have q1 : (0 : Int) ≤ (i : Int) := by omega
        have q2 : (i : Int) < ((a.length + b.length : Nat) : Int) := by omega
        have q2' : (i : Int) < (a.length : Int) + (b.length : Int) := by omega
        clear hown hbw hxb hx
        go_wp2
        go_loopw [10, 11] (fun wv kv wr => ∃ k : Nat, kv = .int .i64 (k : Nat) ∧ k ≤ a.length + b.length ∧ wv = .int .i64 (rwP all i x k) ∧ Below w3.heap.size w3 wr ∧ wr.ownsRow w3.heap.size 3 1 u8 i (ints (Wt.take i))) (fun _ kv _ => a.length + b.length - (intOf kv).toNat)
        case atStart => exact ⟨0, rfl, Nat.zero_le _, by rw [rwP_zero], HBW.out, HOW.out⟩
        case round =>
          obtain ⟨k, rfl, hk, rfl, hbw, hown⟩ := hrel
          have HBK := Lib.hid hbw
          have HOK := Lib.hid hown
          have hwb := rwP_bd all i x k (by rw [HAL.out]; omega)
          obtain ⟨S, hS⟩ : ∃ S, S = rwP all i x k := ⟨_, rfl⟩
          rw [← hS] at hwb ⊢
          have HS := Lib.hid hS
          have hwb0 := hwb.1
          have hwb1 := hwb.2
          clear hwb hS
          by_cases hlt2 : k < a.length + b.length
          · by_cases hki : k = i
            · have t2 : ((k : Int) != (i : Int)) = false := by rw [hki]; simp
              have HN := Lib.hid (show rwP all i x (k + 1) = S by rw [HS.out, hki]; exact rwP_same HX.out)
              clear hki hbw hown
              go_wp2
              go_roundw
              case rel => exact ⟨k + 1, by go_num, by omega, by rw [HN.out], HBK.out, HOK.out⟩
              case measure => simp [intOf]; omega
            · have t2 : ((k : Int) != (i : Int)) = true := by rw [bne_iff_ne]; omega
              obtain ⟨y, hy⟩ : ∃ y, all[k]? = some y := ⟨_, List.getElem?_eq_getElem (by rw [HAL.out]; exact hlt2)⟩
              have hyb := HOZ.out k y hy
              have hy0 := hyb.1
              have hy1 := hyb.2
              have c1 := HCA.out wr i x hbw HX.out
              have c2 := HCA.out wr k y hbw hy
              have HN := Lib.hid (rwP_step hy hki (x := x))
              rw [← HS.out] at HN
              obtain ⟨G, hG⟩ : ∃ G : Int, G = if x - y < 0 then -1 else if 0 < x - y then 1 else 0 := ⟨_, rfl⟩
              have hgb0 : -1 ≤ G ∧ G ≤ 1 := by rw [hG]; split <;> (try split) <;> omega
              have hg0 := hgb0.1
              have hg1 := hgb0.2
              have HSG := Lib.hid (fun W => rSgn10s_any (x - y) W)
              rw [← hG] at HN HSG
              have hbw5 := hbw
              clear hyb hy hki hbw hown hG hgb0
              have hz5 := hbw5.size
              have q3 : (0 : Int) ≤ (k : Int) := by omega
              have q4 : (k : Int) < ((a.length + b.length : Nat) : Int) := by omega
              have q4' : (k : Int) < (a.length : Int) + (b.length : Int) := by omega
              have q5 : IntKind.i64.wrap (S + 1) = S + 1 := IntWalk.i64_in _ (by omega)
              have q6 : IntKind.i64.wrap (x - y) = x - y := IntWalk.i64_in _ (by omega)
              have q7 : IntKind.i64.wrap (S + 1 + G) = S + 1 + G := IntWalk.i64_in _ (by omega)
              clear hbw5
              go_wp2
              refine wp_region_still_tail 13 (by kernel_rfl) (by kernel_rfl) ?_
              simp only [List.take_succ_cons, List.take_zero, List.drop_succ_cons, List.drop_zero]
              repeat still_step
              still_call (HSG.out _)
              repeat still_step
              refine wpStill_nil ?_
              change wpList _ _ _ _ _ wr.drew
              go_wp2
              go_roundw
              case rel => exact ⟨k + 1, by go_num, by omega, by rw [HN.out], HBK.out.drew, HOK.out⟩
              case measure => simp [intOf]; omega
          · have hke : k = a.length + b.length := by omega
            have HSE := Lib.hid (show S = -1 + scr all x by rw [HS.out, hke, ← HAL.out]; exact rwP_all (by rw [HAL.out]; exact hlt))
            have HNX := Lib.hid (show ints (Wt.take (i + 1)) = ints (Wt.take i) ++ [.int .i64 S] by rw [HWT.out, HSE.out]; exact wtR_next HX.out)
            have hsz := hbw.size
            have HOA := Lib.hid (hown.alloc (.cells #[.int .i64 S] 3))
            have HBA := Lib.hid (show Below w3.heap.size w3 (wr.alloc (.cells #[.int .i64 S] 3)) from hbw.trans ((Below.refl _ wr).alloc hsz _))
            clear hbw hown hke
            go_wp2_with (at_builtin; refine wpList_append_own _ rfl (.tmp 54) (.tmp 56) 22 rfl w3.heap.size 3 i0 _ 1 8 Tryz.underlying22 hi0 hz0 hz1 hz2 rfl (by decide) _ i (ints (Wt.take i)) rfl HOA.out ⟨wr.heap.size, 0, none⟩ 1 1 [.int .i64 S] rfl rfl (cell_one_new wr _ 3) (by simp [Value.oneCell']) ?c3 ?c4 ?c5 ?_)
            case c3 => unfold maxLen; omega
            case c4 => omega
            case c5 => simp; omega
            intro v' w6 hown6 hgr6 _
            rw [← HNX.out] at hown6
            have HO6 := Lib.hid hown6
            have HB6 := Lib.hid (show Below w3.heap.size w3 w6 from HBA.out.trans ((Fr.of_grown hgr6).below HBA.out.size (fun i hi hm => by have := (ownsRow_block HOA.out hm).1; omega)))
            clear hown6 hgr6
            go_wp2
            go_roundw
            case rel => exact ⟨i + 1, by go_num, by omega, HO6.out, HB6.out⟩
            case measure => simp [intOf]; omega
      · obtain rfl : i = a.length + b.length := by omega
        rw [List.take_of_length_le (by rw [HWL.out]; omega)] at hown
        obtain ⟨gw, capw, rfl, hgb2, hgl2, _⟩ := ownsRow_some hown (by omega)
        have HRW := Lib.hid (fun W (hb : Below wr.heap.size wr W) => show Rd W 0 W.heap.size 1 (some ⟨gw, 0, none⟩) (a.length + b.length) (ints Wt) from ((Rd.of_own hown).more (Nat.zero_le _) (Nat.le_refl _)).old hb)
        have HCW := Lib.hid (fun W j x (hb : Below wr.heap.size wr W) (h : Wt[j]? = some x) => show W.cell? ⟨gw, j, none⟩ = some (.int .i64 x) from (World.cell?_of_block (hb.block gw hgl2)).trans ((hown.cellAt j (by have := (List.getElem?_eq_some_iff.1 h).1; rw [HWL.out] at this; omega)).trans (by unfold ints; rw [List.getElem?_map, h]; rfl)))
        have HBZ := Lib.hid (show Below w.heap.size w wr from below_next HBW3.out hbw)
        have HBW4 := Lib.hid hbw
        obtain ⟨W4, rfl⟩ : ∃ W : World, W = wr := ⟨_, rfl⟩
        clear hown hbw hi hlt
        go_wp2
        go_loopw [12, 13] (fun vv kv wr => ∃ k : Nat, kv = .int .i64 (k : Nat) ∧ k ≤ a.length ∧ vv = .int .i64 (wsR all k) ∧ Below W4.heap.size W4 wr) (fun _ kv _ => a.length - (intOf kv).toNat)
        case atStart => exact ⟨0, rfl, Nat.zero_le _, by rw [wsR_zero], Below.refl _ _⟩
        case round =>
          obtain ⟨k, rfl, hk, rfl, hbw⟩ := hrel
          have HBK := Lib.hid hbw
          have hwb := wsR_bd all (by rw [HAL.out]; exact hM) k
          obtain ⟨V, hV⟩ : ∃ V, V = wsR all k := ⟨_, rfl⟩
          rw [← hV] at hwb ⊢
          have HV := Lib.hid hV
          have hv0 : -3200 ≤ V := by omega
          have hv1 : V ≤ 3200 := by omega
          clear hwb hV
          by_cases hlt : k < a.length
          · obtain ⟨z, hzz⟩ : ∃ z, Wt[k]? = some z := ⟨_, List.getElem?_eq_getElem (by rw [HWL.out]; omega)⟩
            have c1 := HCW.out wr k z hbw hzz
            rw [HWT.out] at hzz
            have hzb := wtR_bd all (by rw [HAL.out]; exact hM) z (List.mem_of_getElem? hzz)
            have HN := Lib.hid (show wsR all (k + 1) = V + z by rw [wsR_step hzz, HV.out])
            have hz8 := hzb.1
            have hz9 := hzb.2
            clear hzz hzb hbw
            go_wp2
            go_roundw
            case rel => exact ⟨k + 1, by go_num, by omega, by rw [HN.out], HBK.out⟩
            case measure => simp [intOf]; omega
          · obtain rfl : k = a.length := by omega
            have HVS := Lib.hid (show V = rkS a b - (a.length : Int) by rw [HV.out, HVE.out])
            have HW1 := Lib.hid (HWY.out gw capw wr (HRW.out wr hbw))
            have hnn : (a.length : Int) * ((a.length : Int) - 1) ≤ 1600 := by
              have h1 : (a.length : Int) ≤ 40 := by omega
              have := Int.mul_le_mul h1 (show (a.length : Int) - 1 ≤ 40 by omega) (by omega) (by omega)
              omega
            have hnn0 : 0 ≤ (a.length : Int) * ((a.length : Int) - 1) := Int.mul_nonneg (by omega) (by omega)
            have hqe : (a.length : Int) * ((a.length : Int) - 1) = (a.length : Int) * (a.length : Int) - (a.length : Int) := by rw [Int.mul_sub, Int.mul_one]
            obtain ⟨q, hq⟩ : ∃ q, q = (a.length : Int) * ((a.length : Int) - 1) := ⟨_, rfl⟩
            rw [← hq] at hnn hnn0 hqe
            have HQE := Lib.hid hqe
            have hq' := hq.symm
            clear hbw hqe hq hlt
            go_wp2_with fail
            (with_reducible refine (HW1.out).mono ?_)
            rintro e w5 ⟨m, rfl, hmb, hmz, hb5⟩
            have HMZ := Lib.hid hmz
            have HRK := Lib.hid (rRanked_any V m _ _ _ w5 hmz (fun x hx => HWF.out (a.length + b.length) a.length x (by unfold wTab; rw [List.take_of_length_le (by rw [HWL.out]; omega)]; exact hx)) (by
              have h1 := chs_length_le Wt a.length
              have h2 := two_pow (j := Wt.length) (by rw [HWL.out]; omega)
              omega))
            have HB5 := Lib.hid (below_next HBK.out hb5)
            clear hmz hb5
            go_wp2_with fail
            (with_reducible refine (HRK.out).mono ?_)
            rintro e w6 ⟨rfl, hb6⟩
            have HB6 := Lib.hid (below_next HB5.out hb6)
            have HBY := Lib.hid (below_next HBZ.out HB6.out)
            have hle : cntLe V (chs Wt a.length) = cntLe (rkS a b) (rkT a b) := by rw [HVS.out, HWT.out]; exact HEL.out.1
            have hge : cntGe V (chs Wt a.length) = cntGe (rkS a b) (rkT a b) := by rw [HVS.out, HWT.out]; exact HEL.out.2.1
            have hln : (chs Wt a.length).length = (rkT a b).length := by rw [HWT.out]; exact HEL.out.2.2
            rw [hle, hge, hln]
            obtain ⟨L1, hL1⟩ : ∃ z, z = cntLe (rkS a b) (rkT a b) := ⟨_, rfl⟩
            obtain ⟨L2, hL2⟩ : ∃ z, z = cntGe (rkS a b) (rkT a b) := ⟨_, rfl⟩
            obtain ⟨L3, hL3⟩ : ∃ z, z = (rkT a b).length := ⟨_, rfl⟩
            rw [← hL1, ← hL2, ← hL3]
            have HLL := Lib.hid (And.intro hL1 (And.intro hL2 hL3))
            have hst := HST0.out.call (show Below W0.heap.size W0 w6 from below_next (below_next HB10.out (HB3.out.trans (HBW4.out.mono hs3))) HB6.out)
            have b0 : w6.cell? ⟨w.heap.size, 0, none⟩ = some (.int .i64 0) := hst.cell 0 0 rfl rfl
            have b1 : w6.cell? ⟨w.heap.size, 1, none⟩ = some (.int .i64 0) := hst.cell 0 1 rfl rfl
            have b2 : w6.cell? ⟨w.heap.size, 2, none⟩ = some (.int .i64 0) := hst.cell 0 2 rfl rfl
            have b3 : w6.cell? ⟨w.heap.size, 3, none⟩ = some (.int .i64 0) := hst.cell 0 3 rfl rfl
            have z0 := hst.frozen 0 0 rfl
            have z1 := hst.frozen 0 1 rfl
            have z2 := hst.frozen 0 2 rfl
            have z3 := hst.frozen 0 3 rfl
            have hlt := hst.lt 0 rfl
            have hs6 : w.heap.size ≤ w6.heap.size := HBY.out.size
            have HBF := Lib.hid (fun x y u v o => ((((HBY.out.setCell (p := ⟨w.heap.size, 0, none⟩) (Nat.le_refl _) x).setCell (p := ⟨w.heap.size, 1, none⟩) (Nat.le_refl _) y).setCell (p := ⟨w.heap.size, 2, none⟩) (Nat.le_refl _) u).setCell (p := ⟨w.heap.size, 3, none⟩) (Nat.le_refl _) v).alloc (by simpa [World.setCell] using hs6) o)
            clear hst hle hge hln hL1 hL2 hL3
            go_wp2
            refine bodyPost_ret (v := .tuple #[.agg #[.int .i64 (V - q), .int .i64 L1, .int .i64 L2, .int .i64 L3], .int .i64 0]) (by simp [results, Tryz.results15, go_sem, b0, b1, b2, b3, hlt]) rfl (.inr ⟨HC0.out, by
              unfold rkR
              rw [HLL.out.1, HLL.out.2.1, HLL.out.2.2, show V - q = rkS a b - (a.length : Int) * (a.length : Int) by rw [HVS.out, HQE.out]; omega], HBF.out _ _ _ _ _⟩)
  · have HNE := Lib.hid hz
    have t1 : (C != 0) = true := by rw [bne_iff_ne]; exact hz
    clear hz hok hokz hr1 hr2
    go_enter Tryz.func15, Tryz.ntmps15
    go_wp2_with fail
    rw [← hW0]
    clear hW0
    (with_reducible refine (HCK.out W0 HST0.out.below).mono ?_)
    rintro e w1 ⟨rfl, hb1⟩
    have hst1 := HST0.out.call hb1
    have k0 : w1.cell? ⟨w.heap.size, 0, none⟩ = some (.int .i64 0) := hst1.cell 0 0 rfl rfl
    have k1 : w1.cell? ⟨w.heap.size, 1, none⟩ = some (.int .i64 0) := hst1.cell 0 1 rfl rfl
    have k2 : w1.cell? ⟨w.heap.size, 2, none⟩ = some (.int .i64 0) := hst1.cell 0 2 rfl rfl
    have k3 : w1.cell? ⟨w.heap.size, 3, none⟩ = some (.int .i64 0) := hst1.cell 0 3 rfl rfl
    have z0 := hst1.frozen 0 0 rfl
    have z1 := hst1.frozen 0 1 rfl
    have z2 := hst1.frozen 0 2 rfl
    have z3 := hst1.frozen 0 3 rfl
    have hlt := hst1.lt 0 rfl
    have HBF := Lib.hid (fun x y u v => ((((below_next HST0.out.below hb1).setCell (p := ⟨w.heap.size, 0, none⟩) (Nat.le_refl _) x).setCell (p := ⟨w.heap.size, 1, none⟩) (Nat.le_refl _) y).setCell (p := ⟨w.heap.size, 2, none⟩) (Nat.le_refl _) u).setCell (p := ⟨w.heap.size, 3, none⟩) (Nat.le_refl _) v)
    clear hb1 hst1
    go_wp2
    refine bodyPost_ret (v := .tuple #[.agg #[.int .i64 0, .int .i64 0, .int .i64 0, .int .i64 0], .int .i64 C]) (by simp [results, Tryz.results15, go_sem, k0, k1, k2, k3]) rfl (.inl ⟨HNE.out, rfl, HBF.out _ _ _ _⟩)
end Go.Proofs.YtnapdhfkgfjjfaaGreatDoor
