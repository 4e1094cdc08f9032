/- LoadPartsComeTogether: the law's walk. -/
import Derived.Test.YtkoodmoilfgafaaDoorGList
import Derived.Test.YtkoodmoilfgafaaDoorGPlain
import Derived.Test.YtkoodmoilfgafaaDoorGInk
import Derived.Test.YtkoodmoilfgafaaDoorGArr
namespace Go.Proofs.YtkoodmoilfgafaaDoor
open Go Go.RowKit Go.Proofs

theorem infoLs : (Tryd.prog.info? 28).map (fun i => (i.zero, i.size, i.bytes)) = some (some (.slice none 0 0), 1, 24) := by kernel_rfl
theorem okT_mono2 {ts : List Int} (h : OkT ts) : ∀ (i j : Nat) (s t : Int), i ≤ j → ts[i]? = some s → ts[j]? = some t → s ≤ t := by
  intro i j
  induction j with
  | zero => intro s t hij hs ht; obtain rfl : i = 0 := by omega
            rw [hs] at ht; cases ht; omega
  | succ j ih =>
    intro s t hij hs ht
    rcases Nat.eq_or_lt_of_le hij with e | e
    · subst e; rw [hs] at ht; cases ht; omega
    · have hjl := (List.getElem?_eq_some_iff.1 ht).1
      obtain ⟨u, hu⟩ : ∃ u, ts[j]? = some u := ⟨ts[j]'(by omega), List.getElem?_eq_getElem (by omega)⟩
      have h1 := ih s u (by omega) hs hu
      have h2 := h.el (j + 1) hjl
      unfold elT at h2
      rw [Nat.add_sub_cancel, List.getD_eq_getElem?_getD, List.getD_eq_getElem?_getD, ht, hu] at h2
      simp only [Option.getD_some] at h2
      split at h2
      · omega
      · split at h2
        · omega
        · rename_i h3 h4
          have : ¬ t < u := fun h => h4 ⟨by omega, h⟩
          omega
theorem okT_pw {l : List Int} (h : OkT l) : l.Pairwise (· ≤ ·) := by
  rw [List.pairwise_iff_getElem]
  intro i j hi hj hij
  exact okT_mono2 h i j _ _ (Nat.le_of_lt hij) (List.getElem?_eq_getElem hi) (List.getElem?_eq_getElem hj)
theorem okT_of {l : List Int} (h1 : l.length ≤ 20000) (h2 : ∀ t ∈ l, 0 ≤ t ∧ t ≤ 1000000000000) (h3 : l.Pairwise (· ≤ ·)) : OkT l := by
  refine ⟨h1, fun j hj => ?_⟩
  have e : l.getD j 0 = l[j] := by rw [List.getD_eq_getElem?_getD, List.getElem?_eq_getElem hj]; rfl
  have hr := h2 _ (List.getElem_mem hj)
  unfold elT
  rw [e, if_neg (by omega)]
  rw [if_neg]
  rintro ⟨h0, hlt⟩
  have hj' : j - 1 < l.length := by omega
  have e' : l.getD (j - 1) 0 = l[j - 1] := by rw [List.getD_eq_getElem?_getD, List.getElem?_eq_getElem hj']; rfl
  rw [e'] at hlt
  have := pw_get h3 (Nat.sub_le j 1) (List.getElem?_eq_getElem hj') (List.getElem?_eq_getElem hj)
  omega
theorem okT_part {ts : List Int} (h : OkT ts) (k n : Nat) : codeT (partL ts k n) = 0 := by
  refine (okT_of (Nat.le_trans (partL_le ts k n) h.le) (fun t ht => ?_) (partL_pw (okT_pw h) k n)).code
  obtain ⟨j, hj⟩ := List.mem_iff_getElem?.1 (partU_mem ht)
  exact h.range hj
theorem togF_zero : ∀ {z : List (List Int)}, (∀ x ∈ z, codeT x = 0) → togF z = 0
  | [], _ => rfl
  | x :: r, h => by rw [togF, if_neg (by rw [h x (by simp)]; simp)]; exact togF_zero (fun y hy => h y (List.mem_cons_of_mem _ hy))
/-- the parts of a list, together -/
theorem parts_tog {ts : List Int} (h : OkT ts) {N : Nat} (h0 : 1 ≤ N) (h1 : N ≤ 100) : togC ((List.range N).map fun k => partL ts k N) = 0 ∧ togR ((List.range N).map fun k => partL ts k N) = ts := by
  have e1 : togF ((List.range N).map fun k => partL ts k N) = 0 := togF_zero (fun x hx => by
    obtain ⟨k, _, rfl⟩ := List.mem_map.1 hx; exact okT_part h k N)
  have e2 : ((List.range N).map fun k => partL ts k N).flatten = (List.range N).flatMap fun k => partL ts k N := by rw [List.flatMap_def]
  have hp := parts_perm ts (n := N) (by omega)
  have hc : togC ((List.range N).map fun k => partL ts k N) = 0 := by
    unfold togC
    rw [if_neg (by simp; omega), if_neg (by rw [e1]; simp), if_neg]
    rw [e2, hp.length_eq]; have := h.le; omega
  refine ⟨hc, ?_⟩
  unfold togR
  rw [if_pos hc, e2]
  exact parts_srt (okT_pw h) (by omega)

set_option maxHeartbeats 4000000 in
set_option maxRecDepth 100000 in
theorem lawParts_any (A : Option Addr) (c : Nat) (ts : List Int) (n : Int) (w : World) (ht : Tab w.heap.size w) (hr : Rd w 0 w.heap.size 1 A ts.length (ints ts)) (hl : ts.length ≤ 9223372036854775807) :
    Calls Tryd.prog 7 #[.slice A ts.length c, .int .i64 n] w fun e w' => e = .returned (.bool true) ∧ Below w.heap.size w w' := by
  obtain ⟨ii, hii, hiz0, hiz1, hiz2⟩ := info_parts infoLs
  have HEV := Lib.hid (fun W => lawEven_any W)
  have HT := Lib.hid ht
  have HR := Lib.hid hr
  have HP := Lib.hid (fun (k : Nat) W (hb : Below w.heap.size w W) => part_any A c ts k n W (hr.old hb) hl)
  clear ht hr
  by_cases hn1 : n < 1
  · have t1 : decide (n < 1) = true := by simpa using hn1
    have t2 : decide (0 < n) = false := by simp; omega
    go_enter Tryd.func7, Tryd.ntmps7
    go_wp2_with fail
    refine wp_loop_rounds 1 ?_
    rw [rounds_succ]
    go_wp2_with fail
    (with_reducible refine (HEV.out w).mono ?_)
    rintro e w9 ⟨rfl, hb9⟩
    go_wp2
    go_ret
    exact ⟨rfl, hb9⟩
  · obtain ⟨N, rfl⟩ := Int.eq_ofNat_of_zero_le (show 0 ≤ n by omega)
    have hN1 : 1 ≤ N := by omega
    have t2 : decide ((0 : Int) < (N : Int)) = true := by simp; omega
    have t3 : decide (0 < N) = true := by simp; omega
    by_cases hbad : partC ts 0 N = 0
    · have hct : codeT ts = 0 := by
        apply Classical.byContradiction; intro h; unfold partC at hbad; rw [if_pos h] at hbad; exact h hbad
      have hN2 : N ≤ 100 := by
        apply Classical.byContradiction; intro h
        unfold partC at hbad
        rw [if_neg (by rw [hct]; simp), if_neg (by unfold partOk; omega)] at hbad
        omega
      have hok := codeT_ok hct
      have hnl := hok.le
      have HPC := Lib.hid (show ∀ k : Nat, k < N → partC ts k N = 0 ∧ partR ts k N = partL ts k N from fun k hk => by
        have e : partC ts k N = 0 := by unfold partC; rw [if_neg (by rw [hct]; simp), if_pos (by unfold partOk; omega)]
        exact ⟨e, by unfold partR; rw [if_pos e]; simp⟩)
      have HLE := Lib.hid (fun k => Nat.le_trans (partL_le ts k N) hnl)
      have HPT := Lib.hid (parts_tog hok hN1 hN2)
      have HRG := Lib.hid (show ∀ z ∈ ts, I64 z from fun z hz => by
        obtain ⟨j, hj⟩ := List.mem_iff_getElem?.1 hz
        have := hok.range hj; unfold I64; omega)
      have t4 : decide ((N : Int) < 1) = false := by simp; omega
      have t5 : decide (100 < (N : Int)) = false := by simp; omega
      clear hbad hct hok hn1
      go_enter Tryd.func7, Tryd.ntmps7
      go_wp2_with fail
      go_loopw [5, 6, 7, 8] (fun pv kv _ _ wr => ∃ (k : Nat) (l : List Ls), kv = .int .i64 k ∧ k ≤ N ∧ LsOwn 28 wr w.heap.size pv l ∧ Hid (l.length = k) ∧ Hid (lsAbs l = (List.range k).map fun j => partL ts j N) ∧ Below w.heap.size w wr) (fun _ kv _ _ _ => N - (intOf kv).toNat)
      case atStart => exact ⟨0, [], rfl, Nat.zero_le _, LsOwn.nil, Lib.hid rfl, Lib.hid rfl, Below.refl _ _⟩
      case round =>
        obtain ⟨k, l, rfl, hk, hown, HLL, HAB, hbw⟩ := hrel
        have HOW := Lib.hid hown
        have HBW := Lib.hid hbw
        have hsz := hbw.size
        by_cases hlt : k < N
        · have u1 : decide (k < N) = true := by simpa using hlt
          have u2 : decide ((k : Int) < (N : Int)) = true := by simpa using hlt
          have u3 : decide (k < 100) = true := by simp; omega
          have u4 : decide ((k : Int) < 100) = true := by simp; omega
          have HPK := HP.out k wr hbw
          rw [(HPC.out k hlt).1, (HPC.out k hlt).2] at HPK
          have HPH := Lib.hid HPK
          have hle := HLE.out k
          clear HPK hown hbw
          go_wp2_with fail
          (with_reducible refine HPH.out.mono ?_)
          rintro e w2 ⟨A2, c2, rfl, hrd2, hA2, hb2⟩
          have HRD := Lib.hid hrd2
          have HA2 := Lib.hid hA2
          have HB2 := Lib.hid hb2
          have hs2 := hb2.size
          clear hrd2 hA2 hb2
          go_wp2_with (at_builtin; refine wpList_append_own_at _ rfl (.tmp 28) (.tmp 30) 43 rfl w.heap.size 28 ii _ 1 24 Tryd.underlying43 hii hiz0 hiz1 hiz2 rfl (by decide) _ l.length (lsCells l) rfl ((HOW.out.call HB2.out).1.alloc _) ⟨w2.heap.size, 0, none⟩ 1 1 [.slice A2 (partL ts k N).length c2] rfl rfl (cell_one_new w2 _ 28) (by simp [Value.oneCell']) ?c1 ?c2 ?c3 ?_)
          case c1 => have := HLL.out; unfold maxLen; omega
          case c2 => have := HLL.out; omega
          case c3 => simp; omega
          intro v' w6 hown6 hgr6 _ hat6
          have HB6 := Lib.hid (show Below w.heap.size w w6 from ((below_next HBW.out HB2.out).alloc (by omega) _).trans ((Fr.of_grown hgr6).below (B := w.heap.size) (by simp; omega) (fun i hi hm => by have := (ownsRow_block HOW.out.1 hm).1; omega)))
          have HO6 := Lib.hid (show LsOwn 28 w6 w.heap.size v' (l ++ [⟨A2, c2, partL ts k N⟩]) from
            HOW.out.app (x := ⟨A2, c2, partL ts k N⟩) (HB2.out.alloc (by omega) _) ((HRD.out.alloc (Nat.le_refl _) _).more (Nat.le_refl _) (by simp)) HA2.out hsz hown6 hgr6 (by simpa using hat6))
          have HL6 := Lib.hid (show (l ++ [(⟨A2, c2, partL ts k N⟩ : Ls)]).length = k + 1 by rw [List.length_append, HLL.out]; rfl)
          have HA6 := Lib.hid (show lsAbs (l ++ [(⟨A2, c2, partL ts k N⟩ : Ls)]) = (List.range (k + 1)).map fun j => partL ts j N by
            rw [List.range_succ, List.map_append, ← HAB.out]; simp [lsAbs])
          clear hown6 hgr6 hat6
          go_wp2
          go_roundw
          case rel => exact ⟨k + 1, _, by go_num, by omega, HO6.out, HL6, HA6, HB6.out⟩
          case measure => simp [intOf]; omega
        · obtain rfl : k = N := by omega
          have u1 : decide (k < k) = false := by simp
          have u2 : decide ((k : Int) < (k : Int)) = false := by simp
          obtain ⟨A', c', rfl, hls⟩ := hown.rd
          have HTG := together_any A' c' l wr hls (by rw [HLL.out]; omega) (fun h hh => by
            have : h.zs ∈ lsAbs l := List.mem_map.2 ⟨h, hh, rfl⟩
            rw [HAB.out] at this
            obtain ⟨j, _, e⟩ := List.mem_map.1 this
            rw [← e]; have := HLE.out j; omega)
          rw [HAB.out, HPT.out.1, HPT.out.2, HLL.out] at HTG
          have HTO := Lib.hid HTG
          have HTD := Lib.hid (fun W A3 c3 (hb : Below w.heap.size w W) hr3 => told7_any A3 c3 ts 0 W ((HT.out.on hb).mono hb.size) hr3 HRG.out ⟨by omega, by omega⟩ (by omega))
          have HRR := Lib.hid (fun W (hb : Below w.heap.size w W) => HR.out.old hb)
          obtain ⟨sb, hsb⟩ : ∃ sb : ByteArray, sb = ⟨(inkInts ts ++ inkInt 0).toArray⟩ := ⟨_, rfl⟩
          rw [← hsb] at HTD
          have HLB := Lib.hid HLL.out
          have hll : l.length = k := HLL.out
          clear HTG hown hbw hls hsb HLL
          rw [hll]
          clear hll
          go_wp2_with fail
          (with_reducible refine HTO.out.mono ?_)
          rintro e w2 ⟨A3, c3, rfl, hrd3, hb2⟩
          have HB2 := Lib.hid (below_next HBW.out hb2)
          have HT2 := Lib.hid (HTD.out w2 A3 c3 HB2.out hrd3)
          clear hrd3 hb2
          go_wp2_with fail
          (with_reducible refine HT2.out.mono ?_)
          rintro e w3 ⟨rfl, hb3⟩
          have HB3 := Lib.hid (below_next HB2.out hb3)
          have HT3 := Lib.hid (HTD.out w3 A c HB3.out (HRR.out w3 HB3.out))
          clear hb3
          go_wp2_with fail
          (with_reducible refine HT3.out.mono ?_)
          rintro e w4 ⟨rfl, hb4⟩
          have HB4 := Lib.hid (below_next HB3.out hb4)
          clear hb4
          go_wp2_with fail
          (with_reducible refine (HEV.out w4).mono ?_)
          rintro e w5 ⟨rfl, hb5⟩
          have HB5 := Lib.hid (below_next HB4.out hb5)
          clear hb5
          go_wp2
          go_ret
          exact ⟨rfl, HB5.out⟩
    · obtain ⟨cc, hcc⟩ : ∃ cc, cc = partC ts 0 N := ⟨_, rfl⟩
      have HP0 := HP.out 0 w (Below.refl _ _)
      rw [show ((0 : Nat) : Int) = 0 from rfl, ← hcc] at HP0
      have HPH := Lib.hid HP0
      rw [← hcc] at hbad
      have t4 : (cc != 0) = true := by simpa using hbad
      clear HP0 hcc
      go_enter Tryd.func7, Tryd.ntmps7
      go_wp2_with fail
      refine wp_loop_rounds 1 ?_
      rw [rounds_succ]
      go_wp2_with fail
      (with_reducible refine HPH.out.mono ?_)
      rintro e w2 ⟨A2, c2, rfl, _, _, hb2⟩
      have HB2 := Lib.hid hb2
      clear hb2
      go_wp2_with fail
      (with_reducible refine (HEV.out w2).mono ?_)
      rintro e w9 ⟨rfl, hb9⟩
      have HB9 := Lib.hid (below_next HB2.out hb9)
      clear hb9
      go_wp2
      go_ret
      exact ⟨rfl, HB9.out⟩
end Go.Proofs.YtkoodmoilfgafaaDoor
