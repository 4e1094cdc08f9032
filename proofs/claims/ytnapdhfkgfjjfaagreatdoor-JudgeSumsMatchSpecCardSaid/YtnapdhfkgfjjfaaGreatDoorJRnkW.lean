/- Package judge: Ranks, the walk. -/
import Derived.Test.YtnapdhfkgfjjfaaGreatDoorG34
namespace Go.Proofs.YtnapdhfkgfjjfaaGreatDoor
open Go Go.RowKit Go.Proofs

/-- what Ranks tells -/
def rkT (a b : List Int) : List Int := chs (scrs (a ++ b)) a.length
def rkS (a b : List Int) : Int := vSum (a ++ b) a a.length
def rkR (a b : List Int) : Value := .agg #[.int .i64 (rkS a b - (a.length : Int) * (a.length : Int)), .int .i64 (cntLe (rkS a b) (rkT a b) : Nat), .int .i64 (cntGe (rkS a b) (rkT a b) : Nat), .int .i64 ((rkT a b).length : Nat)]
def rkZ : Value := .agg #[.int .i64 0, .int .i64 0, .int .i64 0, .int .i64 0]
def rkP (a b : List Int) (w : World) (e : Ending) (w' : World) : Prop :=
  (smC a b 40 ≠ 0 ∧ e = .returned (.tuple #[rkZ, .int .i64 (smC a b 40)]) ∧ Below w.heap.size w w') ∨ (smC a b 40 = 0 ∧ e = .returned (.tuple #[rkR a b, .int .i64 0]) ∧ Below w.heap.size w w')
theorem smC_ok {a b : List Int} {m : Int} (h : smC a b m = 0) : 0 < a.length ∧ 0 < b.length ∧ (a.length : Int) + (b.length : Int) ≤ m := by
  unfold smC at h
  by_cases h1 : a.length = 0 ∨ b.length = 0
  · rw [if_pos h1] at h; exact absurd h (by decide)
  · rw [if_neg h1] at h
    by_cases h2 : m < (a.length : Int) + (b.length : Int)
    · rw [if_pos h2] at h; exact absurd h (by decide)
    · exact ⟨by omega, by omega, by omega⟩
theorem gZ_bd {f2 f1 : Int → Int} {w : Int} {done : Int → Bool} (h2 : ∀ x, 0 ≤ f2 x ∧ f2 x ≤ 1099511627776) (h1 : ∀ x, 0 ≤ f1 x ∧ f1 x ≤ 1099511627776) (x : Int) : 0 ≤ gZ f2 f1 w done x ∧ gZ f2 f1 w done x ≤ 2199023255552 := by
  have a := h2 x
  have b := h1 (x - w)
  unfold gZ
  split <;> omega
/-- the inner loop's table, when all entries have come -/
theorem inner_done {w : World} {m n' N j i : Nat} {B S : Int} {W : List Int} {done : Int → Bool} (h : MapZ w m n' B (gZ (wTab W j (i + 1)) (wTab W j i) S done)) (hn : n' ≤ N) (hS : W[j]? = some S) (hd : ∀ x, wTab W j i x ≠ 0 → (Lit.int .i64 x).wf = true → done x = true) (hw : ∀ x, wTab W j i x ≠ 0 → (Lit.int .i64 x).wf = true) : MapZ w m N B (wTab W (j + 1) (i + 1)) := by
  have e : gZ (wTab W j (i + 1)) (wTab W j i) S done = wTab W (j + 1) (i + 1) := funext fun x => by
    rw [wTab_step hS]
    exact gZ_all _ _ _ _ _ (fun hh => hd _ hh (hw _ hh))
  rw [← e]
  exact h.mono hn (Int.le_refl _)
theorem wTab_wf {W : List Int} (hW : ∀ x ∈ W, 0 ≤ x ∧ x ≤ 80) (hl : W.length ≤ 40) (j i : Nat) (x : Int) (h : wTab W j i x ≠ 0) : (Lit.int .i64 x).wf = true := by
  have hc : 0 < (chs (W.take j) i).count x := by
    refine Nat.pos_of_ne_zero fun hc => h ?_
    unfold wTab cN
    rw [hc]; rfl
  have hb := chs_bd (B := 80) (W.take j) i (fun y hy => hW y (List.mem_of_mem_take hy)) x (List.count_pos_iff.1 hc)
  have hl2 : (W.take j).length ≤ 40 := by rw [List.length_take]; omega
  exact wfZ (by omega) (by omega)
theorem rk_set {w : World} {o i : Nat} {cs : Array Value} {t : TypeId} (h : w.heap[o]? = some (.cells cs t (0, 0))) (u : Value) : (w.setCell ⟨o, i, none⟩ u).heap[o]? = some (.cells (cs.setIfInBounds i u) t (0, 0)) := by
  simp [World.setCell, Array.getElem?_modify, h]
theorem rk3 {w : World} {o : Nat} {a b c d : Value} {t : TypeId} (h : w.heap[o]? = some (.cells #[a, b, c, d] t (0, 0))) (b' c' d' : Value) : (((w.setCell ⟨o, 3, none⟩ d').setCell ⟨o, 1, none⟩ b').setCell ⟨o, 2, none⟩ c').heap[o]? = some (.cells #[a, b', c', d'] t (0, 0)) :=
  rk_set (rk_set (rk_set h d') b') c'
theorem rk31 {w : World} {o : Nat} {a b c d : Value} {t : TypeId} (h : w.heap[o]? = some (.cells #[a, b, c, d] t (0, 0))) (b' d' : Value) : ((w.setCell ⟨o, 3, none⟩ d').setCell ⟨o, 1, none⟩ b').heap[o]? = some (.cells #[a, b', c, d'] t (0, 0)) :=
  rk_set (rk_set h d') b'
theorem rk32 {w : World} {o : Nat} {a b c d : Value} {t : TypeId} (h : w.heap[o]? = some (.cells #[a, b, c, d] t (0, 0))) (c' d' : Value) : ((w.setCell ⟨o, 3, none⟩ d').setCell ⟨o, 2, none⟩ c').heap[o]? = some (.cells #[a, b, c', d'] t (0, 0)) :=
  rk_set (rk_set h d') c'
set_option maxHeartbeats 8000000 in
set_option maxRecDepth 100000 in
theorem jRanks_any (A B : Option Addr) (c d : Nat) (a b : List Int) (w : World) (hr1 : Rd w 0 w.heap.size 1 A a.length (ints a)) (hr2 : Rd w 0 w.heap.size 1 B b.length (ints b)) (_hc1 : a.length ≤ c) (_hc2 : b.length ≤ d) (hm1 : a.length ≤ 4000000000000000000) (hm2 : b.length ≤ 4000000000000000000) :
    Calls Tryz.prog 9 #[.slice A a.length c, .slice B b.length d] w (rkP a b w) := by
  obtain ⟨i0, hi0, hz0, hz1, hz2⟩ := info_parts infoMp
  unfold rkP
  have HR1 := Lib.hid hr1
  have HR2 := Lib.hid hr2
  have HCK := Lib.hid (fun W (hW : Below w.heap.size w W) => jChkSmp_any A B c d a b 40 W (hr1.old hW) (hr2.old hW) (by omega) (by omega) (by omega) (by omega))
  have hok := smC_ok (a := a) (b := b) (m := 40)
  obtain ⟨C, hC⟩ : ∃ C, C = smC a b 40 := ⟨_, rfl⟩
  rw [← hC] at HCK hok ⊢
  obtain ⟨W0, hW0⟩ : ∃ W0, W0 = w.alloc (.cells #[.int .i64 0, .int .i64 0, .int .i64 0, .int .i64 0] 24) := ⟨_, rfl⟩
  have HST0 := Lib.hid (show St w W0 [(w.heap.size, .cells #[.int .i64 0, .int .i64 0, .int .i64 0, .int .i64 0] 24 (0, 0))] by rw [hW0]; exact (St.start w).alloc _ _ rfl)
  clear hC hr1 hr2
  by_cases hz : C = 0
  · obtain ⟨hN0, hM0, hNM⟩ := hok hz
    have HC0 := Lib.hid hz
    have t1 : (C != 0) = false := by rw [hz]; rfl
    have HJ := Lib.hid (fun W (hW : Below w.heap.size w W) => jJoined_any A B c d a b W (HR1.out.old hW) (HR2.out.old hW) (by omega) (by omega))
    obtain ⟨all, hall⟩ : ∃ l, l = a ++ b := ⟨_, rfl⟩
    have hal : all.length = a.length + b.length := by rw [hall]; simp
    obtain ⟨Wt, hWt⟩ : ∃ l, l = scrs all := ⟨_, rfl⟩
    have hWl : Wt.length = all.length := by rw [hWt, scrs_len]
    have HWB := Lib.hid (show ∀ x ∈ Wt, 0 ≤ x ∧ x ≤ 80 from fun x hx => by
      rw [hWt] at hx
      unfold scrs at hx
      obtain ⟨y, _, rfl⟩ := List.mem_map.1 hx
      have := scr_bound all y
      omega)
    have HWF := Lib.hid (fun j i x => wTab_wf HWB.out (by omega : Wt.length ≤ 40) j i x)
    have HTB := Lib.hid (fun j i x => wTab_bd Wt j i x (by omega))
    have HWA := Lib.hid (show ∀ j x, all[j]? = some x → Wt[j]? = some (scr all x) from fun j x h => by rw [hWt]; exact scrs_at h)
    have HSC := Lib.hid (fun W g x (h : IBlk W g all) => jScore_any (some ⟨g, 0, none⟩) (a.length + b.length) all x W h.rd (by omega))
    rw [hal] at HSC
    have HRT := Lib.hid (show rkT a b = chs Wt a.length from by unfold rkT; rw [hWt, hall])
    have HRS := Lib.hid (show rkS a b = vSum all a a.length from by unfold rkS; rw [hall])
    have HALL := Lib.hid hall
    rw [← hall] at HJ
    have hN : a.length ≤ 39 := by omega
    have hM : a.length + b.length ≤ 40 := by omega
    have HAL := Lib.hid hal
    have HWL := Lib.hid (hWl.trans hal)
    clear hz hok hall hWt hal hWl hNM hM0
    go_enter Tryz.func9, Tryz.ntmps9
    go_wp2_with fail
    rw [← hW0]
    clear hW0
    (with_reducible refine (HCK.out W0 HST0.out.below).mono ?_)
    rintro e w1 ⟨rfl, hb1⟩
    have HB1 := Lib.hid (below_next HST0.out.below hb1)
    have HB10 := Lib.hid hb1
    clear hb1
    go_wp2_with fail
    (with_reducible refine (HJ.out w1 HB1.out).mono ?_)
    rintro e w2 ⟨g0, rfl, hg0, hb2⟩
    have HG0 := Lib.hid hg0
    have HB2 := Lib.hid (below_next HB1.out hb2)
    have HBZ0 := Lib.hid (below_next HB10.out hb2)
    clear hg0 hb2
    go_wp2_with (at_make; refine wpList_make_full _ rfl (.tmp 34) (.tmp 34) 54 rfl w2.heap.size 55 i0 _ 1 Tryz.underlying54 hi0 hz0 hz1 .i64 .i64 _ _ (a.length + 1) rfl rfl ?m1 ?m2 ?m3 ?m4 ?m5 ?_)
    case m1 => omega
    case m2 => omega
    case m3 => rw [hz2]; omega
    case m4 => unfold maxLen; omega
    case m5 => exact Nat.le_refl _
    intro w3 hown hgr
    rw [made_m] at hown
    obtain ⟨hblk, _⟩ := VBlk.of_own hown
    have hb3 : Below w2.heap.size w2 w3 := (Below.refl _ w2).grown hgr (Nat.le_refl _) (fun k hk => by cases hk)
    have HMD := Lib.hid (Made.nil hblk)
    have HB3 := Lib.hid hb3
    have hmm := @run_makeMap Tryz.prog
    have hlen : (((a.length + 1 : Nat)) : Int) = (a.length : Int) + 1 := by omega
    clear hown hgr hblk hb3
    go_wp2
    go_loopw [38] (fun kv wr => ∃ ms : List Nat, kv = .int .i64 (ms.length : Nat) ∧ ms.length ≤ a.length + 1 ∧ Made wr w2.heap.size a.length ms ∧ Below w2.heap.size w2 wr) (fun kv _ => a.length + 1 - (intOf kv).toNat)
    case atStart => exact ⟨[], rfl, by simp, HMD.out, HB3.out⟩
    case round =>
      obtain ⟨ms, rfl, hml, hmd, hbw⟩ := hrel
      have HBW := Lib.hid hbw
      by_cases hlt : ms.length < a.length + 1
      · have HN := Lib.hid (hmd.next hlt)
        have hbx : Below wr.heap.size wr (wr.alloc (.map #[] 0)) := (Below.refl _ wr).alloc (Nat.le_refl _) _
        have hv := hmd.1.on hbx
        have c0 : (wr.alloc (.map #[] 0)).cell? ⟨w2.heap.size, ms.length, none⟩ = some (.map none) := hv.cell (made_at hlt)
        have z0 := hv.frozen ms.length
        have hlg := heap_lt hv
        have HBN := Lib.hid (show Below w2.heap.size w2 ((wr.alloc (.map #[] 0)).setCell ⟨w2.heap.size, ms.length, none⟩ (.map (some wr.heap.size))) from (below_next hbw hbx).setCell (p := ⟨w2.heap.size, ms.length, none⟩) (Nat.le_refl _) _)
        clear hmd hbw hbx hv
        go_wp2
        go_roundw
        case rel => exact ⟨ms ++ [wr.heap.size], by rw [List.length_append, List.length_singleton]; go_num, by rw [List.length_append, List.length_singleton]; omega, HN.out, HBN.out⟩
        case measure => simp [intOf]; omega
      · have hml2 : ms.length = a.length + 1 := by omega
        obtain ⟨m0, hm0⟩ : ∃ m, ms[0]? = some m := ⟨_, List.getElem?_eq_getElem (by omega)⟩
        have hz0m := (hmd.2.2 m0 (List.mem_of_getElem? hm0)).2
        have HMS := Lib.hid hml2
        obtain ⟨hput, hpm, hpg⟩ := putZ_run hz0m (by omega) 0 1 (by omega) (by omega) (by omega) (by omega) (by omega)
        have hv0 : wr.cell? ⟨w2.heap.size, 0, none⟩ = some (.map (some m0)) := hmd.1.cell (made_old hm0)
        have hfp : Fr (fun b => b = m0) wr (putZ m0 0 1 wr) := (Fr.of_grown hpg).mono fun i _ h => by simpa using h
        have hmlt : w2.heap.size < m0 := (hmd.2.2 m0 (List.mem_of_getElem? hm0)).1
        have HTAB := Lib.hid (hmd.tabs (W := Wt) hml2 hm0 hfp hpm)
        have HBP := Lib.hid (show Below w2.heap.size w2 (putZ m0 0 1 wr) from hbw.trans (hfp.below hbw.size fun i hi hh => by omega))
        obtain ⟨Wp, hWp⟩ : ∃ W, W = putZ m0 0 1 wr := ⟨_, rfl⟩
        rw [← hWp] at HTAB HBP
        clear hmd hbw hz0m hpm hpg hfp hmm HBW hml2
        go_wp2
        rw [← hWp]
        clear hWp hput hv0 hm0 hmlt hml hlt
        go_loopw [51] (fun kv wr => ∃ j : Nat, kv = .int .i64 (j : Nat) ∧ j ≤ a.length + b.length ∧ Tabs wr w2.heap.size ms Wt j a.length ∧ Below w2.heap.size w2 wr) (fun kv _ => a.length + b.length - (intOf kv).toNat)
        case atStart => exact ⟨0, rfl, by omega, HTAB.out, HBP.out⟩
        case round =>
          obtain ⟨j, rfl, hj, htab, hbw⟩ := hrel
          by_cases hlt : j < a.length + b.length
          · obtain ⟨x, hx⟩ : ∃ x, all[j]? = some x := ⟨_, List.getElem?_eq_getElem (by rw [HAL.out]; exact hlt)⟩
            have hg0 : IBlk wr g0 all := (hbw.block g0 (heap_lt HG0.out)).trans HG0.out
            have c0 : wr.cell? ⟨g0, j, none⟩ = some (.int .i64 x) := hg0.cell hx
            have HSJ := Lib.hid (HSC.out wr g0 x hg0)
            have hsb := scr_bound all x
            rw [HAL.out] at hsb
            have hws := HWA.out j x hx
            obtain ⟨S, hS⟩ : ∃ S, S = scr all x := ⟨_, rfl⟩
            rw [← hS] at HSJ hsb hws
            have HWS := Lib.hid hws
            have hs0 : 0 ≤ S := hsb.1
            have hs1 : S ≤ 80 := by omega
            have HTB0 := Lib.hid htab
            have HBW := Lib.hid hbw
            clear hg0 hsb hws hS hx htab hbw HTAB HBP
            go_wp2_with fail
            (with_reducible refine (HSJ.out).mono ?_)
            rintro e w5 ⟨rfl, hb5⟩
            have HTB5 := Lib.hid (HTB0.out.on hb5)
            have HB5 := Lib.hid (below_next HBW.out hb5)
            clear hb5 c0 HSJ
            go_wp2
            go_loopw [13] (fun iv wr => ∃ i : Nat, iv = .int .i64 (i : Nat) ∧ i ≤ a.length ∧ Tabs wr w2.heap.size ms Wt j i ∧ Below w2.heap.size w2 wr) (fun iv _ => (intOf iv).toNat)
            case atStart => exact ⟨a.length, rfl, by omega, HTB5.out, HB5.out⟩
            case round =>
              obtain ⟨i, rfl, hi, htab, hbw⟩ := hrel
              obtain ⟨W1, rfl⟩ : ∃ W1 : World, W1 = wr := ⟨_, rfl⟩
              by_cases hip : 0 < i
              · obtain ⟨i', hi'⟩ : ∃ i', i = i' + 1 := ⟨i - 1, by omega⟩
                have HI := Lib.hid hi'
                have htab : Tabs W1 w2.heap.size ms Wt j (i' + 1) := hi' ▸ htab
                obtain ⟨m1, hm1'⟩ : ∃ m, ms[i']? = some m := ⟨_, List.getElem?_eq_getElem (by rw [HMS.out]; omega)⟩
                obtain ⟨m2, hm2'⟩ : ∃ m, ms[i' + 1]? = some m := ⟨_, List.getElem?_eq_getElem (by rw [HMS.out]; omega)⟩
                have hz1' := (htab.2.2.2 i' m1 hm1').2 (by omega)
                have hz2' := (htab.2.2.2 (i' + 1) m2 hm2').2 (Nat.le_refl _)
                have hne : m1 ≠ m2 := fun e => by have := nodup_at htab.2.1 hm1' (e ▸ hm2'); omega
                have hl1 := hz1'.lt
                have hl2 := hz2'.lt
                have hg1 := hz2'.ne htab.1
                have hgl := heap_lt htab.1
                have hm2g := htab.2.2.1 m2 (List.mem_of_getElem? hm2')
                have c1 : W1.cell? ⟨w2.heap.size, i', none⟩ = some (.map (some m1)) := htab.1.cell (msV_get hm1')
                have HVB := Lib.hid htab.1
                have HTB1 := Lib.hid htab
                have HBW1 := Lib.hid hbw
                have HM2 := Lib.hid hm2'
                have hkk : (i : Int) - 1 = (i' : Int) := by omega
                have hia : i' < a.length := by omega
                have hp1 : 2 ^ (j + 1) = 2 ^ j + 2 ^ j := by rw [Nat.pow_succ]; omega
                have hp2 : 2 ^ (j + 1) ≤ 1099511627776 := two_pow (by omega)
                obtain ⟨P, hP⟩ : ∃ P, P = 2 ^ j := ⟨_, rfl⟩
                obtain ⟨Q2, hQ2⟩ : ∃ P, P = 2 ^ (j + 1) := ⟨_, rfl⟩
                rw [← hP, ← hQ2] at hp1
                rw [← hQ2] at hp2
                rw [← hP] at hz1' hz2'
                have HQ2 := Lib.hid hQ2
                clear htab hbw hm1' hm2' hP hQ2 hi'
                go_wp2_with (at_range; refine wpList_range_z rfl _ rfl m1 P (80 * (j : Int)) (wTab Wt j i') rfl hz1' ?_; intro w6 cnt0 hrg0 hcn0 hb6)
                go_frame
                have HZ2 := Lib.hid (hz2'.on hb6)
                have HF6 := Lib.hid (show Fr (fun b => b = m2 ∨ W1.heap.size ≤ b) W1 w6 from (Fr.of_below hb6).mono fun i _ h => .inr h)
                have HRG0 := Lib.hid hrg0
                clear hz1' hz2' hb6 hrg0 c1
                go_loopw [14] (fun _ wr => ∃ done cnt n', RgZ wr m1 W1.heap.size P (80 * (j : Int)) (wTab Wt j i') done cnt ∧ n' + cnt ≤ Q2 ∧ MapZ wr m2 n' (80 * ((j : Int) + 1)) (gZ (wTab Wt j (i' + 1)) (wTab Wt j i') S done) ∧ Fr (fun b => b = m2 ∨ W1.heap.size ≤ b) W1 wr) (fun _ wr => wr.rangeLeft m1 W1.heap.size)
                case atStart => exact ⟨fun _ => false, cnt0, P, HRG0.out, by omega, by rw [gZ_start]; exact HZ2.out.mono (Nat.le_refl _) (by omega), HF6.out⟩
                case round =>
                  obtain ⟨done, cnt, n', hrg, hcnt, hmz, hfr⟩ := hrel
                  have HMZ := Lib.hid hmz
                  have HFR := Lib.hid hfr
                  clear hmz hfr HZ2 HF6 HRG0
                  go_wp2_with (at_next; refine wpList_next_z rfl _ rfl m1 W1.heap.size P (80 * (j : Int)) (wTab Wt j i') done cnt rfl hrg ?_ ?_)
                  · intro hall
                    have hnew := inner_done HMZ.out (show n' ≤ 2 ^ (j + 1) by rw [← HQ2.out]; omega) HWS.out hall (fun x => HWF.out j i' x)
                    have HT := Lib.hid (HTB1.out.next HM2.out HFR.out (Nat.le_refl _) hnew)
                    have HBN := Lib.hid (HBW1.out.trans (HFR.out.below HBW1.out.size fun i hi hh => by omega))
                    clear hall hnew hrg
                    go_wp2
                    go_roundw
                    case rel => exact ⟨i', by go_num, by omega, HT.out, HBN.out⟩
                    case measure =>
                      have := HI.out
                      simp [intOf]; omega
                  · intro y w7 cnt1 hdy b0 b1 c0 c1 hrg7 hlt7 hf7 hs7 hen
                    have hmz7 := HMZ.out.fr hf7 (by omega)
                    have hFb := HTB.out j i' y
                    have hGb := gZ_bd (w := S) (done := done) (HTB.out j (i' + 1)) (HTB.out j i') (y + S)
                    have hstep := gZ_step (wTab Wt j (i' + 1)) (wTab Wt j i') S y done hdy
                    obtain ⟨F, hF⟩ : ∃ F, F = wTab Wt j i' y := ⟨_, rfl⟩
                    obtain ⟨G, hG⟩ : ∃ G, G = gZ (wTab Wt j (i' + 1)) (wTab Wt j i') S done (y + S) := ⟨_, rfl⟩
                    rw [← hF] at hen hFb hstep
                    rw [← hG] at hGb hstep
                    rw [← hF]
                    have hlook := lookZ_run hmz7 (y + S) (by omega) (by omega)
                    rw [← hG] at hlook
                    obtain ⟨hput, hpm, hpg⟩ := putZ_run hmz7 (by omega) (y + S) (G + F) (by omega) (by omega) (by omega) (by omega) (by omega)
                    have hvb7 : VBlk w7 w2.heap.size 55 (msV ms) := ((hf7.block _ (by have := HFR.out.size; omega) (by omega)).trans (HFR.out.block _ hgl (by omega))).trans HVB.out
                    have c2 : w7.cell? ⟨w2.heap.size, i, none⟩ = some (.map (some m2)) := hvb7.cell (msV_get (by rw [HI.out]; exact HM2.out))
                    have hfp : Fr (fun b => b = m2) w7 (putZ m2 (y + S) (G + F) w7) := (Fr.of_grown hpg).mono fun i _ h => by simpa using h
                    have hrg8 := hrg7.fr hfp (by omega) (by omega)
                    have HRG8 := Lib.hid hrg8
                    have HPM := Lib.hid (show MapZ (putZ m2 (y + S) (G + F) w7) m2 (n' + 1) (80 * ((j : Int) + 1)) (gZ (wTab Wt j (i' + 1)) (wTab Wt j i') S (fun z => done z || z == y)) from by rw [← hstep]; exact hpm)
                    have HFR8 := Lib.hid (show Fr (fun b => b = m2 ∨ W1.heap.size ≤ b) W1 (putZ m2 (y + S) (G + F) w7) from (HFR.out.trans (hf7.mono (may' := fun b => b = m2 ∨ W1.heap.size ≤ b) fun i _ h => by omega) (fun i _ h => h)).trans (hfp.mono (may' := fun b => b = m2 ∨ W1.heap.size ≤ b) fun i _ h => .inl h) (fun i _ h => h))
                    have hle := hrg.left
                    have hle8 := hrg8.left
                    have HLE := Lib.hid (And.intro hle hle8)
                    clear hstep hF hG hpm hpg hfp hrg8 hmz7 hvb7 hle hle8 hf7 hrg7 hdy hrg
                    go_wp2
                    go_roundw
                    case rel => exact ⟨_, cnt1, n' + 1, HRG8.out, by omega, HPM.out, HFR8.out⟩
                    case measure => rw [HLE.out.1, HLE.out.2]; exact hlt7
              · obtain rfl : i = 0 := by omega
                have HTN := Lib.hid (htab.turn (N := a.length) HWS.out (by rw [HMS.out]; omega))
                have HBN := Lib.hid hbw
                clear htab hbw
                go_wp2
                go_roundw
                case rel => exact ⟨j + 1, by go_num, by omega, HTN.out, HBN.out⟩
                case measure => simp [intOf]; omega
          · have hje : j = a.length + b.length := by omega
            have HJE := Lib.hid hje
            have HTF := Lib.hid htab
            have HBW := Lib.hid hbw
            clear htab hbw HTAB HBP hj hje
            obtain ⟨W1, rfl⟩ : ∃ W1 : World, W1 = wr := ⟨_, rfl⟩
            go_wp2
            clear hlt
            go_loopw [16, 88] (fun vv kv wr => ∃ k : Nat, kv = .int .i64 (k : Nat) ∧ k ≤ a.length ∧ vv = .int .i64 (vSum all a k) ∧ Below W1.heap.size W1 wr) (fun _ kv _ => a.length - (intOf kv).toNat)
            case atStart => exact ⟨0, rfl, by omega, by first | rfl | simp [vSum], Below.refl _ _⟩
            case round =>
              obtain ⟨k, rfl, hk, rfl, hbw⟩ := hrel
              have hvb := vSum_bd all a k (by rw [HAL.out]; omega)
              have HBV := Lib.hid hbw
              obtain ⟨V, hV⟩ : ∃ V, V = vSum all a k := ⟨_, rfl⟩
              rw [← hV] at hvb ⊢
              have HV := Lib.hid hV
              have hv0 := hvb.1
              have hv1 : V ≤ 3200 := by omega
              by_cases hlt : k < a.length
              · obtain ⟨bb, oo, u, rfl, _, hu, hc⟩ := (((HR1.out.old HB2.out).old HBW.out).old hbw).at1 hlt
                obtain ⟨x, hx, rfl⟩ := ints_get hu
                have hg0 : IBlk wr g0 all := ((below_next HBW.out hbw).block g0 (heap_lt HG0.out)).trans HG0.out
                have HSJ := Lib.hid (HSC.out wr g0 x hg0)
                have hsb := scr_bound all x
                rw [HAL.out] at hsb
                have hst := vSum_step (all := all) hx
                obtain ⟨S, hS⟩ : ∃ S, S = scr all x := ⟨_, rfl⟩
                rw [← hS] at HSJ hsb hst
                have hs0 : 0 ≤ S := hsb.1
                have hs1 : S ≤ 80 := by omega
                have HST := Lib.hid (show vSum all a (k + 1) = V + S by rw [hst, HV.out])
                clear hu hx hg0 hsb hS hst hvb hV hbw
                go_wp2_with fail
                (with_reducible refine (HSJ.out).mono ?_)
                rintro e w5 ⟨rfl, hb5⟩
                have HB5 := Lib.hid (below_next HBV.out hb5)
                clear hb5 hc HSJ
                go_wp2
                go_roundw
                case rel => exact ⟨k + 1, by go_num, by omega, by rw [HST.out], HB5.out⟩
                case measure => simp [intOf]; omega
              · obtain rfl : k = a.length := by omega
                have htf := HTF.out.on hbw
                obtain ⟨mN, hmN⟩ : ∃ m, ms[a.length]? = some m := ⟨_, List.getElem?_eq_getElem (by rw [HMS.out]; omega)⟩
                have hzN := (htf.2.2.2 a.length mN hmN).2 (Nat.le_refl _)
                have hfT : wTab Wt j a.length = cN (rkT a b) := funext fun x => by
                  unfold wTab
                  rw [List.take_of_length_le (by rw [HWL.out, HJE.out]; omega), HRT.out]
                rw [hfT] at hzN
                have HTW := Lib.hid (show ∀ x, cN (rkT a b) x ≠ 0 → (Lit.int .i64 x).wf = true from fun x h => HWF.out j a.length x (by rw [hfT]; exact h))
                have HTL := Lib.hid (show (rkT a b).length ≤ 1099511627776 from by
                  have h1 := chs_length_le Wt a.length
                  have h2 := two_pow (j := Wt.length) (by rw [HWL.out]; omega)
                  rw [HRT.out]; omega)
                have HVS := Lib.hid (show rkS a b = V from by rw [HRS.out, HV.out])
                have cN' : wr.cell? ⟨w2.heap.size, a.length, none⟩ = some (.map (some mN)) := htf.1.cell (msV_get hmN)
                have hnn : (a.length : Int) * (a.length : Int) ≤ 1600 := by
                  have h1 : (a.length : Int) ≤ 40 := by omega
                  have := Int.mul_le_mul h1 h1 (by omega) (by omega)
                  omega
                have hnn0 : 0 ≤ (a.length : Int) * (a.length : Int) := Int.mul_nonneg (by omega) (by omega)
                obtain ⟨T, hT⟩ : ∃ T, T = rkT a b := ⟨_, rfl⟩
                rw [← hT] at hzN HTW HTL
                have HTT := Lib.hid hT
                obtain ⟨q, hq⟩ : ∃ q, q = (a.length : Int) * (a.length : Int) := ⟨_, rfl⟩
                rw [← hq] at hnn hnn0
                have HQQ := Lib.hid hq
                have hq' := hq.symm
                obtain ⟨P, hP⟩ : ∃ P, P = 2 ^ j := ⟨_, rfl⟩
                have hp2 : P ≤ 1099511627776 := by rw [hP]; exact two_pow (by have := HJE.out; omega)
                rw [← hP] at hzN
                obtain ⟨Bd, hBd⟩ : ∃ B : Int, B = 80 * (j : Int) := ⟨_, rfl⟩
                rw [← hBd] at hzN
                have hmlt := hzN.lt
                have HMO := Lib.hid (show mN ≠ wr.heap.size by omega)
                obtain ⟨W2, hW2⟩ : ∃ W2, W2 = wr.alloc (.cells #[.int .i64 (V - q), .int .i64 0, .int .i64 0, .int .i64 0] 24) := ⟨_, rfl⟩
                have hbx : Below wr.heap.size wr W2 := by rw [hW2]; exact (Below.refl _ wr).alloc (Nat.le_refl _) _
                have HOB := Lib.hid (show W2.heap[wr.heap.size]? = some (.cells #[.int .i64 (V - q), .int .i64 0, .int .i64 0, .int .i64 0] 24 (0, 0)) by rw [hW2]; exact alloc_at _ _ _ rfl)
                have hz2 := hzN.on hbx
                have cN2 : W2.cell? ⟨w2.heap.size, a.length, none⟩ = some (.map (some mN)) := (htf.1.on hbx).cell (msV_get hmN)
                have HBZ := Lib.hid (show Below W0.heap.size W0 wr from below_next HBZ0.out (below_next HBW.out hbw))
                rw [hW2] at cN2
                rw [hW2] at hz2
                clear hT hq hP hBd htf hmN hzN hfT hvb hV hbw hbx cN'
                go_wp2_with (at_range; refine wpList_range_z rfl _ rfl mN P Bd (cN T) rfl hz2 ?_; intro w6 cnt0 hrg0 hcn0 hb6)
                go_frame
                rw [← hW2] at hrg0 hb6 ⊢
                have HR2S := Lib.hid (show W2.heap.size = wr.heap.size + 1 by rw [hW2]; simp)
                have HRG0 := Lib.hid hrg0
                have HBX2 := Lib.hid (show Below wr.heap.size wr W2 from by rw [hW2]; exact (Below.refl _ wr).alloc (Nat.le_refl _) _)
                have HO6 := Lib.hid ((hb6.block _ (heap_lt HOB.out)).trans HOB.out)
                have HB6 := Lib.hid (show Below wr.heap.size wr w6 from below_next HBX2.out hb6)
                clear hrg0 hb6 hcn0 hz2 cN2 hW2
                obtain ⟨W3, rfl⟩ : ∃ W3 : World, W3 = wr := ⟨_, rfl⟩
                go_loopw [20] (fun _ wr => ∃ E done cnt, RgZ wr mN W2.heap.size P Bd (cN T) done cnt ∧ (E.map (·.1)).Nodup ∧ (∀ e ∈ E, e.2 = cN T e.1) ∧ (∀ x, done x = true ↔ x ∈ E.map (·.1)) ∧ wr.heap[W3.heap.size]? = some (.cells #[.int .i64 (V - q), .int .i64 (sumE (fun s => decide (s ≤ V)) E), .int .i64 (sumE (fun s => decide (V ≤ s)) E), .int .i64 (sumE (fun _ => true) E)] 24 (0, 0)) ∧ Below W3.heap.size W3 wr) (fun _ wr => wr.rangeLeft mN W2.heap.size)
                case atStart => exact ⟨[], (fun _ => false), cnt0, HRG0.out, List.Pairwise.nil, (fun e he => by cases he), (fun x => by simp), HO6.out, HB6.out⟩
                case round =>
                  obtain ⟨E, done, cnt, hrg, hnd, hval, hdn, hob, hbw⟩ := hrel
                  have HND := Lib.hid hnd
                  have HVAL := Lib.hid hval
                  have HDN := Lib.hid hdn
                  have HOX := Lib.hid hob
                  have HBX := Lib.hid hbw
                  have s1 := sumE_le (fun s => decide (s ≤ V)) hnd hval
                  have s2 := sumE_le (fun s => decide (V ≤ s)) hnd hval
                  have s3 := sumE_le (fun _ => true) hnd hval
                  have htl := HTL.out
                  obtain ⟨L1, hL1⟩ : ∃ z, z = sumE (fun s => decide (s ≤ V)) E := ⟨_, rfl⟩
                  obtain ⟨L2, hL2⟩ : ∃ z, z = sumE (fun s => decide (V ≤ s)) E := ⟨_, rfl⟩
                  obtain ⟨L3, hL3⟩ : ∃ z, z = sumE (fun _ => true) E := ⟨_, rfl⟩
                  rw [← hL1] at s1
                  rw [← hL2] at s2
                  rw [← hL3] at s3
                  rw [← hL1, ← hL2, ← hL3] at HOX
                  have HLL := Lib.hid (And.intro hL1 (And.intro hL2 hL3))
                  obtain ⟨s10, s11⟩ := s1
                  obtain ⟨s20, s21⟩ := s2
                  obtain ⟨s30, s31⟩ := s3
                  have s12 : L1 ≤ 1099511627776 := by omega
                  have s22 : L2 ≤ 1099511627776 := by omega
                  have s32 : L3 ≤ 1099511627776 := by omega
                  clear hnd hval hdn hob hbw hL1 hL2 hL3 HRG0 HO6 HB6 htl s11 s21 s31
                  go_wp2_with (at_next; refine wpList_next_z rfl _ rfl mN W2.heap.size P Bd (cN T) done cnt rfl hrg ?_ ?_)
                  · intro hall
                    have hkeys : ∀ s ∈ T, s ∈ E.map (·.1) := fun s hs => (HDN.out s).1 (hall s (by
                      have := List.count_pos_iff.2 hs
                      unfold cN; omega) (HTW.out s (by
                      have := List.count_pos_iff.2 hs
                      unfold cN; omega)))
                    have HR1' := Lib.hid (show L1 = (cntLe V T : Nat) from by rw [HLL.out.1]; exact sumE_all _ HND.out HVAL.out hkeys)
                    have HR2' := Lib.hid (show L2 = (cntGe V T : Nat) from by rw [HLL.out.2.1]; exact sumE_all _ HND.out HVAL.out hkeys)
                    have HR3' := Lib.hid (show L3 = (T.length : Nat) from by
                      rw [HLL.out.2.2, sumE_all _ HND.out HVAL.out hkeys]; simp)
                    have k0 : wr.cell? ⟨W3.heap.size, 0, none⟩ = some (.int .i64 (V - q)) := by rw [cellsAt HOX.out]; rfl
                    have k1 : wr.cell? ⟨W3.heap.size, 1, none⟩ = some (.int .i64 L1) := by rw [cellsAt HOX.out]; rfl
                    have k2 : wr.cell? ⟨W3.heap.size, 2, none⟩ = some (.int .i64 L2) := by rw [cellsAt HOX.out]; rfl
                    have k3 : wr.cell? ⟨W3.heap.size, 3, none⟩ = some (.int .i64 L3) := by rw [cellsAt HOX.out]; rfl
                    have hst := HST0.out.call (below_next (below_next (Below.refl _ W0) HBZ.out) HBX.out)
                    have b0 : wr.cell? ⟨w.heap.size, 0, none⟩ = some (.int .i64 0) := hst.cell 0 0 rfl rfl
                    have b1 : wr.cell? ⟨w.heap.size, 1, none⟩ = some (.int .i64 0) := hst.cell 0 1 rfl rfl
                    have b2 : wr.cell? ⟨w.heap.size, 2, none⟩ = some (.int .i64 0) := hst.cell 0 2 rfl rfl
                    have b3 : wr.cell? ⟨w.heap.size, 3, none⟩ = some (.int .i64 0) := hst.cell 0 3 rfl rfl
                    have z0 := hst.frozen 0 0 rfl
                    have z1 := hst.frozen 0 1 rfl
                    have z2 := hst.frozen 0 2 rfl
                    have z3 := hst.frozen 0 3 rfl
                    have hlt := hst.lt 0 rfl
                    have HBF := Lib.hid (fun x y u v => ((((below_next (below_next HST0.out.below HBZ.out) HBX.out).setCell (p := ⟨w.heap.size, 0, none⟩) (Nat.le_refl _) x).setCell (p := ⟨w.heap.size, 1, none⟩) (Nat.le_refl _) y).setCell (p := ⟨w.heap.size, 2, none⟩) (Nat.le_refl _) u).setCell (p := ⟨w.heap.size, 3, none⟩) (Nat.le_refl _) v)
                    clear hall hkeys hst hrg
                    go_wp2
                    refine bodyPost_ret (v := .tuple #[.agg #[.int .i64 (V - q), .int .i64 L1, .int .i64 L2, .int .i64 L3], .int .i64 0]) (by simp [results, Tryz.results9, go_sem, b0, b1, b2, b3]) rfl (.inr ⟨HC0.out, by unfold rkR; rw [HVS.out, ← HTT.out, ← HQQ.out, HR1'.out, HR2'.out, HR3'.out], HBF.out _ _ _ _⟩)
                  · intro y w7 cnt1 hdy y0 y1 y2 y3 hrg7 hlt7 hf7 hs7 hen
                    have hob7 : w7.heap[W3.heap.size]? = some (.cells #[.int .i64 (V - q), .int .i64 L1, .int .i64 L2, .int .i64 L3] 24 (0, 0)) := (hf7.block _ (heap_lt HOX.out) (by have := HR2S.out; omega)).trans HOX.out
                    have k1 : w7.cell? ⟨W3.heap.size, 1, none⟩ = some (.int .i64 L1) := by rw [cellsAt hob7]; rfl
                    have k2 : w7.cell? ⟨W3.heap.size, 2, none⟩ = some (.int .i64 L2) := by rw [cellsAt hob7]; rfl
                    have k3 : w7.cell? ⟨W3.heap.size, 3, none⟩ = some (.int .i64 L3) := by rw [cellsAt hob7]; rfl
                    have z1 := frozenAt hob7 1
                    have z2 := frozenAt hob7 2
                    have z3 := frozenAt hob7 3
                    have hlo := heap_lt hob7
                    have hFb : 0 ≤ cN T y ∧ cN T y ≤ 1099511627776 := by
                      have h1 : T.count y ≤ T.length := List.count_le_length
                      have h2 := HTL.out
                      unfold cN; omega
                    have hnd2 : ((E ++ [(y, cN T y)]).map (·.1)).Nodup := by
                      rw [List.map_append]
                      refine List.nodup_append.2 ⟨HND.out, by simp, fun a ha b hb => ?_⟩
                      simp at hb
                      rintro rfl
                      subst hb
                      have := (HDN.out a).2 ha
                      rw [hdy] at this; cases this
                    have hval2 : ∀ e ∈ E ++ [(y, cN T y)], e.2 = cN T e.1 := fun e he => by
                      rw [List.mem_append, List.mem_singleton] at he
                      rcases he with he | rfl
                      · exact HVAL.out e he
                      · rfl
                    have hdn2 : ∀ x, (done x || x == y) = true ↔ x ∈ (E ++ [(y, cN T y)]).map (·.1) := fun x => by
                      rw [List.map_append, List.mem_append, Bool.or_eq_true, HDN.out x]
                      simp
                    have HS := Lib.hid (fun P => sumE_snoc P E (y, cN T y))
                    obtain ⟨F, hF⟩ : ∃ F, F = cN T y := ⟨_, rfl⟩
                    rw [← hF] at hen hFb
                    have HFF := Lib.hid hF
                    have HN2 := Lib.hid (And.intro hnd2 (And.intro hval2 hdn2))
                    have HRG7 := Lib.hid hrg7
                    have HLE := Lib.hid (And.intro hrg.left hrg7.left)
                    have HB7 := Lib.hid (show Below W3.heap.size W3 w7 from HBX.out.trans (hf7.below HBX.out.size fun i hi h => by have := HR2S.out; omega))
                    have hFb0 := hFb.1
                    have hFb1 := hFb.2
                    clear hnd2 hval2 hdn2 hF hFb hdy hf7 hrg hrg7
                    by_cases h1 : y ≤ V
                    · have t1 : decide (y ≤ V) = true := decide_eq_true h1
                      by_cases h2 : V ≤ y
                      · have t2 : decide (V ≤ y) = true := decide_eq_true h2
                        obtain ⟨W8, hW8⟩ : ∃ W, W = ((w7.setCell ⟨W3.heap.size, 3, none⟩ (.int .i64 (L3 + F))).setCell ⟨W3.heap.size, 1, none⟩ (.int .i64 (L1 + F))).setCell ⟨W3.heap.size, 2, none⟩ (.int .i64 (L2 + F)) := ⟨_, rfl⟩
                        have e1 : sumE (fun s => decide (s ≤ V)) (E ++ [(y, cN T y)]) = L1 + F := by
                          rw [HS.out, ← HLL.out.1, ← HFF.out]
                          simp only [t1, if_true]
                        have e2 : sumE (fun s => decide (V ≤ s)) (E ++ [(y, cN T y)]) = L2 + F := by
                          rw [HS.out, ← HLL.out.2.1, ← HFF.out]
                          simp only [t2, if_true]
                        have e3 : sumE (fun _ => true) (E ++ [(y, cN T y)]) = L3 + F := by
                          rw [HS.out, ← HLL.out.2.2, ← HFF.out]
                          simp only [if_true]
                        have HO8 := Lib.hid (show W8.heap[W3.heap.size]? = some (.cells #[.int .i64 (V - q), .int .i64 (sumE (fun s => decide (s ≤ V)) (E ++ [(y, cN T y)])), .int .i64 (sumE (fun s => decide (V ≤ s)) (E ++ [(y, cN T y)])), .int .i64 (sumE (fun _ => true) (E ++ [(y, cN T y)]))] 24 (0, 0)) from by
                          rw [e1, e2, e3, hW8]
                          exact rk3 hob7 _ _ _)
                        clear e1 e2 e3
                        have hf8 : Fr (fun i => i = W3.heap.size) w7 W8 := hW8 ▸ (((Fr.refl (fun i => i = W3.heap.size) w7).setCell (p := ⟨W3.heap.size, 3, none⟩) (fun _ => rfl) _).setCell (p := ⟨W3.heap.size, 1, none⟩) (fun _ => rfl) _).setCell (p := ⟨W3.heap.size, 2, none⟩) (fun _ => rfl) _
                        have HRG8 := Lib.hid (HRG7.out.fr hf8 (by have := HMO.out; omega) (by have := HR2S.out; omega))
                        have HB8 := Lib.hid (show Below W3.heap.size W3 W8 from HB7.out.trans (hf8.below HB7.out.size fun i hi h => by omega))
                        have HL8 := Lib.hid HRG8.out.left
                        clear hf8 hob7
                        go_wp2
                        rw [← hW8]
                        go_roundw
                        case rel => exact ⟨_, _, cnt1, HRG8.out, HN2.out.1, HN2.out.2.1, HN2.out.2.2, HO8.out, HB8.out⟩
                        case measure => rw [HLE.out.1, HL8.out]; exact hlt7
                      · have t2 : decide (V ≤ y) = false := decide_eq_false h2
                        obtain ⟨W8, hW8⟩ : ∃ W, W = (w7.setCell ⟨W3.heap.size, 3, none⟩ (.int .i64 (L3 + F))).setCell ⟨W3.heap.size, 1, none⟩ (.int .i64 (L1 + F)) := ⟨_, rfl⟩
                        have e1 : sumE (fun s => decide (s ≤ V)) (E ++ [(y, cN T y)]) = L1 + F := by
                          rw [HS.out, ← HLL.out.1, ← HFF.out]
                          simp only [t1, if_true]
                        have e2 : sumE (fun s => decide (V ≤ s)) (E ++ [(y, cN T y)]) = L2 := by
                          rw [HS.out, ← HLL.out.2.1, ← HFF.out]
                          simp only [t2, Bool.false_eq_true, if_false, Int.add_zero]
                        have e3 : sumE (fun _ => true) (E ++ [(y, cN T y)]) = L3 + F := by
                          rw [HS.out, ← HLL.out.2.2, ← HFF.out]
                          simp only [if_true]
                        have HO8 := Lib.hid (show W8.heap[W3.heap.size]? = some (.cells #[.int .i64 (V - q), .int .i64 (sumE (fun s => decide (s ≤ V)) (E ++ [(y, cN T y)])), .int .i64 (sumE (fun s => decide (V ≤ s)) (E ++ [(y, cN T y)])), .int .i64 (sumE (fun _ => true) (E ++ [(y, cN T y)]))] 24 (0, 0)) from by
                          rw [e1, e2, e3, hW8]
                          exact rk31 hob7 _ _)
                        clear e1 e2 e3
                        have hf8 : Fr (fun i => i = W3.heap.size) w7 W8 := hW8 ▸ ((Fr.refl (fun i => i = W3.heap.size) w7).setCell (p := ⟨W3.heap.size, 3, none⟩) (fun _ => rfl) _).setCell (p := ⟨W3.heap.size, 1, none⟩) (fun _ => rfl) _
                        have HRG8 := Lib.hid (HRG7.out.fr hf8 (by have := HMO.out; omega) (by have := HR2S.out; omega))
                        have HB8 := Lib.hid (show Below W3.heap.size W3 W8 from HB7.out.trans (hf8.below HB7.out.size fun i hi h => by omega))
                        have HL8 := Lib.hid HRG8.out.left
                        clear hf8 hob7
                        go_wp2
                        rw [← hW8]
                        go_roundw
                        case rel => exact ⟨_, _, cnt1, HRG8.out, HN2.out.1, HN2.out.2.1, HN2.out.2.2, HO8.out, HB8.out⟩
                        case measure => rw [HLE.out.1, HL8.out]; exact hlt7
                    · have t1 : decide (y ≤ V) = false := decide_eq_false h1
                      have h2 : V ≤ y := by omega
                      have t2 : decide (V ≤ y) = true := decide_eq_true h2
                      obtain ⟨W8, hW8⟩ : ∃ W, W = (w7.setCell ⟨W3.heap.size, 3, none⟩ (.int .i64 (L3 + F))).setCell ⟨W3.heap.size, 2, none⟩ (.int .i64 (L2 + F)) := ⟨_, rfl⟩
                      have e1 : sumE (fun s => decide (s ≤ V)) (E ++ [(y, cN T y)]) = L1 := by
                        rw [HS.out, ← HLL.out.1, ← HFF.out]
                        simp only [t1, Bool.false_eq_true, if_false, Int.add_zero]
                      have e2 : sumE (fun s => decide (V ≤ s)) (E ++ [(y, cN T y)]) = L2 + F := by
                        rw [HS.out, ← HLL.out.2.1, ← HFF.out]
                        simp only [t2, if_true]
                      have e3 : sumE (fun _ => true) (E ++ [(y, cN T y)]) = L3 + F := by
                        rw [HS.out, ← HLL.out.2.2, ← HFF.out]
                        simp only [if_true]
                      have HO8 := Lib.hid (show W8.heap[W3.heap.size]? = some (.cells #[.int .i64 (V - q), .int .i64 (sumE (fun s => decide (s ≤ V)) (E ++ [(y, cN T y)])), .int .i64 (sumE (fun s => decide (V ≤ s)) (E ++ [(y, cN T y)])), .int .i64 (sumE (fun _ => true) (E ++ [(y, cN T y)]))] 24 (0, 0)) from by
                        rw [e1, e2, e3, hW8]
                        exact rk32 hob7 _ _)
                      clear e1 e2 e3
                      have hf8 : Fr (fun i => i = W3.heap.size) w7 W8 := hW8 ▸ ((Fr.refl (fun i => i = W3.heap.size) w7).setCell (p := ⟨W3.heap.size, 3, none⟩) (fun _ => rfl) _).setCell (p := ⟨W3.heap.size, 2, none⟩) (fun _ => rfl) _
                      have HRG8 := Lib.hid (HRG7.out.fr hf8 (by have := HMO.out; omega) (by have := HR2S.out; omega))
                      have HB8 := Lib.hid (show Below W3.heap.size W3 W8 from HB7.out.trans (hf8.below HB7.out.size fun i hi h => by omega))
                      have HL8 := Lib.hid HRG8.out.left
                      clear hf8 hob7
                      go_wp2
                      rw [← hW8]
                      go_roundw
                      case rel => exact ⟨_, _, cnt1, HRG8.out, HN2.out.1, HN2.out.2.1, HN2.out.2.2, HO8.out, HB8.out⟩
                      case measure => rw [HLE.out.1, HL8.out]; exact hlt7
  · have HNE := Lib.hid hz
    have t1 : (C != 0) = true := by rw [bne_iff_ne]; exact hz
    clear hz hok
    go_enter Tryz.func9, Tryz.ntmps9
    go_wp2_with fail
    rw [← hW0]
    clear hW0
    (with_reducible refine (HCK.out W0 HST0.out.below).mono ?_)
    rintro e w1 ⟨rfl, hb1⟩
    have hst1 := HST0.out.call hb1
    have k0 : w1.cell? ⟨w.heap.size, 0, none⟩ = some (.int .i64 0) := hst1.cell 0 0 rfl rfl
    have k1 : w1.cell? ⟨w.heap.size, 1, none⟩ = some (.int .i64 0) := hst1.cell 0 1 rfl rfl
    have k2 : w1.cell? ⟨w.heap.size, 2, none⟩ = some (.int .i64 0) := hst1.cell 0 2 rfl rfl
    have k3 : w1.cell? ⟨w.heap.size, 3, none⟩ = some (.int .i64 0) := hst1.cell 0 3 rfl rfl
    have z0 := hst1.frozen 0 0 rfl
    have z1 := hst1.frozen 0 1 rfl
    have z2 := hst1.frozen 0 2 rfl
    have z3 := hst1.frozen 0 3 rfl
    have hlt := hst1.lt 0 rfl
    have HBF := Lib.hid (fun x y u v => ((((below_next HST0.out.below hb1).setCell (p := ⟨w.heap.size, 0, none⟩) (Nat.le_refl _) x).setCell (p := ⟨w.heap.size, 1, none⟩) (Nat.le_refl _) y).setCell (p := ⟨w.heap.size, 2, none⟩) (Nat.le_refl _) u).setCell (p := ⟨w.heap.size, 3, none⟩) (Nat.le_refl _) v)
    clear hb1 hst1
    go_wp2
    refine bodyPost_ret (v := .tuple #[.agg #[.int .i64 0, .int .i64 0, .int .i64 0, .int .i64 0], .int .i64 C]) (by simp [results, Tryz.results9, go_sem, k0, k1, k2, k3]) rfl (.inl ⟨HNE.out, rfl, HBF.out _ _ _ _⟩)
end Go.Proofs.YtnapdhfkgfjjfaaGreatDoor
