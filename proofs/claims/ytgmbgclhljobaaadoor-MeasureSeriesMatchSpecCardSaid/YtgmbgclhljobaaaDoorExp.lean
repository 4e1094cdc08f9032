/- Expected: the values of requests that did not begin because an earlier one took long. -/
import Derived.Test.YtgmbgclhljobaaaDoorOf
namespace Go.Proofs.YtgmbgclhljobaaaDoor
open Go Go.RowKit Go.Proofs Go.Maps

/-- the j-th value that a value stands for -/
def eV (z p : Int) (j : Nat) : Int := z - j * p
theorem eV_zero (z p : Int) : eV z p 0 = z := by simp [eV]
theorem eV_succ (z p : Int) (j : Nat) : eV z p (j + 1) = eV z p j - p := by
  unfold eV; rw [Int.natCast_add, Int.add_mul]; simp; omega
/-- how many values it stands for -/
def eN (z p : Int) : Nat := (max 1 (z / p)).toNat
/-- the values that it stands for -/
def expand (z p : Int) : List Int := (List.range (eN z p)).map (eV z p)
def expAll (zs : List Int) (p : Int) : List Int := zs.flatMap (expand · p)
def sumE (zs : List Int) (p : Int) : Int := (zs.map (fun z => max 1 (z / p))).sum
theorem eN_pos (z p : Int) : 1 ≤ eN z p := by unfold eN; omega
theorem eV_more (z p : Int) (j : Nat) (hp : 1 ≤ p) (hj : 1 ≤ j) : p ≤ eV z p j ↔ j < eN z p := by
  unfold eV eN
  have h1 : p ≤ z - j * p ↔ ((j : Int) + 1) ≤ z / p := by
    rw [Int.le_ediv_iff_mul_le (by omega), Int.add_mul]; omega
  rw [h1]; omega
theorem eV_bd (z p : Int) (j : Nat) (hz : 0 ≤ z) (hz' : z ≤ 1125899906842623) (hp : 1 ≤ p) (hp' : p ≤ 1125899906842623) (hj : j ≤ eN z p) : -1125899906842623 ≤ eV z p j ∧ eV z p j ≤ 1125899906842623 := by
  have hn := Int.mul_nonneg (a := (j : Int)) (b := p) (by omega) (by omega)
  refine ⟨?_, by unfold eV; omega⟩
  by_cases hj0 : j ≤ 1
  · have : (j : Int) * p ≤ 1 * p := Int.mul_le_mul_of_nonneg_right (by omega) (by omega)
    unfold eV; omega
  · have : (j : Int) ≤ z / p := by unfold eN at hj; omega
    have := (Int.le_ediv_iff_mul_le (c := p) (by omega)).1 this
    unfold eV; omega
theorem expand_take (z p : Int) (j : Nat) (hj : j < eN z p) : (expand z p).take (j + 1) = (expand z p).take j ++ [eV z p j] := by
  unfold expand
  rw [List.take_add_one, List.getElem?_map, List.getElem?_range hj]
  rfl
theorem expand_full (z p : Int) : (expand z p).take (eN z p) = expand z p := List.take_of_length_le (by simp [expand])
theorem expand_length (z p : Int) : (expand z p).length = eN z p := by simp [expand]
theorem expAll_take (zs : List Int) (p : Int) (k : Nat) (z : Int) (h : zs[k]? = some z) : expAll (zs.take (k + 1)) p = expAll (zs.take k) p ++ expand z p := by
  rw [List.take_add_one, h]; simp [expAll]
theorem sumE_take (zs : List Int) (p : Int) (k : Nat) (z : Int) (h : zs[k]? = some z) : sumE (zs.take (k + 1)) p = sumE (zs.take k) p + max 1 (z / p) := by
  rw [List.take_add_one, h]; simp [sumE]
theorem sumE_length (zs : List Int) (p : Int) : ((expAll zs p).length : Int) = sumE zs p := by
  induction zs with
  | nil => rfl
  | cons z zs ih =>
    simp only [expAll, List.flatMap_cons, List.length_append, expand_length, sumE, List.map_cons, List.sum_cons] at *
    unfold eN; omega
theorem sumE_mono (zs : List Int) (p : Int) (k : Nat) : 0 ≤ sumE (zs.take k) p ∧ sumE (zs.take k) p ≤ sumE zs p := by
  have h : ∀ l : List Int, 0 ≤ sumE l p := by
    intro l
    rw [← sumE_length]; omega
  refine ⟨h _, ?_⟩
  have e : sumE zs p = sumE (zs.take k) p + sumE (zs.drop k) p := by
    conv => lhs; rw [← List.take_append_drop k zs]
    unfold sumE; rw [List.map_append, List.sum_append]
  have := h (zs.drop k)
  omega
theorem expand_fine (z p : Int) (hz : fineV z = true) (hp : 1 ≤ p) : ∀ v ∈ expand z p, fineV v = true := by
  intro v hv
  simp only [expand, List.mem_map, List.mem_range] at hv
  obtain ⟨j, hj, rfl⟩ := hv
  simp [fineV] at hz ⊢
  rcases Nat.eq_zero_or_pos j with rfl | h0
  · rw [eV_zero]; omega
  · have h1 := (eV_more z p j hp h0).2 hj
    have hn := Int.mul_nonneg (a := (j : Int)) (b := p) (by omega) (by omega)
    unfold eV at *; omega
theorem expAll_fine (zs : List Int) (p : Int) (hz : ∀ z ∈ zs, fineV z = true) (hp : 1 ≤ p) : ∀ v ∈ expAll zs p, fineV v = true := by
  intro v hv
  simp only [expAll, List.mem_flatMap] at hv
  obtain ⟨z, hz1, hv⟩ := hv
  exact expand_fine z p (hz z hz1) hp v hv
/-- what Expected returns for an error -/
def codeE (b : Int) (n : Nat) (zs : List Int) (p : Int) : Int := if codeV b n zs ≠ 0 then codeV b n zs else if p < 1 ∨ 1125899906842623 < p then 9 else if 1000000 < sumE zs p then 3 else 0

def ExpRel (w wr : World) (b : Int) (cnt : Nat) (l : List Int) : Prop :=
  MapII wr (w.heap.size + 1) cnt (cntB b l) ∧ wr.heap[w.heap.size]? = some (.cells #[.int .i64 0, .slice none 0 0] 24 (0, 0)) ∧ Below w.heap.size w wr ∧ w.heap.size + 1 < wr.heap.size

theorem ExpRel.put {w wr w1 : World} {b : Int} {cnt : Nat} {l : List Int} {v : Int} {D : DataW Unit} (h : ExpRel w wr b cnt l) (hD : ∀ y, (Lit.int .i64 y).wf = true → D.atKey (.int .i64 y) (.lit (.int .i64 0)) = .lit (.int .i64 (cntB b l y)))
    (hown : wr.ownsMap Tryd.prog 3 (plainElem Tryd.prog 3) (w.heap.size + 1) cnt D) (hown1 : w1.ownsMap Tryd.prog 3 (plainElem Tryd.prog 3) (w.heap.size + 1) (cnt + 1) (D.put (.int .i64 (bkt b v)) (.lit (.int .i64 (cntB b l (bkt b v) + 1))))) {q : Nat} (hg : (wr.drewN q).grownBy w1 (some (w.heap.size + 1))) :
    ExpRel w w1 b (cnt + 1) (l ++ [v]) := by
  obtain ⟨_, h2, h3, h4⟩ := h
  have hf := Fr.of_grown hg
  refine ⟨?_, ?_, ?_, ?_⟩
  · rw [← cntB_snoc]
    exact mapII_put (_w := wr) hD (isMap_of_owns hown) hown1
  · exact (hf.block _ (by simp; omega) (by simp)).trans h2
  · exact (below_drewN h3 q).grown hg (by simp; omega) (fun j hj => by cases hj; omega)
  · have := hg.size; simp at this; omega

set_option maxHeartbeats 2000000 in
set_option maxRecDepth 100000 in
theorem Expected_ok (b : Int) (A : Option Addr) (n c : Nat) (zs : List Int) (p : Int) (w : World) (hr : Rd w 0 w.heap.size 1 A n (ints zs)) (hcv : codeV b n zs = 0) (hp : 1 ≤ p) (hp' : p ≤ 1125899906842623) (hs : sumE zs p ≤ 1000000) :
    Calls Tryd.prog 11 #[.int .i64 b, .slice A n c, .int .i64 p] w fun e w' => ∃ v cs, e = .returned (.tuple #[v, .int .i64 0]) ∧ IsHist (cntB b (expAll zs p)) cs ∧ HistV w' w.heap.size v b cs ∧ Below w.heap.size w w' := by
  have hl : zs.length = n := by have := hr.1; simpa [ints] using this
  obtain ⟨hb, hb', hn2, hz⟩ := codeV_zero hcv
  have HCV := Lib.hid hcv
  have hcv' : (codeV b n zs != 0) = false := by simp [hcv]
  have hp1 : decide (p < 1) = false := by simp; omega
  have HR := Lib.hid hr
  have HL := Lib.hid hl
  have HZ := Lib.hid hz
  have HS := Lib.hid hs
  have hr1 : Rd (w.alloc (.cells #[.int .i64 0, .slice none 0 0] 24)) 0 w.heap.size 1 A n (ints zs) := hr.alloc (Nat.le_refl _) _
  have HR1 := Lib.hid hr1
  clear hr hl hz hcv hs hr1
  have hmm := @run_makeMap Tryd.prog
  go_enter Tryd.func11, Tryd.ntmps11
  go_wp2_with fail
  refine (checkValues_any b A n c 0 _ zs _ HR1.out (by omega)).mono ?_
  rintro e w' ⟨rfl, rfl⟩
  go_wp2
  go_loop [9, 11, 31] (fun s _ i => ∃ k : Nat, k ≤ n ∧ i = .int .i64 k ∧ s = .int .i64 (sumE (zs.take k) p)) (fun _ _ i => n - (intOf i).toNat)
  case atStart => exact ⟨0, Nat.zero_le _, rfl, by simp [sumE]⟩
  case round =>
    obtain ⟨k, hk, rfl, rfl⟩ := hrel
    have hm := sumE_mono zs p k
    have hs1 := HS.out
    by_cases hlt : k < n
    · obtain ⟨bk, o, u, rfl, hbk, hu, hcell⟩ := HR1.out.at1 hlt
      obtain ⟨z, hz, rfl⟩ := ints_get hu
      have hfz := HZ.out z (List.mem_of_getElem? hz)
      simp [fineV] at hfz
      have hm2 := sumE_mono zs p (k + 1)
      have hst := sumE_take zs p k z hz
      have hq0 : 0 ≤ z / p := Int.ediv_nonneg hfz.1 (by omega)
      have hq1 : z / p ≤ z := Int.ediv_le_self _ hfz.1
      have HST := Lib.hid hst
      rw [hst] at hm2
      clear hu hz hst
      go_wp2
      go_round
      case rel => exact ⟨k + 1, by omega, by go_num, by rw [HST.out]⟩
      case measure => simp [intOf]; omega
    · go_wp2
      clear hmm
      go_loopw [14, 48] (fun _ i wr => ∃ k : Nat, k ≤ n ∧ i = .int .i64 k ∧ ExpRel w wr b (expAll (zs.take k) p).length (expAll (zs.take k) p)) (fun _ i _ => n - (intOf i).toNat)
      case atStart =>
        refine ⟨0, Nat.zero_le _, rfl, ?_, (Below.heap_alloc _ _ _ (by simp)).trans (alloc_at _ _ _ rfl), ((Below.refl _ w).alloc (Nat.le_refl _) _).alloc (by simp) _, by simp⟩
        have := mapII_made (w.alloc (.cells #[.int .i64 0, .slice none 0 0] 24))
        simp only [World.size_alloc] at this
        have e : cntB b (expAll (zs.take 0) p) = fun _ => 0 := by funext x; simp [cntB, expAll]
        rw [e]; exact this
      case round =>
        clear hm hlt hk
        obtain ⟨k, hk, rfl, hrel⟩ := hrel
        have hm := sumE_mono zs p k
        have hlm := sumE_length (zs.take k) p
        obtain ⟨LST, hLST⟩ : ∃ LST, LST = expAll (zs.take k) p := ⟨_, rfl⟩
        rw [← hLST] at hrel hlm
        by_cases hlt : k < n
        · have HREL := Lib.hid hrel
          obtain ⟨⟨D, hown, hD⟩, _, hbw, hszr⟩ := hrel
          obtain ⟨bk, o, u, rfl, hbk, hu, hcell⟩ := (HR.out.below hbw (Nat.le_refl _)).at1 hlt
          obtain ⟨z, hz, rfl⟩ := ints_get hu
          have hfz := HZ.out z (List.mem_of_getElem? hz)
          simp [fineV] at hfz
          have hbw' := bkt_within b z hb hb' hfz.1 (by omega)
          have hmx := maxB_bd b hb hb'
          have hwf : (Lit.int .i64 (bkt b z)).wf = true := wf_i64 (by omega) (by omega)
          have hcb := cntB_bd b LST (bkt b z)
          have hst := sumE_take zs p k z hz
          have hm2 := sumE_mono zs p (k + 1)
          rw [hst] at hm2
          have het := expAll_take zs p k z hz
          rw [← hLST] at het
          have hen : (eN z p : Int) = max 1 (z / p) := by unfold eN; omega
          have hcount : LST.length + eN z p ≤ 1000000 := by have := HS.out; omega
          have HET := Lib.hid het
          have HD := Lib.hid hD
          have HO := Lib.hid hown
          clear hu hz hD hown hst het hLST hm hm2 hlm hen
          go_wp2_with (first
          | (go_at_call 41; refine (bucket_any _ _ _ hb hb' (by omega) (by omega)).mono ?_; rintro e w' ⟨rfl, nq, rfl⟩)
          | (at_lookup; refine wpList_lookup_own_int _ rfl _ _ 59 rfl 3 3 .i64 law3 Tryd.underlying59 Tryd.underlying3 (zero3 _) (w.heap.size + 1) LST.length D rfl HO.out _ _ rfl (keyOf_int_mk Tryd.underlying3 hwf) ?_; intro cc hat hwc; obtain rfl : cc = cntB b LST (bkt b z) := lit_inj (hat.symm.trans (HD.out _ hwf)); clear hat)
          | (at_mapUpdate; refine wpList_mapUpdate_own _ rfl _ _ _ 59 rfl 3 3 law3 Tryd.underlying59 _ (w.heap.size + 1) LST.length D rfl HO.out (by unfold maxLen; omega) _ _ _ rfl rfl (keyOf_int_mk Tryd.underlying3 hwf) _ [] (plainElem_int Tryd.underlying3 (wf_i64 (by omega) (by omega))) ?_; intro w1 hown1 hgrow1))
          have hr1 : ExpRel w w1 b (LST.length + 1) (LST ++ (expand z p).take 1) := by
            have e : (expand z p).take 1 = [z] := by rw [expand_take z p 0 (eN_pos z p)]; simp [eV_zero]
            rw [e]
            exact HREL.out.put HD.out HO.out hown1 hgrow1
          have HR2 := Lib.hid hr1
          clear hown1 hgrow1 hr1 hcell HREL HD HO
          go_wp2
          obtain ⟨W1, rfl⟩ : ∃ W1 : World, W1 = w1 := ⟨_, rfl⟩
          have hbd1 := eV_bd z p 1 hfz.1 hfz.2 hp hp' (eN_pos z p)
          have hes1 : z - p = eV z p 1 := by rw [eV_succ, eV_zero]
          rw [hes1]
          clear hes1
          go_loopw [14] (fun x wx => ∃ j : Nat, 1 ≤ j ∧ j ≤ eN z p ∧ x = .int .i64 (eV z p j) ∧ ExpRel w wx b (LST.length + j) (LST ++ (expand z p).take j)) (fun x _ => (1125899906842624 + intOf x).toNat)
          case atStart => exact ⟨1, Nat.le_refl _, eN_pos z p, rfl, HR2.out⟩
          case round =>
            obtain ⟨j, hj1, hj2, rfl, hrel2⟩ := hrel
            have hbd := eV_bd z p j hfz.1 hfz.2 hp hp' hj2
            have hmore := eV_more z p j hp hj1
            by_cases hgo : p ≤ eV z p j
            · have hjn := hmore.1 hgo
              have HREL2 := Lib.hid hrel2
              obtain ⟨⟨D2, hown2, hD2⟩, _, hbw2, hszr2⟩ := hrel2
              have hbk2 := bkt_within b (eV z p j) hb hb' (by omega) (by omega)
              have hwf2 : (Lit.int .i64 (bkt b (eV z p j))).wf = true := wf_i64 (by omega) (by omega)
              have hcb2 := cntB_bd b (LST ++ (expand z p).take j) (bkt b (eV z p j))
              have hll : (LST ++ (expand z p).take j).length ≤ LST.length + j := by simp only [List.length_append, List.length_take]; omega
              have HD2 := Lib.hid hD2
              have HO2 := Lib.hid hown2
              clear hD2 hown2 hmore
              go_wp2_with (first
              | (go_at_call 41; refine (bucket_any _ _ _ hb hb' (by omega) (by omega)).mono ?_; rintro e w' ⟨rfl, nq, rfl⟩)
              | (at_lookup; refine wpList_lookup_own_int _ rfl _ _ 59 rfl 3 3 .i64 law3 Tryd.underlying59 Tryd.underlying3 (zero3 _) (w.heap.size + 1) (LST.length + j) D2 rfl HO2.out _ _ rfl (keyOf_int_mk Tryd.underlying3 hwf2) ?_; intro cc hat hwc; obtain rfl : cc = cntB b (LST ++ (expand z p).take j) (bkt b (eV z p j)) := lit_inj (hat.symm.trans (HD2.out _ hwf2)); clear hat)
              | (at_mapUpdate; refine wpList_mapUpdate_own _ rfl _ _ _ 59 rfl 3 3 law3 Tryd.underlying59 _ (w.heap.size + 1) (LST.length + j) D2 rfl HO2.out (by unfold maxLen; omega) _ _ _ rfl rfl (keyOf_int_mk Tryd.underlying3 hwf2) _ [] (plainElem_int Tryd.underlying3 (wf_i64 (by omega) (by omega))) ?_; intro w2 hown2 hgrow2))
              have hr3 : ExpRel w w2 b (LST.length + (j + 1)) (LST ++ (expand z p).take (j + 1)) := by
                rw [expand_take z p j hjn, ← List.append_assoc]
                exact HREL2.out.put HD2.out HO2.out hown2 hgrow2
              have HR3 := Lib.hid hr3
              have hes := eV_succ z p j
              have HES := Lib.hid hes
              clear hown2 hgrow2 hr3 HREL2 HD2 HO2 hes
              go_wp2
              go_roundw
              case rel => exact ⟨j + 1, by omega, hjn, by rw [HES.out], HR3.out⟩
              case measure => simp [intOf]; omega
            · have hje : ¬ j < eN z p := fun h => hgo (hmore.2 h)
              obtain rfl : j = eN z p := by omega
              rw [expand_full] at hrel2
              have hfinr : ExpRel w wr b (expAll (zs.take (k + 1)) p).length (expAll (zs.take (k + 1)) p) := by
                rw [HET.out, List.length_append, expand_length]; exact hrel2
              have HFR := Lib.hid hfinr
              clear hfinr hrel2 hmore hje
              go_wp2
              go_roundw
              case rel => exact ⟨k + 1, by omega, by go_num, HFR.out⟩
              case measure => simp [intOf]; omega
        · have htk : zs.take k = zs := List.take_of_length_le (by have := HL.out; omega)
          rw [htk] at hLST
          obtain ⟨hmap, hbx, hbw, hszr⟩ := hrel
          have hcn : LST.length ≤ 1000000 := by rw [hLST]; have := sumE_length zs p; have := HS.out; omega
          have HH := Lib.hid (histogram_any (w.heap.size + 1) LST.length b (cntB b LST) wr hmap (by omega) (fun x hx => by
            have := cntB_wf b LST x hb hb' (by rw [hLST]; exact expAll_fine zs p HZ.out hp) hx
            have := maxB_bd b hb hb'
            exact wf_i64 (by omega) (by omega)))
          have HB := Lib.hid hbx
          have HW := Lib.hid hbw
          have HLST := Lib.hid hLST
          clear hmap hbx hbw htk hLST hm hlm
          go_wp2_with fail
          refine HH.out.mono ?_
          rintro e w' ⟨A', cs, rfl, hh, hrd, hcl, hb2⟩
          have hbx' : w'.heap[w.heap.size]? = some (.cells #[.int .i64 0, .slice none 0 0] 24 (0, 0)) := (hb2.block _ (by omega)).trans HB.out
          have c0 : w'.cell? ⟨w.heap.size, 0, none⟩ = some (.int .i64 0) := by rw [cellsAt hbx']; rfl
          have c1 : w'.cell? ⟨w.heap.size, 1, none⟩ = some (.slice none 0 0) := by rw [cellsAt hbx']; rfl
          have z0 : w'.frozen? ⟨w.heap.size, 0, none⟩ = false := frozenAt hbx' 0
          have z1 : w'.frozen? ⟨w.heap.size, 1, none⟩ = false := frozenAt hbx' 1
          have HHI := Lib.hid hh
          have HRD := Lib.hid hrd
          have HBW := Lib.hid hb2
          clear hh hrd hb2 hbx'
          go_wp2
          have fin : ∀ W : World, Fr (fun i => i = w.heap.size) w' W → ∃ v cs', Ending.returned (Value.tuple #[Value.agg #[Value.int .i64 b, .slice A' cs.length cs.length], .int .i64 0]) = .returned (.tuple #[v, .int .i64 0]) ∧ IsHist (cntB b (expAll zs p)) cs' ∧ HistV W w.heap.size v b cs' ∧ Below w.heap.size w W := by
            intro W hW
            have hs2 := HBW.out.size
            refine ⟨_, cs, rfl, by rw [← HLST.out]; exact HHI.out, ⟨A', cs.length, rfl, Nat.le_refl _, by unfold maxLen; omega, ?_, ?_⟩, ?_⟩
            · intro hA
              have : ¬ 0 < cs.length := by
                intro hp
                obtain ⟨_, _, e, _⟩ := HRD.out.2 hp
                rw [hA] at e; cases e
              omega
            · exact (HRD.out.fr hW (Nat.le_refl _) (fun i hi _ => by omega)).more (by omega) hW.size
            · exact HW.out.trans ((HBW.out.mono (by omega)).trans (hW.below (by omega) (fun i hi => by omega)))
          refine bodyPost_ret (v := .tuple #[.agg #[.int .i64 b, .slice A' cs.length cs.length], .int .i64 0]) (by simp [results, Tryd.results11, go_sem, c0, c1]) rfl (fin _ ?_)
          repeat (first | exact Fr.refl _ _ | (refine Fr.setCell ?_ (fun _ => by dsimp only) _))
theorem codeE_zero {b : Int} {n : Nat} {zs : List Int} {p : Int} (h : codeE b n zs p = 0) : codeV b n zs = 0 ∧ 1 ≤ p ∧ p ≤ 1125899906842623 ∧ sumE zs p ≤ 1000000 := by
  unfold codeE at h
  split at h
  · exact absurd h (by assumption)
  · split at h
    · omega
    · split at h
      · omega
      · rename_i h1 h2 h3
        exact ⟨by simpa using h1, by omega, by omega, by omega⟩

/-- the empty result and an error -/
def NoHist (e : Ending) (code : Int) : Prop := e = .returned (.tuple #[.agg #[.int .i64 0, .slice none 0 0], .int .i64 code])

set_option maxHeartbeats 2000000 in
set_option maxRecDepth 100000 in
theorem Expected_no (b : Int) (A : Option Addr) (n c : Nat) (zs : List Int) (p : Int) (w : World) (hr : Rd w 0 w.heap.size 1 A n (ints zs)) (hn : n < 9223372036854775807) (hne : codeE b n zs p ≠ 0) :
    Calls Tryd.prog 11 #[.int .i64 b, .slice A n c, .int .i64 p] w fun e w' => NoHist e (codeE b n zs p) ∧ Below w.heap.size w w' := by
  have hl : zs.length = n := by have := hr.1; simpa [ints] using this
  have hr1 : Rd (w.alloc (.cells #[.int .i64 0, .slice none 0 0] 24)) 0 w.heap.size 1 A n (ints zs) := hr.alloc (Nat.le_refl _) _
  have HR1 := Lib.hid hr1
  clear hr hr1
  have hfin : Below w.heap.size w (w.alloc (.cells #[.int .i64 0, .slice none 0 0] 24)) := (Below.refl _ w).alloc (Nat.le_refl _) _
  have HFIN := Lib.hid hfin
  clear hfin
  by_cases hcv : codeV b n zs = 0
  · obtain ⟨hb, hb', hn2, hz⟩ := codeV_zero hcv
    have hcv' : (codeV b n zs != 0) = false := by simp [hcv]
    by_cases hp1 : p < 1
    · have hp1' : decide (p < 1) = true := by simpa using hp1
      have hce : codeE b n zs p = 9 := by unfold codeE; rw [if_neg (by simpa using hcv), if_pos (.inl hp1)]
      rw [hce]
      clear hce hne hz hcv
      go_enter Tryd.func11, Tryd.ntmps11
      go_wp2_with fail
      refine (checkValues_any b A n c 0 _ zs _ HR1.out hn).mono ?_
      rintro e w' ⟨rfl, rfl⟩
      go_wp2
      exact bodyPost_ret (v := .tuple #[.agg #[.int .i64 0, .slice none 0 0], .int .i64 9]) (by simp [results, Tryd.results11, go_sem]) rfl ⟨rfl, HFIN.out⟩
    · have hp1' : decide (p < 1) = false := by simpa using hp1
      by_cases hp2 : 1125899906842623 < p
      · have hce : codeE b n zs p = 9 := by unfold codeE; rw [if_neg (by simpa using hcv), if_pos (.inr hp2)]
        rw [hce]
        clear hce hne hz hcv
        go_enter Tryd.func11, Tryd.ntmps11
        go_wp2_with fail
        refine (checkValues_any b A n c 0 _ zs _ HR1.out hn).mono ?_
        rintro e w' ⟨rfl, rfl⟩
        go_wp2
        exact bodyPost_ret (v := .tuple #[.agg #[.int .i64 0, .slice none 0 0], .int .i64 9]) (by simp [results, Tryd.results11, go_sem]) rfl ⟨rfl, HFIN.out⟩
      · have hbig : 1000000 < sumE zs p := by
          unfold codeE at hne
          rw [if_neg (by simpa using hcv), if_neg (by omega)] at hne
          split at hne
          · assumption
          · omega
        have hce : codeE b n zs p = 3 := by unfold codeE; rw [if_neg (by simpa using hcv), if_neg (by omega), if_pos hbig]
        rw [hce]
        have HZ := Lib.hid hz
        have HL := Lib.hid hl
        have HBIG := Lib.hid hbig
        clear hce hne hz hcv hl hbig
        go_enter Tryd.func11, Tryd.ntmps11
        go_wp2_with fail
        refine (checkValues_any b A n c 0 _ zs _ HR1.out hn).mono ?_
        rintro e w' ⟨rfl, rfl⟩
        go_wp2
        go_loop [9, 11, 31] (fun s _ i => ∃ k : Nat, k ≤ n ∧ i = .int .i64 k ∧ s = .int .i64 (sumE (zs.take k) p) ∧ sumE (zs.take k) p ≤ 1000000) (fun _ _ i => n - (intOf i).toNat)
        case atStart => exact ⟨0, Nat.zero_le _, rfl, by simp [sumE], by simp [sumE]⟩
        case round =>
          obtain ⟨k, hk, rfl, rfl, hsk⟩ := hrel
          have hm := sumE_mono zs p k
          by_cases hlt : k < n
          · obtain ⟨bk, o, u, rfl, hbk, hu, hcell⟩ := HR1.out.at1 hlt
            obtain ⟨z, hz, rfl⟩ := ints_get hu
            have hfz := HZ.out z (List.mem_of_getElem? hz)
            simp [fineV] at hfz
            have hst := sumE_take zs p k z hz
            have hq0 : 0 ≤ z / p := Int.ediv_nonneg hfz.1 (by omega)
            have hq1 : z / p ≤ z := Int.ediv_le_self _ hfz.1
            have HST := Lib.hid hst
            clear hu hz hst
            by_cases hov : 1000000 < sumE (zs.take k) p + max 1 (z / p)
            · go_wp2
              exact bodyPost_ret (v := .tuple #[.agg #[.int .i64 0, .slice none 0 0], .int .i64 3]) (by simp [results, Tryd.results11, go_sem]) rfl ⟨rfl, HFIN.out⟩
            · go_wp2
              go_round
              case rel => exact ⟨k + 1, by omega, by go_num, by rw [HST.out], by rw [HST.out]; omega⟩
              case measure => simp [intOf]; omega
          · exfalso
            rw [List.take_of_length_le (by have := HL.out; omega)] at hsk
            have := HBIG.out
            omega
  · have hcv' : (codeV b n zs != 0) = true := by simp [hcv]
    have hce : codeE b n zs p = codeV b n zs := by unfold codeE; rw [if_pos hcv]
    rw [hce]
    clear hce hne hcv
    go_enter Tryd.func11, Tryd.ntmps11
    go_wp2_with fail
    refine (checkValues_any b A n c 0 _ zs _ HR1.out hn).mono ?_
    rintro e w' ⟨rfl, rfl⟩
    go_wp2
    exact bodyPost_ret (v := .tuple #[.agg #[.int .i64 0, .slice none 0 0], .int .i64 (codeV b n zs)]) (by simp [results, Tryd.results11, go_sem]) rfl ⟨rfl, HFIN.out⟩
end Go.Proofs.YtgmbgclhljobaaaDoor
