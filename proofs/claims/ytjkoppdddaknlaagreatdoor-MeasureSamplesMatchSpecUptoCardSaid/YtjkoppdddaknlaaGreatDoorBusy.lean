/- Busy: what it returns. -/
import Derived.Test.YtjkoppdddaknlaaGreatDoorG17
import Derived.Test.YtjkoppdddaknlaaGreatDoorG18
import Derived.Test.YtjkoppdddaknlaaGreatDoorBusyRow
import Derived.Test.YtjkoppdddaknlaaGreatDoorBusyMath
namespace Go.Proofs.YtjkoppdddaknlaaGreatDoor
open Go Go.RowKit Go.Proofs Go.Maps

def pts (l : List Smp) : List (Int × Int) := l.map fun s => (s.a, s.d)
theorem pts_take (l : List Smp) (k : Nat) (s : Smp) (h : l[k]? = some s) : pts (l.take (k + 1)) = pts (l.take k) ++ [(s.a, s.d)] := by
  unfold pts; rw [List.take_add_one, h]; simp
noncomputable def putII (m : Nat) (x c : Int) (w : World) : World :=
  match (Instr.mapUpdate 74 (.map (some m)) (.int .i64 x) (.int .i64 c)).run Tryz.prog w with | .ok _ w' => w' | _ => w
theorem putII_run {w : World} {m n : Nat} {f : Int → Int} (h : MapII w m n f) (hn : n < 100000000) (x c : Int) (hx : (Lit.int .i64 x).wf = true) (hc : (Lit.int .i64 c).wf = true) :
    (Instr.mapUpdate 74 (.map (some m)) (.int .i64 x) (.int .i64 c)).run Tryz.prog w = .ok () (putII m x c w) ∧ MapII (putII m x c w) m (n + 1) (upd f x c) ∧ w.grownBy (putII m x c w) (some m) := by
  obtain ⟨D, hown, hD⟩ := h
  obtain ⟨w', hrun, h1, h2⟩ := hown.update law3 Tryz.underlying74 (by unfold maxLen; omega) (keyOf_int_mk Tryz.underlying3 hx) (plainElem_int Tryz.underlying3 hc)
  have e : putII m x c w = w' := by unfold putII; rw [hrun]
  rw [e]
  exact ⟨hrun, mapII_put (_w := w) hD (isMap_of_owns hown) h1, h2⟩
theorem lookII_run {w : World} {m n : Nat} {f : Int → Int} (h : MapII w m n f) (x : Int) (hx : (Lit.int .i64 x).wf = true) :
    (Instr.lookup 74 (.map (some m)) (.int .i64 x) false).run Tryz.prog w = .ok (.int .i64 (f x)) w := by
  obtain ⟨D, hown, hD⟩ := h
  obtain ⟨c, hrun, hat, _⟩ := hown.lookup_int law3 Tryz.underlying74 Tryz.underlying3 (zero3 _) (keyOf_int_mk Tryz.underlying3 hx)
  have : c = f x := lit_inj (hat.symm.trans (hD x hx))
  rw [hrun, this]
theorem clip_change (A : Option Addr) (n c : Nat) (w : World) (hn : n ≤ c) (hc : c ≤ maxLen) (hA : A = none → n = 0 ∧ c = 0) :
    Calls Tryz.prog 39 #[.slice A n c] w fun e w' => e = .returned (.slice A n n) ∧ w = w' := by
  unfold maxLen at hc
  rcases A with _ | a
  · obtain ⟨rfl, rfl⟩ := hA rfl
    go_enter Tryz.func39, Tryz.ntmps39
    go_wp2
    go_ret
    exact ⟨rfl, rfl⟩
  · go_enter Tryz.func39, Tryz.ntmps39
    go_wp2
    go_ret
    exact ⟨rfl, rfl⟩
theorem Tryz.infoCh : (Tryz.prog.info? 76).map (fun i => (i.zero, i.size, i.bytes)) = some (some (.agg #[.int .i64 0, .int .i64 0]), 2, 16) := by kernel_rfl
theorem Tryz.infoIn : (Tryz.prog.info? 3).map (fun i => (i.zero, i.size, i.bytes)) = some (some (.int .i64 0), 1, 8) := by kernel_rfl

/-- what the first loop keeps -/
def BL1 (w wr : World) (M : Nat) (l : List Smp) (v : Value) (k : Nat) : Prop :=
  MapII wr M (2 * k) (stp (pts (l.take k))) ∧ wr.ownsRow (M + 1) 3 1 v (2 * k) (ints (tms (pts (l.take k)))) ∧ Below w.heap.size w wr ∧ M < wr.heap.size
/-- what the second loop keeps: W is where it began -/
def BL2 (W wr : World) (l : List Smp) (ts : List Int) (v : Value) (k : Nat) : Prop :=
  wr.ownsRow W.heap.size 76 2 v (chg (stp (pts l)) (ts.take k)).length (cells2 (chg (stp (pts l)) (ts.take k))) ∧ Fr (fun i => W.heap.size ≤ i) W wr

def BPost (n : Nat) (l : List Smp) (w : World) (e : Ending) (w' : World) : Prop :=
  ∃ A' ts, e = .returned (.tuple #[.slice A' (chg (stp (pts l)) ts).length (chg (stp (pts l)) ts).length, .int .i64 0]) ∧ ts.Pairwise (· < ·) ∧ (∀ t, t ∈ ts ↔ t ∈ tms (pts l)) ∧ ts.length ≤ 2 * n ∧
    Rd w' w.heap.size w'.heap.size 2 A' (chg (stp (pts l)) ts).length (cells2 (chg (stp (pts l)) ts)) ∧ Below w.heap.size w w' ∧ TyB w' 76 A' (chg (stp (pts l)) ts).length

theorem upd_stp (l : List (Int × Int)) (a d : Int) : upd (upd (stp l) a (stp l a + 1)) (a + d) (upd (stp l) a (stp l a + 1) (a + d) - 1) = stp (l ++ [(a, d)]) := by
  funext t
  rw [stp_snoc]
  unfold upd
  by_cases h1 : t = a + d
  · subst h1
    by_cases h2 : a + d = a
    · have : d = 0 := by omega
      subst this; simp
    · rw [if_pos rfl, if_neg h2, if_neg h2, if_pos rfl]; omega
  · rw [if_neg h1, if_neg h1]
    by_cases h2 : t = a
    · subst h2; simp
    · rw [if_neg h2, if_neg h2]; omega
theorem upd_bd (l : List (Int × Int)) (a x : Int) : -(l.length : Int) ≤ upd (stp l) a (stp l a + 1) x ∧ upd (stp l) a (stp l a + 1) x ≤ l.length + 1 := by
  have h1 := stp_bd l a
  have h2 := stp_bd l x
  unfold upd; split <;> omega
theorem pts_length (l : List Smp) : (pts l).length = l.length := by simp [pts]

set_option maxHeartbeats 4000000 in
set_option maxRecDepth 100000 in
theorem Busy_ok (A : Option Addr) (n c : Nat) (l : List Smp) (w : World) (hr : SmpR w w.heap.size A n l) (hn : n ≤ maxLen) (hc : codeS n l = 0) :
    Calls Tryz.prog 11 #[.slice A n c] w (BPost n l w) := by
  obtain ⟨hn2, hfine⟩ := codeS_zero hc
  have hl := hr.len
  have HCK := Lib.hid (checkSamples_any A n c l w hr hn)
  rw [hc] at HCK
  have HR := Lib.hid hr
  have HL := Lib.hid hl
  have HF := Lib.hid hfine
  obtain ⟨i0, hi, hz0, hz1, hz2⟩ := info_parts Tryz.infoIn
  obtain ⟨i1, hi', hz0', hz1', hz2'⟩ := info_parts Tryz.infoCh
  clear hr hl hfine hc
  unfold maxLen at hn
  have hmm := @run_makeMap Tryz.prog
  go_enter Tryz.func11, Tryz.ntmps11
  go_wp2_with fail
  refine HCK.out.mono ?_
  rintro e w1 ⟨rfl, hb1⟩
  have hs1 := hb1.size
  have HB1 := Lib.hid hb1
  clear hb1 HCK
  go_wp2
  clear hmm
  go_loopw [6, 8, 21] (fun t _ i wr => ∃ v k, v = t ∧ i = .int .i64 (k : Nat) ∧ k ≤ n ∧ BL1 w wr w1.heap.size l v k) (fun _ _ i _ => n - (intOf i).toNat)
  case atStart =>
    refine ⟨.slice none 0 0, 0, rfl, rfl, Nat.zero_le _, ?_, ⟨by simp [ints, tms, pts], .inl ⟨rfl, rfl⟩⟩, HB1.out.alloc hs1 _, by simp⟩
    have := mapII_made w1
    have e : stp (pts (l.take 0)) = fun _ => 0 := by simp [pts, stp_nil]
    rw [e]; exact this
  case round =>
    obtain ⟨wo, hwo⟩ : ∃ wo : World, wo = wr := ⟨_, rfl⟩
    subst hwo
    obtain ⟨v, k, rfl, rfl, hk, hmap, hown, hbw, hM⟩ := hrel
    have hsw := hbw.size
    by_cases hlt : k < n
    · obtain ⟨bk, o, ⟨a, d, sA, sn, sc, lab, sf⟩, rfl, hbk, hs, c0, c1, c2, c3⟩ := (HR.out.below hbw (Nat.le_refl _)).at hlt
      simp only at c0 c1 c2 c3
      have hfi := HF.out _ (List.mem_of_getElem? hs)
      simp only at hfi
      have htk := pts_take l k _ hs
      simp only at htk
      have hlk : (pts (l.take k)).length = k := by rw [pts_length, List.length_take]; have := HL.out; omega
      have hbd := stp_bd (pts (l.take k)) a
      have hbd2 := upd_bd (pts (l.take k)) a (a + d)
      rw [hlk] at hbd hbd2
      have hne : bk ≠ wo.heap.size := by omega
      have hbl : bk < wo.heap.size := by omega
      have HTK := Lib.hid htk
      have HO := Lib.hid hown
      have HM := Lib.hid hmap
      have HBW := Lib.hid hbw
      obtain ⟨sm, hsm⟩ : ∃ sm, sm = Obj.cells #[.int .i64 a, .int .i64 d, .slice sA sn sc, .bool sf] 52 (0, 0) := ⟨_, rfl⟩
      have HSM := Lib.hid hsm
      have HSTA := Lib.hid (show St w ((wo.alloc (.cells #[.int .i64 a, .int .i64 d, .slice sA sn sc, .bool sf] 52)).alloc (.cells #[.int .i64 a, .int .i64 (a + d)] 3)) [(wo.heap.size, sm)] by
        rw [hsm]; exact ((show St w wo [] from ⟨hbw, fun i b o h => by simp at h⟩).alloc _ _ rfl).more _)
      have hnew : ∀ j u, [Value.int .i64 a, .int .i64 (a + d)][j]? = some u → ((wo.alloc (.cells #[.int .i64 a, .int .i64 d, .slice sA sn sc, .bool sf] 52)).alloc (.cells #[.int .i64 a, .int .i64 (a + d)] 3)).cell? ((⟨wo.heap.size + 1, 0, none⟩ : Addr).add j) = some u := by
        have := cell_two_new (wo.alloc (.cells #[.int .i64 a, .int .i64 d, .slice sA sn sc, .bool sf] 52)) (.int .i64 a) (.int .i64 (a + d)) 3
        simpa only [World.size_alloc] using this
      have HNEW := Lib.hid hnew
      have hwa : (Lit.int .i64 a).wf = true := wf_i64 (by omega) (by omega)
      have hwd : (Lit.int .i64 (a + d)).wf = true := wf_i64 (by omega) (by omega)
      clear htk hown hmap hbw hsm hnew hs
      go_wp2_with (at_builtin; refine wpList_append_own _ rfl (.tmp 25) (.tmp 33) 34 rfl (w1.heap.size + 1) 3 i0 _ 1 8 Tryz.underlying34 hi hz0 hz1 hz2 rfl (by decide) v _ _ rfl ((HO.out.alloc _).alloc _) ⟨wo.heap.size + 1, 0, none⟩ 2 2 [.int .i64 a, .int .i64 (a + d)] rfl rfl HNEW.out (by simp [Value.oneCell']) ?c3 ?c4 ?c5 ?_)
      case c3 => unfold maxLen; omega
      case c4 => omega
      case c5 => simp; omega
      intro v' w2 hown' hgrow _
      have hfg := Fr.of_grown hgrow
      have hs2 := hgrow.size
      simp only [World.size_alloc] at hs2
      have hown2 : ∀ i, some i = v.ownBlock → w1.heap.size + 1 ≤ i ∧ i < wo.heap.size := fun i hi => ownsRow_block HO.out hi
      have st2 : St w w2 [(wo.heap.size, sm)] := HSTA.out.fr hfg (fun i b ob hi hm => by
        have := List.mem_of_getElem? hi
        simp only [List.mem_singleton, Prod.mk.injEq] at this
        have := hown2 b hm
        omega) (fun i hi => by have := hown2 i hi; omega)
      have hm2 : MapII w2 w1.heap.size (2 * k) (stp (pts (l.take k))) :=
        mapII_fr (mapII_fr HM.out (((Fr.refl (fun _ => False) wo).alloc _).alloc _) (by simp)) hfg (fun h => by have := hown2 _ h; omega)
      obtain ⟨fa, hfa⟩ : ∃ fa, fa = stp (pts (l.take k)) a := ⟨_, rfl⟩
      have hlook := lookII_run hm2 a hwa
      obtain ⟨hput, hpm, hpg⟩ := putII_run hm2 (by omega) a (stp (pts (l.take k)) a + 1) hwa (wf_i64 (by omega) (by omega))
      obtain ⟨W3, hW3⟩ : ∃ W3, W3 = putII w1.heap.size a (stp (pts (l.take k)) a + 1) w2 := ⟨_, rfl⟩
      rw [← hW3] at hput hpm hpg
      have st3 := st2.grown hpg (by omega) (fun x hx => by simp only [List.mem_singleton] at hx; subst hx; simp; omega)
      have hlook2 := lookII_run hpm (a + d) hwd
      obtain ⟨hput2, hpm2, hpg2⟩ := putII_run hpm (by omega) (a + d) (upd (stp (pts (l.take k))) a (stp (pts (l.take k)) a + 1) (a + d) - 1) hwd (wf_i64 (by omega) (by omega))
      obtain ⟨W4, hW4⟩ : ∃ W4, W4 = putII w1.heap.size (a + d) (upd (stp (pts (l.take k))) a (stp (pts (l.take k)) a + 1) (a + d) - 1) W3 := ⟨_, rfl⟩
      rw [← hW4] at hput2 hpm2 hpg2
      have st4 := st3.grown hpg2 (by omega) (fun x hx => by simp only [List.mem_singleton] at hx; subst hx; simp; omega)
      rw [HSM.out] at st2 st3 st4
      have k20 : w2.cell? ⟨wo.heap.size, 0, none⟩ = some (.int .i64 a) := st2.cell 0 0 rfl rfl
      have k21 : w2.cell? ⟨wo.heap.size, 1, none⟩ = some (.int .i64 d) := st2.cell 0 1 rfl rfl
      have k30 : W3.cell? ⟨wo.heap.size, 0, none⟩ = some (.int .i64 a) := st3.cell 0 0 rfl rfl
      have k31 : W3.cell? ⟨wo.heap.size, 1, none⟩ = some (.int .i64 d) := st3.cell 0 1 rfl rfl
      have hrow4 : W4.ownsRow (w1.heap.size + 1) 3 1 v' (2 * k + 2) (ints (tms (pts (l.take k))) ++ [.int .i64 a, .int .i64 (a + d)]) :=
        ownsRow_fr (ownsRow_fr hown' (Fr.of_grown hpg) (fun i hi hm => by have := (ownsRow_block hown' hi).1; simp at hm; omega)) (Fr.of_grown hpg2) (fun i hi hm => by have := (ownsRow_block hown' hi).1; simp at hm; omega)
      have HREL := Lib.hid (show BL1 w W4 w1.heap.size l v' (k + 1) by
        refine ⟨?_, ?_, st4.below, by have := st4.lt 0 rfl; omega⟩
        · rw [HTK.out, ← upd_stp]; exact hpm2
        · rw [HTK.out, tms_snoc]
          rw [show 2 * (k + 1) = 2 * k + 2 by omega]
          simpa [ints] using hrow4)
      clear st2 st3 st4 hm2 hpm hpg hpm2 hpg2 hrow4 hown' hgrow hfg hW3 hW4 hfa
      generalize upd (stp (pts (l.take k))) a (stp (pts (l.take k)) a + 1) (a + d) = gb at *
      generalize stp (pts (l.take k)) a = fb at *
      go_wp2
      go_roundw
      case rel => exact ⟨_, k + 1, rfl, by go_num, by omega, HREL.out⟩
      case measure => simp [intOf]; omega
    · have htk : l.take k = l := List.take_of_length_le (by have := HL.out; omega)
      have hkn : k = n := by omega
      subst hkn
      rw [htk] at hmap hown
      have HS := Lib.hid (sort_any (w1.heap.size + 1) (2 * k) v (tms (pts l)) wo hown (by omega))
      have HO := Lib.hid hown
      have HM := Lib.hid hmap
      have HBW := Lib.hid hbw
      have hown2 : ∀ i, some i = v.ownBlock → w1.heap.size + 1 ≤ i ∧ i < wo.heap.size := fun i hi => ownsRow_block HO.out hi
      have HOWN2 := Lib.hid hown2
      clear htk hmap hown hbw hown2
      obtain ⟨Av, cv, rfl, hcv, hcm, hAv⟩ := ownsRow_shape HO.out
      go_wp2_with fail
      refine HS.out.mono ?_
      rintro e w2 ⟨rfl, hf2, hh2⟩
      clear HS
      have hs2 := hf2.size
      have HCO := Lib.hid (compact_own (w1.heap.size + 1) (2 * k) cv Av (tms (pts l)) wo w2 HO.out hf2 hh2 (by omega))
      have HF2 := Lib.hid hf2
      clear hh2 hf2
      go_wp2_with fail
      refine HCO.out.mono ?_
      rintro e W5 ⟨ts, rfl, hf5, hrd5, hso, hmem, htl⟩
      clear HCO
      have hs5 := hf5.size
      have hnM : ¬ some w1.heap.size = (Value.slice Av (2 * k) cv).ownBlock := fun h => by have := HOWN2.out _ h; omega
      have HM5 := Lib.hid (mapII_fr (mapII_fr HM.out HF2.out hnM) hf5 hnM)
      have HB5 := Lib.hid (show Below w.heap.size w W5 from HBW.out.trans ((Fr.trans HF2.out hf5 (fun i _ h => h)).below hsw (fun i hi hm => by have := HOWN2.out _ hm; omega)))
      have hm' : ∀ s ∈ pts l, s.1 ∈ ts ∧ s.1 + s.2 ∈ ts := fun s hs => ⟨(hmem _).2 (mem_tms.2 ⟨s, hs, .inl rfl⟩), (hmem _).2 (mem_tms.2 ⟨s, hs, .inr rfl⟩)⟩
      have hp0 : ∀ s ∈ pts l, 0 ≤ s.1 ∧ s.1 ≤ 1000000000000 ∧ 0 ≤ s.2 ∧ s.2 ≤ 1000000000000 := by
        intro s hs
        simp only [pts, List.mem_map] at hs
        obtain ⟨x, hx, rfl⟩ := hs
        exact HF.out x hx
      have HLV := Lib.hid (lvl_bd ts hso (pts l) (fun s hs => (hp0 s hs).2.2.1) hm')
      have hwt : ∀ t ∈ ts, (Lit.int .i64 t).wf = true := by
        intro t ht
        obtain ⟨s, hs, e⟩ := mem_tms.1 ((hmem t).1 ht)
        have := hp0 s hs
        exact wf_i64 (by omega) (by omega)
      have HWT := Lib.hid hwt
      have HRD5 := Lib.hid hrd5
      have HSO := Lib.hid hso
      have HME := Lib.hid hmem
      have hpl : (pts l).length = k := (pts_length l).trans HL.out
      clear hm' hp0 hwt hrd5 hso hmem hf5 hnM
      rw [hpl] at HLV
      unfold maxLen at hcm
      go_wp2
      go_loopw [9, 10, 12, 54] (fun out nn _ i wr => ∃ v2 j, v2 = out ∧ i = .int .i64 (j : Nat) ∧ nn = .int .i64 (sm (stp (pts l)) (ts.take j)) ∧ j ≤ ts.length ∧ BL2 W5 wr l ts v2 j) (fun _ _ _ i _ => ts.length - (intOf i).toNat)
      case atStart => exact ⟨.slice none 0 0, 0, rfl, rfl, rfl, Nat.zero_le _, ⟨by simp [cells2, chg], .inl ⟨rfl, by simp [chg]⟩⟩, Fr.refl _ _⟩
      case round =>
        obtain ⟨v2, j, rfl, rfl, rfl, hj, hown, hf⟩ := hrel
        have hsz := hf.size
        have hlv := HLV.out j
        have hcl := chg_length (stp (pts l)) (ts.take j)
        rw [List.length_take] at hcl
        have HO2 := Lib.hid hown
        have HFW := Lib.hid hf
        clear hown hf
        by_cases hjl : j < ts.length
        · have hr' : Rd wr (w1.heap.size + 1) wo.heap.size 1 Av ts.length (ints ts) := HRD5.out.fr HFW.out (by omega) (fun i _ hi h => by omega)
          obtain ⟨bk, o, u, rfl, hbk, hu, cell⟩ := hr'.at1 hjl
          obtain ⟨t, ht, rfl⟩ := ints_get hu
          have htk : ts.take (j + 1) = ts.take j ++ [t] := by rw [List.take_add_one, ht]; rfl
          have hlv2 := HLV.out (j + 1)
          rw [htk, sm_snoc] at hlv2
          have hmp := mapII_fr HM5.out HFW.out (by omega)
          have hlook := fun W (hW : MapII W w1.heap.size (2 * k) (stp (pts l))) => lookII_run hW t (HWT.out t (List.mem_of_getElem? ht))
          have hlook := hlook _ hmp
          have HST := Lib.hid (chg_step (stp (pts l)) (ts.take j) t)
          have HSM := Lib.hid (sm_snoc (stp (pts l)) t (ts.take j))
          have HTK := Lib.hid htk
          clear hr' hu ht htk hmp
          generalize hft : stp (pts l) t = ft at *
          generalize hsj : sm (stp (pts l)) (ts.take j) = sj at *
          by_cases h0 : ft = 0
          · have tn : (ft != 0) = false := by simp [h0]
            go_wp2
            go_roundw
            case rel =>
              refine ⟨v2, j + 1, rfl, by go_num, ?_, by omega, ?_, HFW.out⟩
              · rw [HTK.out, HSM.out, h0, Int.add_zero]
              · rw [HTK.out, HST.out, if_pos h0]; exact HO2.out
            case measure => simp [intOf]; omega
          · have tn : (ft != 0) = true := by simp [h0]
            go_wp2_with (at_builtin; refine wpList_append_own _ rfl (.tmp 67) (.tmp 71) 38 rfl W5.heap.size 76 i1 _ 2 16 Tryz.underlying38 hi' hz0' hz1' hz2' rfl (by decide) v2 _ _ rfl (HO2.out.alloc _) ⟨wr.heap.size, 0, none⟩ 1 1 [.int .i64 t, .int .i64 (sj + ft)] rfl rfl (cell_two_new _ _ _ _) (by simp [Value.oneCell']) ?c3 ?c4 ?c5 ?_)
            case c3 => unfold maxLen; omega
            case c4 => omega
            case c5 => simp; omega
            intro v' w3 hown' hgrow _
            have HREL := Lib.hid (show BL2 W5 w3 l ts v' (j + 1) by
              refine ⟨?_, ?_⟩
              · rw [HTK.out, HST.out, if_neg h0, cells2_append, HSM.out]
                simpa [cells2] using hown'
              · exact Fr.trans (HFW.out.alloc _) (Fr.of_grown hgrow) (fun i _ hi => (ownsRow_block HO2.out hi).1))
            clear hown' hgrow
            go_wp2
            go_roundw
            case rel => exact ⟨v', j + 1, rfl, by go_num, by rw [HTK.out, HSM.out], by omega, HREL.out⟩
            case measure => simp [intOf]; omega
        · have htk : ts.take j = ts := List.take_of_length_le (by omega)
          rw [htk] at HO2
          obtain ⟨A2, cap2, rfl, hnc2, hcm2, hA2⟩ := ownsRow_shape HO2.out
          have HCL := Lib.hid (clip_change A2 (chg (stp (pts l)) ts).length cap2 wr hnc2 hcm2 hA2)
          clear htk hA2
          unfold maxLen at hcm2
          go_wp2_with fail
          refine HCL.out.mono ?_
          rintro e w' ⟨rfl, rfl⟩
          clear HCL
          go_wp2
          go_ret2
          refine ⟨A2, ts, rfl, HSO.out, HME.out, htl, (Rd.of_own HO2.out).more (by omega) (Nat.le_refl _), ?_, TyB.of_own HO2.out⟩
          exact HB5.out.trans (HFW.out.below (by omega) (fun i hi h => by omega))

set_option maxHeartbeats 1000000 in
set_option maxRecDepth 100000 in
theorem Busy_bad (A : Option Addr) (n c : Nat) (l : List Smp) (w : World) (hr : SmpR w w.heap.size A n l) (hn : n ≤ maxLen) (hc : codeS n l ≠ 0) :
    Calls Tryz.prog 11 #[.slice A n c] w fun e w' => e = .returned (.tuple #[.slice none 0 0, .int .i64 (codeS n l)]) ∧ Below w.heap.size w w' := by
  have HCK := Lib.hid (checkSamples_any A n c l w hr hn)
  obtain ⟨cd, hcd⟩ : ∃ cd, cd = codeS n l := ⟨_, rfl⟩
  rw [← hcd] at hc HCK ⊢
  clear hcd hr hn
  have tc : (cd == 0) = false := by simpa using hc
  have tc' : (cd != 0) = true := by simpa using hc
  go_enter Tryz.func11, Tryz.ntmps11
  go_wp2_with fail
  refine HCK.out.mono ?_
  rintro e w1 ⟨rfl, hb1⟩
  clear HCK
  go_wp2
  go_ret2
  exact ⟨rfl, hb1⟩
end Go.Proofs.YtjkoppdddaknlaaGreatDoor
