/- MeasureBytesMatchSpec: its walk. -/
import Derived.Test.YtgmbgclhljobaaaDoorBack
import Derived.Test.YtgmbgclhljobaaaDoorLawMerge
namespace Go.Proofs.YtgmbgclhljobaaaDoor
open Go Go.RowKit Go.Proofs Go.Maps

/-- string(b) of bytes that read so -/
theorem conv_rd {w : World} {L B : Nat} {A : Option Addr} {c : Nat} {l : List UInt8} (hr : Rd w L B 1 A l.length (Lib.byteCells l)) (hA : A = none → l.length = 0 ∧ c = 0) (hsp : ∀ a, A = some a → ∃ b o, a = ⟨b, o, none⟩) :
    (convert 42 9 (.slice A l.length c)).run Tryd.prog w = .ok (.string ⟨l.toArray⟩) w := by
  cases A with
  | none =>
    obtain ⟨h1, rfl⟩ := hA rfl
    obtain rfl : l = [] := List.eq_nil_of_length_eq_zero h1
    exact Lib.run_convert_nil_bytes w 42 9 5 0 Tryd.underlying42 Tryd.underlying5 Tryd.underlying9
  | some a =>
    obtain ⟨g, o, rfl⟩ := hsp a rfl
    have hby : Lib.Bytes w g o ⟨l.toArray⟩ := by
      intro i hi
      have hi' : i < l.length := by simpa [ByteArray.size] using hi
      obtain ⟨b', o', e, _, _, hc⟩ := hr.2 (by omega)
      simp only [Option.some.injEq, Addr.mk.injEq] at e
      obtain ⟨rfl, rfl, _⟩ := e
      have hg : (Lib.byteCells l)[i]? = some (.int .u8 (l[i].toNat : Int)) := by
        unfold Lib.byteCells; rw [List.getElem?_map, List.getElem?_eq_getElem hi']; rfl
      rw [show (⟨l.toArray⟩ : ByteArray)[i] = l[i] from rfl]
      exact hc i _ hg
    have := Lib.run_convert_whole (P := Tryd.prog) w 42 5 9 Tryd.underlying42 Tryd.underlying5 Tryd.underlying9 g o ⟨l.toArray⟩ hby c
    have hsz : (⟨l.toArray⟩ : ByteArray).size = l.length := by simp [ByteArray.size]
    rw [hsz] at this
    exact this
/-- the bytes that are told -/
def bytesOf (L : List UInt8) (C : Int) : List UInt8 := if C = 0 then L else []
theorem codeF_i64 (u : Int → Int → Int) (l : List UInt8) (h : ∀ c ∈ listF u l, True) : I64 (codeF u l) := by
  cases l with
  | nil => show I64 16; unfold I64; omega
  | cons x r =>
    rw [codeF_cons]
    have h1 := rdN_code r 0 0
    have h2 : ∀ (f : Nat) (cnt last : Int) (l : List UInt8), (prs u f cnt last l).1 = 0 ∨ (prs u f cnt last l).1 = 2 ∨ (prs u f cnt last l).1 = 16 := by
      intro f
      induction f with
      | zero => intro _ _ _; simp [prs]
      | succ f ih =>
        intro cnt last l
        have g1 := rdN_code l 0 0
        have g2 := rdN_code (rdN 0 0 l).2.2 0 0
        unfold prs
        split
        · simp
        · split
          · exact g1
          · split
            · exact g2
            · exact ih _ _ _
    have h3 : (prsL u r).1 = 0 ∨ (prsL u r).1 = 2 ∨ (prsL u r).1 = 16 := h2 _ _ _ _
    have h4 := codeH_val x.toNat (prsL u r).2.1
    unfold I64
    repeat' split
    all_goals omega
theorem good_listF {u : Int → Int → Int} {l : List UInt8} (h : codeF u l = 0) : Good (bitsF l) (listF u l) := by
  obtain ⟨x, r, rfl, _, _, _, h4⟩ := codeF_zero h
  exact codeH_zero h4
theorem told_listF {u : Int → Int → Int} {l : List UInt8} (h : codeF u l = 0) : ∀ cs, IsHist (sumAt id (listF u l)) cs → (∀ c ∈ cs, I64 c.1 ∧ I64 c.2) ∧ cs.length ≤ 100000000 := by
  intro cs hh
  rw [IsHist.uniq hh (good_listF h).hist]
  exact hist_tell (good_listF h)
theorem sum_listF (l : List UInt8) : inkOf (bitsF l) (sumAt id (listF uR l)) (codeF uR l) = inkOf (bitsF l) (sumAt id (listF uP l)) (codeF uP l) := by
  rw [← codeF_same]
  by_cases h : codeF uP l = 0
  · rw [listF_same h]
  · unfold inkOf
    rw [if_neg h, if_neg h]

attribute [local go_sem ↓] Go.wp_at_zero Go.wp_at_succ

set_option maxHeartbeats 8000000 in
set_option maxRecDepth 100000 in
theorem law_bytes (b : Int) (A Ab : Option Addr) (c cb : Nat) (cs : List (Int × Int)) (l : List UInt8) (w : World) (ht : Tab w.heap.size w) (hr : Rd w 0 w.heap.size 2 A cs.length (cells2 cs)) (hn : cs.length < 9223372036854775807) (hcx : ∀ c ∈ cs, c.1 ≤ 9223372036854775807)
    (hrb : Rd w 0 w.heap.size 1 Ab l.length (Lib.byteCells l)) (hl : l.length ≤ 2000000) (hlc : l.length ≤ cb) (hcb : cb ≤ maxLen) :
    Calls Tryd.prog 9 #[.agg #[.int .i64 b, .slice A cs.length c], .slice Ab l.length cb] w fun e w' => e = .returned (.bool true) ∧ Below w.heap.size w w' := by
  obtain ⟨W0, hW0⟩ : ∃ W0, W0 = (w).alloc (.cells #[Value.int .i64 b, Value.slice A cs.length c] 24) := ⟨_, rfl⟩
  have st0 : St w W0 [(w.heap.size, Obj.cells #[Value.int .i64 b, Value.slice A cs.length c] 24 (0, 0))] := by rw [hW0]; exact (St.start w).alloc _ _ (by simp)
  have hs0 : W0.heap.size = w.heap.size + 1 := by rw [hW0]; simp
  have hsz0 : w.heap.size + 1 ≤ W0.heap.size := by omega
  have HST0 := Lib.hid st0
  have HS0 := Lib.hid hs0
  have HB1 := Lib.hid (Bytes_any b A c cs W0 (hr.old st0.below) hn)
  have HT := Lib.hid ht
  have HR := Lib.hid hr
  have HRB := Lib.hid hrb
  have HCX := Lib.hid hcx
  clear ht hr hrb hcx
  clear st0 hs0
  go_enter Tryd.func9, Tryd.ntmps9
  go_wp2_with fail
  rw [← hW0]
  clear hW0
  refine HB1.out.mono ?_
  rintro e w1 ⟨A1, n1, c1, rfl, hs1, hz1, hA1, hnc1, hcm1, hb1⟩
  have HS1 := Lib.hid hs1
  have HZ1 := Lib.hid hz1
  have HA1 := Lib.hid hA1
  have HCM1 := Lib.hid hcm1
  have HBW1 := Lib.hid hb1
  clear hs1 hz1 hA1 hcm1
  have HST1 := Lib.hid (HST0.out.call hb1)
  have hsz1 := hb1.size
  clear hb1
  have k0_0 : w1.cell? ⟨w.heap.size, 0, none⟩ = some (Value.int .i64 b) := HST1.out.cell 0 0 rfl rfl
  have k0_1 : w1.cell? ⟨w.heap.size, 1, none⟩ = some (Value.slice A cs.length c) := HST1.out.cell 0 1 rfl rfl
  have l0_ : w.heap.size < w1.heap.size := HST1.out.lt 0 rfl
  have HB2 := Lib.hid (RBytes_any b A c cs w1 (HR.out.old HST1.out.below) hn HCX.out)
  go_wp2_with fail
  refine HB2.out.mono ?_
  rintro e w2 ⟨A2, n2, c2, rfl, hs2, hz2, hA2, hnc2, hcm2, hb2⟩
  have HS2 := Lib.hid hs2
  have HZ2 := Lib.hid hz2
  have HA2 := Lib.hid hA2
  have HBW2 := Lib.hid hb2
  clear hs2 hz2 hA2 hcm2
  have HST2 := Lib.hid (HST1.out.call hb2)
  have hsz2 := hb2.size
  clear k0_0 k0_1 l0_
  clear hb2
  have k0_0 : w2.cell? ⟨w.heap.size, 0, none⟩ = some (Value.int .i64 b) := HST2.out.cell 0 0 rfl rfl
  have k0_1 : w2.cell? ⟨w.heap.size, 1, none⟩ = some (Value.slice A cs.length c) := HST2.out.cell 0 1 rfl rfl
  have l0_ : w.heap.size < w2.heap.size := HST2.out.lt 0 rfl
  obtain ⟨S, hS⟩ : ∃ S, S = bytesOf (encH b cs) (codeH b cs) := ⟨_, rfl⟩
  have r1 : n1 = S.length ∧ Rd w2 0 w2.heap.size 1 A1 n1 (Lib.byteCells S) := by
    rw [hS]; unfold bytesOf
    by_cases h0 : codeH b cs = 0
    · rw [if_pos h0]
      obtain ⟨e, h⟩ := HS1.out h0
      exact ⟨e, (h.more (Nat.zero_le _) (Nat.le_refl _)).old HBW2.out⟩
    · rw [if_neg h0]
      obtain ⟨_, e, _⟩ := HZ1.out h0
      rw [e]; exact ⟨rfl, Rd.nil⟩
  have r2 : n2 = S.length ∧ Rd w2 0 w2.heap.size 1 A2 n2 (Lib.byteCells S) := by
    rw [hS]; unfold bytesOf
    by_cases h0 : codeH b cs = 0
    · rw [if_pos h0]
      obtain ⟨e, h⟩ := HS2.out h0
      exact ⟨e, h.more (Nat.zero_le _) (Nat.le_refl _)⟩
    · rw [if_neg h0]
      obtain ⟨_, e, _⟩ := HZ2.out h0
      rw [e]; exact ⟨rfl, Rd.nil⟩
  obtain ⟨e1, r1⟩ := r1
  obtain ⟨e2, r2⟩ := r2
  subst n1 n2
  have HSS := Lib.hid hS
  have HR1 := Lib.hid r1
  have sp1 : S.length = 0 → codeH b cs ≠ 0 := by
    intro h h0
    rw [hS] at h; unfold bytesOf at h; rw [if_pos h0] at h
    simp [encH] at h
  have spA : ∀ (X : Option Addr) (cX : Nat) (wX : World), Rd wX 0 wX.heap.size 1 X S.length (Lib.byteCells S) → (codeH b cs ≠ 0 → X = none) → ∀ a, X = some a → ∃ b o, a = ⟨b, o, none⟩ := by
    intro X cX wX hX hz a ha
    rcases Nat.eq_zero_or_pos S.length with h | h
    · have := hz (sp1 h); rw [this] at ha; cases ha
    · obtain ⟨b', o', e, _⟩ := hX.2 h
      rw [ha] at e; injection e with e; exact ⟨b', o', e⟩
  have cv1 := conv_rd (c := c1) r1 HA1.out (spA A1 c1 w2 r1 (fun h => (HZ1.out h).1))
  have cv2 := conv_rd (c := c2) r2 HA2.out (spA A2 c2 w2 r2 (fun h => (HZ2.out h).1))
  have HT2 := Lib.hid (show Tab w2.heap.size w2 from (HT.out.on HST2.out.below).mono HST2.out.below.size)
  have HF := Lib.hid (show Makes 29 #[.slice Ab l.length cb] (codeF uP l) (inkOf (bitsF l) (sumAt id (listF uP l)) (codeF uP l)) w2 from
    makes_of HT2.out (codeF_i64 uP l (fun _ _ => trivial)) (fun h => I64_good (good_listF h)) told_listF (fun w' hb' => FromBytes_any Ab cb l w' (HRB.out.old (HST2.out.old hb')) hlc hcb hl))
  have hRF : Makes 30 #[.slice Ab l.length cb] (codeF uR l) (inkOf (bitsF l) (sumAt id (listF uR l)) (codeF uR l)) w2 :=
    makes_of HT2.out (codeF_i64 uR l (fun _ _ => trivial)) (fun h => I64_good (good_listF h)) told_listF (fun w' hb' => RFromBytes_any Ab cb l w' (HRB.out.old (HST2.out.old hb')) hl)
  rw [sum_listF] at hRF
  have HRF := Lib.hid hRF
  clear hRF r1 r2 hS sp1 spA
  go_wp2_with fail
  clear cv1 cv2
  refine (HF.out _ (Below.refl _ _)).mono ?_
  rintro e wA ⟨vA, rfl, htA, hbA⟩
  have HTA := Lib.hid htA
  have HBA := Lib.hid hbA
  clear htA hbA
  clear k0_0 k0_1 l0_
  go_wp2_with fail
  refine (HTA.out _ (Below.refl _ _)).mono ?_
  rintro e wB ⟨rfl, hbB⟩
  have HBB := Lib.hid (below_next HBA.out hbB)
  clear hbB
  go_wp2_with fail
  refine (HRF.out _ HBB.out).mono ?_
  rintro e wC ⟨vC, rfl, htC, hbC⟩
  have HTC := Lib.hid htC
  have HBC := Lib.hid (below_next HBB.out hbC)
  clear htC hbC
  go_wp2_with fail
  refine (HTC.out _ (Below.refl _ _)).mono ?_
  rintro e wD ⟨rfl, hbD⟩
  have HBD := Lib.hid (below_next HBC.out hbD)
  have hszD := HBD.out.size
  clear hbD
  have HST3 := Lib.hid (HST2.out.call HBD.out)
  have k0_0 : wD.cell? ⟨w.heap.size, 0, none⟩ = some (Value.int .i64 b) := HST3.out.cell 0 0 rfl rfl
  have k0_1 : wD.cell? ⟨w.heap.size, 1, none⟩ = some (Value.slice A cs.length c) := HST3.out.cell 0 1 rfl rfl
  have l0_ : w.heap.size < wD.heap.size := HST3.out.lt 0 rfl
  by_cases h0 : codeH b cs = 0
  · have h0' : (codeH b cs == 0) = true := by simp [h0]
    have hg := codeH_zero h0
    obtain ⟨k1, k2, k3⟩ := back hg
    have hSe : S = encH b cs := by rw [HSS.out]; unfold bytesOf; rw [if_pos h0]
    have hel := encH_length hg
    have hF2 := FromBytes_any A1 c1 S wD (HR1.out.old HBD.out) hnc1 HCM1.out (by rw [hSe]; omega)
    rw [hSe, k1, k2, k3, ← hSe] at hF2
    have HF2 := Lib.hid (hF2.mono (fun e w' h => h.form))
    have HG := Lib.hid hg
    have HTD := Lib.hid (show Tab wD.heap.size wD from (HT2.out.on HBD.out).mono HBD.out.size)
    clear h0 hg k1 k2 k3 hSe hF2
    go_wp2_with fail
    refine HF2.out.mono ?_
    rintro e w7 ⟨b7, A7, n7, c7, rfl, hs7, hz7, hb7⟩
    have HS7 := Lib.hid hs7
    have HZ7 := Lib.hid hz7
    clear hs7 hz7
    clear k0_0 k0_1 l0_
    obtain ⟨W7, hW7⟩ : ∃ W7, W7 = w7.alloc (.cells #[Value.int .i64 b7, Value.slice A7 n7 c7] 24) := ⟨_, rfl⟩
    have hsz7 := hb7.size
    have hszW7 : w7.heap.size + 1 ≤ W7.heap.size := by rw [hW7]; simp
    have HBW7 := Lib.hid (show Below wD.heap.size wD W7 by rw [hW7]; exact below_next hb7 ((Below.refl _ w7).alloc (Nat.le_refl _) _))
    have HBX7 := Lib.hid (show Below w7.heap.size w7 W7 by rw [hW7]; exact (Below.refl _ w7).alloc (Nat.le_refl _) _)
    have HSTw7 := Lib.hid (HST3.out.call hb7)
    have k0_0 : w7.cell? ⟨w.heap.size, 0, none⟩ = some (Value.int .i64 b) := HSTw7.out.cell 0 0 rfl rfl
    have k0_1 : w7.cell? ⟨w.heap.size, 1, none⟩ = some (Value.slice A cs.length c) := HSTw7.out.cell 0 1 rfl rfl
    have l0_ : w.heap.size < w7.heap.size := HSTw7.out.lt 0 rfl
    have HSTb7 := Lib.hid (show St w W7 [(w.heap.size, Obj.cells #[Value.int .i64 b, Value.slice A cs.length c] 24 (0, 0)), (w7.heap.size, Obj.cells #[Value.int .i64 b7, Value.slice A7 n7 c7] 24 (0, 0))] by rw [hW7]; exact HSTw7.out.alloc _ _ rfl)
    clear hb7
    obtain ⟨cs7, hh7, e1, e2, hr7⟩ := HS7.out (by trivial)
    subst b7 n7
    obtain rfl := IsHist.uniq hh7 HG.out.hist
    have HT7 := Lib.hid (show Tab W7.heap.size W7 from (HT.out.on HSTb7.out.below).mono HSTb7.out.below.size)
    have i00 : I64 0 := by unfold I64; omega
    have TZ := Lib.hid (show TellsAs (.agg #[.int .i64 b, .slice A7 cs7.length c7]) 0 (inkHist b cs7 ++ inkInt 0) W7 from tells_of HT7.out ⟨A7, c7, rfl, ((hr7.more (Nat.zero_le _) (Nat.le_refl _)).old HBX7.out)⟩ (I64_good HG.out) i00 (hist_tell HG.out).1 (hist_tell HG.out).2)
    have TH := Lib.hid (show TellsAs (.agg #[.int .i64 b, .slice A cs7.length c]) 0 (inkHist b cs7 ++ inkInt 0) W7 from tells_of HT7.out ⟨A, c, rfl, HR.out.old HSTb7.out.below⟩ (I64_good HG.out) i00 (hist_tell HG.out).1 (hist_tell HG.out).2)
    clear hh7 hr7 HS7 HZ7
    go_wp2
    rw [← hW7]
    clear hW7
    clear k0_0 k0_1 l0_
    have HKS := Lib.hid (show ∀ w', Below W7.heap.size W7 w' → w'.cell? ⟨w.heap.size, 0, none⟩ = some (Value.int .i64 b) ∧ w'.cell? ⟨w.heap.size, 1, none⟩ = some (Value.slice A cs7.length c) ∧ w'.cell? ⟨w7.heap.size, 0, none⟩ = some (Value.int .i64 b) ∧ w'.cell? ⟨w7.heap.size, 1, none⟩ = some (Value.slice A7 cs7.length c7) ∧ Below W7.heap.size W7 w' from fun w' hb => ⟨(HSTb7.out.call hb).cell 0 0 rfl rfl, (HSTb7.out.call hb).cell 0 1 rfl rfl, (HSTb7.out.call hb).cell 1 0 rfl rfl, (HSTb7.out.call hb).cell 1 1 rfl rfl, hb⟩)
    have k0_0 : W7.cell? ⟨w.heap.size, 0, none⟩ = some (Value.int .i64 b) := HSTb7.out.cell 0 0 rfl rfl
    have k0_1 : W7.cell? ⟨w.heap.size, 1, none⟩ = some (Value.slice A cs7.length c) := HSTb7.out.cell 0 1 rfl rfl
    have l0_ : w.heap.size < W7.heap.size := HSTb7.out.lt 0 rfl
    have k1_0 : W7.cell? ⟨w7.heap.size, 0, none⟩ = some (Value.int .i64 b) := HSTb7.out.cell 1 0 rfl rfl
    have k1_1 : W7.cell? ⟨w7.heap.size, 1, none⟩ = some (Value.slice A7 cs7.length c7) := HSTb7.out.cell 1 1 rfl rfl
    have l1_ : w7.heap.size < W7.heap.size := HSTb7.out.lt 1 rfl
    go_region_held3 (fun w' => w'.cell? ⟨w.heap.size, 0, none⟩ = some (Value.int .i64 b) ∧ w'.cell? ⟨w.heap.size, 1, none⟩ = some (Value.slice A cs7.length c) ∧ w'.cell? ⟨w7.heap.size, 0, none⟩ = some (Value.int .i64 b) ∧ w'.cell? ⟨w7.heap.size, 1, none⟩ = some (Value.slice A7 cs7.length c7) ∧ Below W7.heap.size W7 w')
      (first
        | exact HKS.out _ (Below.refl _ W7).drew
        | (go_split_ands; refine HKS.out _ (below_next ?_ hbT); assumption)
        | (go_split_ands; refine HKS.out _ (below_next ?_ hbR); assumption))
      (first
        | (go_at_call_of 13 (Value.agg #[.int .i64 b, .slice A7 cs7.length c7]); refine (TZ.out _ ?_).mono ?_; (go_split_ands; assumption); rintro e wR ⟨rfl, hbR⟩)
        | (go_at_call_of 13 (Value.agg #[.int .i64 b, .slice A cs7.length c]); refine (TH.out _ ?_).mono ?_; (go_split_ands; assumption); rintro e wT ⟨rfl, hbT⟩))
    have hbel31 : Below W7.heap.size W7 wT := by go_split_ands; assumption
    have HST31 := Lib.hid (HSTb7.out.call hbel31)
    have hsz31 := hbel31.size
    clear k0_0 k0_1 l0_ k1_0 k1_1 l1_
    have HBEL31 := Lib.hid hbel31
    clear hbel31
    have k0_0 : wT.cell? ⟨w.heap.size, 0, none⟩ = some (Value.int .i64 b) := HST31.out.cell 0 0 rfl rfl
    have k0_1 : wT.cell? ⟨w.heap.size, 1, none⟩ = some (Value.slice A cs7.length c) := HST31.out.cell 0 1 rfl rfl
    have l0_ : w.heap.size < wT.heap.size := HST31.out.lt 0 rfl
    have k1_0 : wT.cell? ⟨w7.heap.size, 0, none⟩ = some (Value.int .i64 b) := HST31.out.cell 1 0 rfl rfl
    have k1_1 : wT.cell? ⟨w7.heap.size, 1, none⟩ = some (Value.slice A7 cs7.length c7) := HST31.out.cell 1 1 rfl rfl
    have l1_ : w7.heap.size < wT.heap.size := HST31.out.lt 1 rfl
    clear hbR hbT HKS
    go_wp2_with (go_at_call 12; refine (counts_any _).mono ?_; rintro e wK ⟨rfl, hbK⟩)
    go_ret
    exact ⟨rfl, HST31.out.old hbK⟩
  · have h0' : (codeH b cs == 0) = false := by simp [h0]
    clear h0
    go_wp2_with (go_at_call 12; refine (counts_any _).mono ?_; rintro e wK ⟨rfl, hbK⟩)
    go_ret
    exact ⟨rfl, HST3.out.old hbK⟩
end Go.Proofs.YtgmbgclhljobaaaDoor
