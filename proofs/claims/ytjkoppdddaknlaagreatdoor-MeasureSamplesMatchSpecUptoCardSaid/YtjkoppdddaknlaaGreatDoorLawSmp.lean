/- MeasureSamplesMatchSpec: the law's walk. -/
import Derived.Test.YtjkoppdddaknlaaGreatDoorG40
import Derived.Test.YtjkoppdddaknlaaGreatDoorG44
namespace Go.Proofs.YtjkoppdddaknlaaGreatDoor
open Go Go.RowKit Go.Proofs

theorem GrR.onB {w w' : World} {A : Option Addr} {l : List RowX} (h : GrR w A l) (hb : Below w.heap.size w w') : GrR w' A l :=
  ⟨(h.1.below hb (Nat.le_refl _)).more (Nat.le_refl _) hb.size, fun r hr => ⟨((h.2 r hr).1.below hb (Nat.le_refl _)).more (Nat.le_refl _) hb.size, ((h.2 r hr).2.below hb (Nat.le_refl _)).more (Nat.le_refl _) hb.size⟩⟩
/-- all below the Inks stays -/
theorem InkFc.belowN {K base B : Nat} {w w' w0 : World} (h : InkFc K base w w') (hb : Below B w0 w) (hB : B ≤ w.heap.size) (hK : B ≤ K) (hKb : K < base) : Below B w0 w' :=
  hb.trans (h.toFr.below hB (fun i hi hm => by rcases hm with e | ⟨e, _⟩ <;> omega))
theorem codeS_i64 (n : Nat) (l : List Smp) : I64 (codeS n l) := by
  unfold codeS
  split
  · unfold I64; omega
  · cases h : l.find? (fun s => codeSmp s != 0) with
    | none => unfold I64; simp
    | some s =>
      simp only [Option.map_some, Option.getD_some]
      unfold codeSmp codeL
      split
      · unfold I64; omega
      · split <;> (unfold I64; omega)
theorem codeG_i64 (n : Nat) (l : List Smp) (keys : List ByteArray) : I64 (codeG n l keys) := by
  unfold codeG
  split
  · exact codeS_i64 n l
  · split
    · unfold I64; omega
    · split <;> (unfold I64; omega)
theorem codeWst_i64 (n : Nat) (k : Int) (l : List Smp) : I64 (codeWst n n k l) := by
  unfold codeWst
  split
  · exact codeS_i64 n l
  · split <;> (unfold I64; omega)
set_option maxHeartbeats 8000000 in
set_option maxRecDepth 100000 in
theorem lawSmp_any (A Ak : Option Addr) (n c ck : Nat) (l : List Smp) (keys : List ByteArray) (k : Int) (w : World) (htab : Tab w.heap.size w) (hr : SmpR w w.heap.size A n l) (hn : n ≤ maxLen) (hk : Rd w 0 w.heap.size 1 Ak keys.length (strC keys)) (hkl : keys.length ≤ maxLen) (hck : keys.length ≤ ck)
    (hlb : ∀ s ∈ l, ∀ p ∈ s.lab, p.2.size ≤ 1048576) (hki : -9223372036854775808 ≤ k ∧ k ≤ 9223372036854775807) :
    Calls Tryz.prog 3 #[.slice A n c, .slice Ak keys.length ck, .int .i64 k] w fun e w' => e = .returned (.bool true) ∧ Below w.heap.size w w' := by
  have hlab : ∀ s ∈ l, ∀ nm, (labV s.lab nm).size ≤ maxLen := fun s hs nm => Nat.le_trans (labV_size (hlb s hs)) (by decide)
  have HG := Lib.hid (fun W (hW : Below w.heap.size w W) => (group_any A Ak n c ck l keys W (hr.old hW) hn ((hk.below hW (Nat.le_refl _)).more (Nat.le_refl _) hW.size) hkl hck hlab).mono fun e w' h => grp_val h)
  have HRG := Lib.hid (fun W (hW : Below w.heap.size w W) => (rgroup_any A Ak n c ck l keys W (hr.old hW) hn ((hk.below hW (Nat.le_refl _)).more (Nat.le_refl _) hW.size) hkl).mono fun e w' h => grp_val h)
  have HW := Lib.hid (fun W (hW : Below w.heap.size w W) => (worst_any A n c k l W (hr.old hW) hn hki).mono fun e w' h => wst_val h)
  have HRW := Lib.hid (fun W (hW : Below w.heap.size w W) => (rworst_any A n c k l W (hr.old hW) hn hki).mono fun e w' h => wst_val h)
  have HBU := Lib.hid (fun W (hW : Below w.heap.size w W) => busy_any A n c l W (hr.old hW) hn)
  have HRB := Lib.hid (fun W (hW : Below w.heap.size w W) => rbusy_any A n c l W (hr.old hW) hn)
  have HOK := Lib.hid (fun L (h : GV n l keys L) => h.ok hlb)
  have HTB := Lib.hid htab
  have HWO := Lib.hid (wZ_ok n k l)
  have i1 := codeG_i64 n l keys
  have i2 := codeWst_i64 n k l
  have i3 := codeS_i64 n l
  obtain ⟨cg, hcg⟩ : ∃ z, z = codeG n l keys := ⟨_, rfl⟩
  rw [← hcg] at HG HRG i1
  obtain ⟨cw, hcw⟩ : ∃ z, z = codeWst n n k l := ⟨_, rfl⟩
  rw [← hcw] at HW HRW i2
  obtain ⟨cd, hcd⟩ : ∃ z, z = codeS n l := ⟨_, rfl⟩
  rw [← hcd] at HBU HRB i3
  obtain ⟨zs, hzs⟩ : ∃ z, z = wZ n k l := ⟨_, rfl⟩
  rw [← hzs] at HW HRW HWO
  have I1 := Lib.hid i1
  have I2 := Lib.hid i2
  have I3 := Lib.hid i3
  clear hcg hcw hcd hzs htab hr hn hk hkl hck hlb hki hlab i1 i2 i3
  go_enter Tryz.func3, Tryz.ntmps3
  go_wp2_with fail
  obtain ⟨w1, hw1⟩ : ∃ W, W = (w.alloc (.cells #[.slice none 0 0] 27)).alloc (.cells #[.slice none 0 0] 27) := ⟨_, rfl⟩
  have hb1 : Below w.heap.size w w1 := by rw [hw1]; exact ((Below.refl _ w).alloc (Nat.le_refl _) _).alloc (by simp) _
  have hs1 : w1.heap.size = w.heap.size + 1 + 1 := by rw [hw1]; simp
  have hk1 : w1.heap[w.heap.size]? = some (.cells #[.slice none 0 0] 27 (0, 0)) := by
    rw [hw1, Below.heap_alloc _ _ _ (by simp)]
    exact alloc_at _ _ _ rfl
  have hk2 : w1.heap[w.heap.size + 1]? = some (.cells #[.slice none 0 0] 27 (0, 0)) := by
    have e : w.heap.size + 1 = (w.alloc (.cells #[.slice none 0 0] 27)).heap.size := by simp
    rw [hw1, e]
    exact alloc_at _ _ _ rfl
  rw [← hw1]
  clear hw1
  obtain ⟨K, hK⟩ : ∃ K, K = w.heap.size := ⟨_, rfl⟩
  rw [← hK] at HG HRG HW HRW HBU HRB HTB hb1 hs1 hk1 hk2 ⊢
  have HK0 := Lib.hid hK
  clear hK
  have HB1 := Lib.hid hb1
  have HS1 := Lib.hid hs1
  have HK1 := Lib.hid hk1
  have HK2 := Lib.hid hk2
  clear hb1 hs1 hk1 hk2
  (with_reducible refine (HG.out _ HB1.out).mono ?_)
  rintro e w2 ⟨A1, c1, L1, rfl, hr1, hv1, hb2⟩
  have HB2 := Lib.hid (HB1.out.trans (hb2.mono (by have := HS1.out; omega)))
  have HX2 := Lib.hid hr1
  have HV1 := Lib.hid hv1
  have HB12 := Lib.hid hb2
  clear hr1 hv1 hb2
  go_wp2_with fail
  (with_reducible refine (HRG.out _ HB2.out).mono ?_)
  rintro e w3 ⟨A2, c2, L2, rfl, hr2, hv2, hb3⟩
  have hsz : K + 1 < w3.heap.size := by have := HS1.out; have := HB12.out.size; have := hb3.size; omega
  have hb13 : Below w1.heap.size w1 w3 := HB12.out.trans (hb3.mono HB12.out.size)
  have HB3 := Lib.hid (show Below K w w3 from HB1.out.trans (hb13.mono (by have := HS1.out; omega)))
  have hd3 : Duo w3 K w3.heap.size [] [] := Duo.start (HTB.out.on HB3.out) ((hb13.block K (by have := HS1.out; omega)).trans HK1.out) ((hb13.block (K + 1) (by have := HS1.out; omega)).trans HK2.out) hsz (Nat.le_refl _)
  have HGX := Lib.hid (fun w' (hf : Fr (fun i => i = K ∨ i = K + 1 ∨ w3.heap.size ≤ i) w3 w') => GrR.off (HX2.out.onB hb3) (P := fun b => b = K ∨ b = K + 1) hd3.blk hf (fun b hb hm => by omega))
  have HGY := Lib.hid (fun w' (hf : Fr (fun i => i = K ∨ i = K + 1 ∨ w3.heap.size ≤ i) w3 w') => GrR.off hr2 (P := fun b => b = K ∨ b = K + 1) hd3.blk hf (fun b hb hm => by omega))
  have hin : inkRows L2 = inkRows L1 := hv2.inked HV1.out
  have HL1 := Lib.hid (HOK.out L1 HV1.out)
  have HL2 := Lib.hid (HOK.out L2 hv2)
  have hlen : (inkRows L1).length < 2000000000100 := by
    have h1 := inkRs_length L1 HL1.out.2
    have h2 := HL1.out.1
    have h3 := inkInt_length (L1.length : Int) (by omega) (by omega)
    unfold inkRows
    rw [List.length_append]
    omega
  obtain ⟨base, hbase⟩ : ∃ z, z = w3.heap.size := ⟨_, rfl⟩
  rw [← hbase] at hd3 HGX HGY hsz
  have HD3 := Lib.hid hd3
  have HSZ := Lib.hid hsz
  have HIN := Lib.hid hin
  have HLN := Lib.hid hlen
  clear hr2 hv2 hb3 hb13 hd3 hsz hin hlen HX2 HB12 HK1 HK2 HTB HG HRG HOK hbase
  go_wp2_with fail
  refine (inkRows_genC K base A1 c1 L1 w3 HD3.out.fst HL1.out.2 HL1.out.1 (fun w' hf => HGX.out w' (hf.toFr.mono (fun i _ hm => by rcases hm with e | ⟨e, _⟩; exact .inl e; exact .inr (.inr e))))).mono ?_
  rintro e w4 ⟨rfl, hi4, hf4⟩
  have HB4 := Lib.hid (show Below K w w4 from hf4.belowN HB3.out (by have := HD3.out.lt; omega) (Nat.le_refl _) (by have := HSZ.out; omega))
  have HF4 := Lib.hid (show Fr (fun i => i = K ∨ i = K + 1 ∨ base ≤ i) w3 w4 from hf4.toFr.mono (fun i _ hm => by rcases hm with e | ⟨e, _⟩; exact .inl e; exact .inr (.inr e)))
  have HD4 := Lib.hid (HD3.out.one hi4 hf4)
  clear hi4 hf4
  go_wp2_with fail
  refine (inkRows_genC (K + 1) base A2 c2 L2 w4 HD4.out.snd HL2.out.2 HL2.out.1 (fun w' hf => HGY.out w' (HF4.out.trans hf.toFr (fun i _ hm => by rcases hm with e | ⟨e, _⟩; exact .inr (.inl e); exact .inr (.inr e))))).mono ?_
  rintro e w5 ⟨rfl, hi5, hf5⟩
  rw [HIN.out] at hi5
  have HB5 := Lib.hid (show Below K w w5 from hf5.belowN HB4.out (by have := HD4.out.lt; omega) (by omega) (by have := HSZ.out; omega))
  have HD5 := Lib.hid (HD4.out.two hi5 hf5)
  clear hi5 hf5 HGX HGY HF4 HIN HL1 HL2
  obtain ⟨bs, hbs⟩ : ∃ b, b = inkRows L1 := ⟨_, rfl⟩
  rw [← hbs] at HD5 HLN
  clear hbs
  go_wp2_with fail
  refine (inkErrnoC K base bs cg w5 HD5.out.fst (by have := HLN.out; omega) I1.out).mono ?_
  rintro e w6 ⟨rfl, hi6, hf6⟩
  have HB6 := Lib.hid (show Below K w w6 from hf6.belowN HB5.out (by have := HD5.out.lt; omega) (by omega) (by have := HSZ.out; omega))
  have HD6 := Lib.hid (HD5.out.one hi6 hf6)
  clear hi6 hf6
  go_wp2_with fail
  refine (inkErrnoC (K + 1) base bs cg w6 HD6.out.snd (by have := HLN.out; omega) I1.out).mono ?_
  rintro e w7 ⟨rfl, hi7, hf7⟩
  have HB7 := Lib.hid (show Below K w w7 from hf7.belowN HB6.out (by have := HD6.out.lt; omega) (by omega) (by have := HSZ.out; omega))
  have HD7 := Lib.hid (HD6.out.two hi7 hf7)
  clear hi7 hf7
  have l1 := inkInt_length cg I1.out.1 I1.out.2
  have hlen7 : (bs ++ inkInt cg).length < 2000000000200 := by rw [List.length_append]; have := HLN.out; omega
  have HLN7 := Lib.hid hlen7
  clear hlen7 l1
  obtain ⟨b7, hb7⟩ : ∃ b, b = bs ++ inkInt cg := ⟨_, rfl⟩
  rw [← hb7] at HD7 HLN7
  clear hb7
  go_wp2_with fail
  (with_reducible refine (HW.out _ HB7.out).mono ?_)
  rintro e w8 ⟨A8, c8, rfl, hr8, ht8, hb8⟩
  have HB8 := Lib.hid (show Below K w w8 from HB7.out.trans (hb8.mono (by have := HD7.out.lt; omega)))
  have HD8 := Lib.hid (HD7.out.on hb8)
  have HR8 := Lib.hid hr8
  have HT8 := Lib.hid ht8
  clear hr8 ht8 hb8
  go_wp2_with fail
  (with_reducible refine (HRW.out _ HB8.out).mono ?_)
  rintro e w9 ⟨A9, c9, rfl, hr9, ht9, hb9⟩
  have HB9 := Lib.hid (show Below K w w9 from HB8.out.trans (hb9.mono (by have := HD8.out.lt; omega)))
  have HD9 := Lib.hid (HD8.out.on hb9)
  have HP9 := Lib.hid ((HR8.out.below hb9 (Nat.le_refl _)).more (Nat.le_refl _) hb9.size)
  have HPT9 := Lib.hid (HT8.out.on hb9)
  have HQ9 := Lib.hid hr9
  have HQT9 := Lib.hid ht9
  clear hr9 ht9 hb9
  go_wp2_with fail
  refine (inkIntsC K base b7 A8 c8 zs w9 HD9.out.fst (by have := HLN7.out; omega) HWO.out.2 (by have := HWO.out.1; omega) (fun w' hf => (rd_fst HD9.out HP9.out HPT9.out (by decide) (by decide) hf).1)).mono ?_
  rintro e w10 ⟨rfl, hi10, hf10⟩
  have HB10 := Lib.hid (show Below K w w10 from hf10.belowN HB9.out (by have := HD9.out.lt; omega) (by omega) (by have := HSZ.out; omega))
  have HD10 := Lib.hid (HD9.out.one hi10 hf10)
  have HQ10 := Lib.hid (rd_fst HD9.out HQ9.out HQT9.out (by decide) (by decide) hf10)
  clear hi10 hf10
  go_wp2_with fail
  refine (inkIntsC (K + 1) base b7 A9 c9 zs w10 HD10.out.snd (by have := HLN7.out; omega) HWO.out.2 (by have := HWO.out.1; omega) (fun w' hf => (rd_snd HD10.out HQ10.out.1 HQ10.out.2 (by decide) (by decide) hf).1)).mono ?_
  rintro e w11 ⟨rfl, hi11, hf11⟩
  have HB11 := Lib.hid (show Below K w w11 from hf11.belowN HB10.out (by have := HD10.out.lt; omega) (by omega) (by have := HSZ.out; omega))
  have HD11 := Lib.hid (HD10.out.two hi11 hf11)
  clear hi11 hf11
  have hlen11 : (b7 ++ inkInts zs).length < 2000000000000 + 600000 := by
    have h1 := inkIs_length zs HWO.out.2
    have h2 := HWO.out.1
    have h3 := inkInt_length (zs.length : Int) (by omega) (by omega)
    have h4 := HLN7.out
    unfold inkInts
    simp only [List.length_append]
    omega
  have HLN11 := Lib.hid hlen11
  clear hlen11
  obtain ⟨b11, hb11⟩ : ∃ b, b = b7 ++ inkInts zs := ⟨_, rfl⟩
  rw [← hb11] at HD11 HLN11
  clear hb11
  go_wp2_with fail
  refine (inkErrnoC K base b11 cw w11 HD11.out.fst (by have := HLN11.out; omega) I2.out).mono ?_
  rintro e w12 ⟨rfl, hi12, hf12⟩
  have HB12 := Lib.hid (show Below K w w12 from hf12.belowN HB11.out (by have := HD11.out.lt; omega) (by omega) (by have := HSZ.out; omega))
  have HD12 := Lib.hid (HD11.out.one hi12 hf12)
  clear hi12 hf12
  go_wp2_with fail
  refine (inkErrnoC (K + 1) base b11 cw w12 HD12.out.snd (by have := HLN11.out; omega) I2.out).mono ?_
  rintro e w13 ⟨rfl, hi13, hf13⟩
  have HB13 := Lib.hid (show Below K w w13 from hf13.belowN HB12.out (by have := HD12.out.lt; omega) (by omega) (by have := HSZ.out; omega))
  have HD13 := Lib.hid (HD12.out.two hi13 hf13)
  clear hi13 hf13
  have l2 := inkInt_length cw I2.out.1 I2.out.2
  have hlen13 : (b11 ++ inkInt cw).length < 2000000000000 + 700000 := by rw [List.length_append]; have := HLN11.out; omega
  have HLN13 := Lib.hid hlen13
  clear hlen13 l2
  obtain ⟨b13, hb13⟩ : ∃ b, b = b11 ++ inkInt cw := ⟨_, rfl⟩
  rw [← hb13] at HD13 HLN13
  clear hb13
  go_wp2_with fail
  (with_reducible refine (HBU.out _ HB13.out).mono ?_)
  rintro e w14 ⟨A14, c14, cs, rfl, hr14, ht14, hv14, hb14⟩
  have HB14 := Lib.hid (show Below K w w14 from HB13.out.trans (hb14.mono (by have := HD13.out.lt; omega)))
  have HD14 := Lib.hid (HD13.out.on hb14)
  have HR14 := Lib.hid hr14
  have HT14 := Lib.hid ht14
  have HV14 := Lib.hid hv14
  clear hr14 ht14 hb14 hv14
  go_wp2_with fail
  (with_reducible refine (HRB.out _ HB14.out).mono ?_)
  rintro e w15 ⟨A15, c15, cs', rfl, hr15, ht15, hv15, hb15⟩
  obtain rfl : cs' = cs := hv15.one HV14.out
  have HC := Lib.hid hv15.ok
  have HB15 := Lib.hid (show Below K w w15 from HB14.out.trans (hb15.mono (by have := HD14.out.lt; omega)))
  have HD15 := Lib.hid (HD14.out.on hb15)
  have HP15 := Lib.hid ((HR14.out.below hb15 (Nat.le_refl _)).more (Nat.le_refl _) hb15.size)
  have HPT15 := Lib.hid (HT14.out.on hb15)
  have HQ15 := Lib.hid hr15
  have HQT15 := Lib.hid ht15
  clear hr15 ht15 hb15 hv15 HV14
  go_wp2_with fail
  refine (inkChg_genC K base b13 A14 c14 cs' w15 HD15.out.fst (by have := HLN13.out; omega) HC.out.2 (by have := HC.out.1; omega) (fun w' hf => (rd_fst HD15.out HP15.out HPT15.out (by decide) (by decide) hf).1)).mono ?_
  rintro e w16 ⟨rfl, hi16, hf16⟩
  have HB16 := Lib.hid (show Below K w w16 from hf16.belowN HB15.out (by have := HD15.out.lt; omega) (by omega) (by have := HSZ.out; omega))
  have HD16 := Lib.hid (HD15.out.one hi16 hf16)
  have HQ16 := Lib.hid (rd_fst HD15.out HQ15.out HQT15.out (by decide) (by decide) hf16)
  clear hi16 hf16
  go_wp2_with fail
  refine (inkChg_genC (K + 1) base b13 A15 c15 cs' w16 HD16.out.snd (by have := HLN13.out; omega) HC.out.2 (by have := HC.out.1; omega) (fun w' hf => (rd_snd HD16.out HQ16.out.1 HQ16.out.2 (by decide) (by decide) hf).1)).mono ?_
  rintro e w17 ⟨rfl, hi17, hf17⟩
  have HB17 := Lib.hid (show Below K w w17 from hf17.belowN HB16.out (by have := HD16.out.lt; omega) (by omega) (by have := HSZ.out; omega))
  have HD17 := Lib.hid (HD16.out.two hi17 hf17)
  clear hi17 hf17
  have hlen17 : (b13 ++ inkChg cs').length < 100000000000000 := by
    have h1 := inkPairs_length cs' HC.out.2
    have h2 := HC.out.1
    have h3 := inkInt_length (cs'.length : Int) (by omega) (by omega)
    have h4 := HLN13.out
    unfold inkChg
    simp only [List.length_append]
    omega
  have HT1 := Lib.hid (told_any0 _ _ _ _ HD17.out.fst hlen17)
  have HT2 := Lib.hid (told_any0 _ _ _ _ HD17.out.snd hlen17)
  obtain ⟨ts, hts⟩ : ∃ b : ByteArray, b = ⟨(b13 ++ inkChg cs').toArray⟩ := ⟨_, rfl⟩
  rw [← hts] at HT1 HT2
  clear hlen17 hts
  go_wp2_with fail
  (with_reducible refine (HT1.out).mono ?_)
  rintro e w18 ⟨rfl, rfl⟩
  go_wp2_with fail
  (with_reducible refine (HT2.out).mono ?_)
  rintro e w18 ⟨rfl, rfl⟩
  have HCT := Lib.hid (counts_any w17)
  go_wp2_with fail
  (with_reducible refine (HCT.out).mono ?_)
  rintro e w19 ⟨rfl, hb19⟩
  have HB19 := Lib.hid (show Below K w w19 from HB17.out.trans (hb19.mono (by have := HD17.out.lt; omega)))
  clear hb19
  go_wp2
  go_ret
  exact ⟨by rfl, by rw [← HK0.out]; exact HB19.out⟩
end Go.Proofs.YtjkoppdddaknlaaGreatDoor
