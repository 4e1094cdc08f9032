/- The reference's Changes: what follows the loops. Printed by gen_r10chg2.py. -/
import Derived.Test.YtnpfdelklolchaaGreatDoorG41
namespace Go.Proofs.YtnpfdelklolchaaGreatDoor
open Go Go.RowKit Go.Proofs

noncomputable def chgE : Code := match Tryz.f11.body with
  | some (.seq _ (.seq _ (.seq _ (.seq _ (.seq _ (.seq _ (.seq _ (.seq _ (.seq _ t)))))))))  => t
  | _ => .skip
/-- what both Changes return -/
def ChP (l : List Int) (pen : Int) (C : Int) (w : World) (e : Ending) (w' : World) : Prop :=
  (C ≠ 0 ∧ e = .returned (.tuple #[.slice none 0 0, .agg #[.string ⟨#[]⟩, .string ⟨#[]⟩], .int .i64 C]) ∧ Below w.heap.size w w') ∨
  (C = 0 ∧ ∃ B d, e = .returned (.tuple #[.slice B (chB l pen).2.length d, ratOf (rtT (chQ l pen)), .int .i64 0]) ∧ Rd w' 0 w'.heap.size 1 B (chB l pen).2.length (nInts (chB l pen).2) ∧ Below w.heap.size w w')
set_option maxHeartbeats 8000000 in
set_option maxRecDepth 100000 in
theorem chgE_any (g : Nat) (l : List Int) (pen C : Int) (AD : Option Addr) (cD : Nat) (lD : List Nat) (D : Nat) (w w2 w4 wz : World) (F0 : Nat → Nat × Nat × List Nat)
    (h2 : okZ l = true) (_hp : 0 ≤ pen ∧ pen ≤ 1000000000000000) (hl3 : l.length ≤ 300) (h00 : 1 ≤ l.length) (hDD : D = cmn l.length) (hD0 : 0 < D) (hDS : D < T4 ^ 34) (hDN : RNatR w4 AD cD lD D) (hLD : lD.length ≤ 1000000)
    (hF0 : F0 0 = f3 (chB l pen)) (hRT : RT wz g (l.length + 1) F0) (hBW : Below w4.heap.size w4 wz) (hB2 : Below w.heap.size w w2) (hB24 : Below w2.heap.size w2 w4) (hT2 : Txt2 w2 w.heap.size ⟨#[]⟩ ⟨#[]⟩) (hG : w4.heap.size ≤ g) (hTAB : Tab w.heap.size w) (hC : C = rtC (chQ l pen))
    (u0 u1 u2 u3 u4 u6 u7 u9 u11 u12 u13 u14 u15 u16 u17 u18 u19 u20 u21 u22 u23 u24 u25 u26 u27 u28 u29 u30 u31 u32 u33 u34 u35 u36 u37 u38 u39 u40 u41 u42 u43 u44 u45 u46 u47 u48 u49 u50 u51 u52 u53 u54 u55 u56 u57 u58 u59 u60 u61 u62 u63 u64 u65 u66 u67 u68 u69 u70 u71 u72 u73 u74 u75 u76 u77 u78 u79 u80 u81 u82 u83 u84 u85 u86 u87 u88 u89 u90 u91 u92 u93 u94 u95 u96 u97 u98 u99 u100 u101 u102 u103 u104 u105 u106 u107 u108 u109 u110 u111 u112 u113 u114 u115 u116 u117 u118 u119 u120 u121 u122 u123 u124 u125 u126 u127 u128 u129 u130 u131 u132 u133 u134 u135 u136 u137 u138 u139 u140 u141 u142 u143 u144 u145 u146 u147 u148 u149 u150 u151 u152 u153 u154 u155 u156 u157 u158 u159 u160 u161 u162 u163 u164 u165 u166 u167 u168 : Value) :
    Code.wp Tryz.prog chgE (bodyPost Tryz.prog Tryz.f11 (ChP l pen C w)) { tmps := #[u0, u1, u2, u3, u4, (.pointer (some ⟨w.heap.size, 0, none⟩)), u6, u7, (.slice AD lD.length cD), u9, (.slice (some ⟨g, 0, none⟩) (l.length + 1) (l.length + 1)), u11, u12, u13, u14, u15, u16, u17, u18, u19, u20, u21, u22, u23, u24, u25, u26, u27, u28, u29, u30, u31, u32, u33, u34, u35, u36, u37, u38, u39, u40, u41, u42, u43, u44, u45, u46, u47, u48, u49, u50, u51, u52, u53, u54, u55, u56, u57, u58, u59, u60, u61, u62, u63, u64, u65, u66, u67, u68, u69, u70, u71, u72, u73, u74, u75, u76, u77, u78, u79, u80, u81, u82, u83, u84, u85, u86, u87, u88, u89, u90, u91, u92, u93, u94, u95, u96, u97, u98, u99, u100, u101, u102, u103, u104, u105, u106, u107, u108, u109, u110, u111, u112, u113, u114, u115, u116, u117, u118, u119, u120, u121, u122, u123, u124, u125, u126, u127, u128, u129, u130, u131, u132, u133, u134, u135, u136, u137, u138, u139, u140, u141, u142, u143, u144, u145, u146, u147, u148, u149, u150, u151, u152, u153, u154, u155, u156, u157, u158, u159, u160, u161, u162, u163, u164, u165, u166, u167, u168], defers := [] } wz := by
  generalize hQ : bodyPost Tryz.prog Tryz.f11 _ = Q
  unfold chgE
  dsimp only [Tryz.f11]
  subst hQ
  have HRT := Lib.hid hRT
  have HDD := Lib.hid hDD
  have HD0 := Lib.hid hD0
  have HDS := Lib.hid hDS
  have HDN := Lib.hid hDN
  have HLD := Lib.hid hLD
  have HBW := Lib.hid hBW
  have HB2 := Lib.hid hB2
  have HB24 := Lib.hid hB24
  have HT2 := Lib.hid hT2
  have HG := Lib.hid hG
  have HTAB := Lib.hid hTAB
  have HC := Lib.hid hC
  clear hRT hDD hD0 hDS hDN hLD hBW hB2 hB24 hT2 hG hTAB hC
  obtain ⟨y, hyk, hyr, hyc⟩ := HRT.out.get (k := 0) (by omega)
  have hyk' : y.k = f3 (chB l pen) := by
    rw [hyk]
    exact hF0
  have hx : y.x = (chB l pen).1 := congrArg Prod.fst hyk'
  have hyz : y.zs = (chB l pen).2 := congrArg (fun z => z.2.2) hyk'
  have HZ0 := Lib.hid hyz
  have hlz : (0 : Int) < (l.length : Int) + 1 := by omega
  have HYR := Lib.hid hyr
  have HYC := Lib.hid hyc
  have HXW := Lib.hid (show y.x < T4 ^ 38 by
    rw [hx]
    exact ch_small4 hl3 (up_bd (best_le (pen := pen) h2 hl3 (Nat.le_refl _)) (by omega)))
  have HDQ := Lib.hid (HDN.out.on HBW.out)
  have HQ := Lib.hid (show mkRat (sg false y.x) D = chQ l pen by rw [hx, HDD.out]; rfl)
  have HLW := Lib.hid (rLowest_any false y.A1 AD y.c1 cD y.l1 lD y.x D wz hyr.1.1 HDQ.out (by have := hyr.1.1.len HXW.out; omega) (by have := HDQ.out.len HDS.out; omega) HD0.out)
  have HBZ := Lib.hid (below_next HB24.out HBW.out)
  have HTZ := Lib.hid (HT2.out.on HBZ.out)
  have HGZ := Lib.hid (show w.heap.size < g from by have h3 := heap_lt HT2.out; have h4 := HB24.out.size; have h5 := HG.out; omega)
  obtain ⟨o0, o1, o2⟩ := hyc wz (Below.refl _ _)
  clear hyk hyk' hx hyz hyr hyc
  go_wp2_with fail
  (with_reducible refine (HLW.out).mono ?_)
  rintro e w10 ⟨v10, rfl, hv10, hb10⟩
  have HBM := Lib.hid (below_next HBZ.out hb10)
  have hrt := rResult_any v10 (mkRat (sg false y.x) D) w10 hv10 (sz_mono (n := 38) (mk_sz HD0.out HXW.out (Nat.lt_of_lt_of_le HDS.out (Nat.pow_le_pow_right (by decide) (by omega)))) (by omega)) ((HTAB.out.on (below_next HB2.out HBM.out)).mono (below_next HB2.out HBM.out).size)
  rw [HQ.out] at hrt
  have hrtv : ratOf (rtT (chQ l pen)) = .agg #[.string ⟨(rtT (chQ l pen)).1.toArray⟩, .string ⟨(rtT (chQ l pen)).2.toArray⟩] := rfl
  obtain ⟨A5, c5, l5, A6, c6, l6, rfl, -, -⟩ := hv10
  obtain ⟨R1, hR1⟩ : ∃ R : ByteArray, R = ⟨(rtT (chQ l pen)).1.toArray⟩ := ⟨_, rfl⟩
  obtain ⟨R2, hR2⟩ : ∃ R : ByteArray, R = ⟨(rtT (chQ l pen)).2.toArray⟩ := ⟨_, rfl⟩
  rw [← hR1, ← hR2] at hrtv
  rw [hrtv] at hrt
  have HRTV := Lib.hid hrtv
  have hcc := HC.out
  obtain ⟨rc, hrc⟩ : ∃ z, z = rtC (chQ l pen) := ⟨_, rfl⟩
  rw [← hrc] at hrt hcc
  have HCC := Lib.hid hcc
  have HRR := Lib.hid hrt
  have HB10 := Lib.hid hb10
  clear hrtv hrt hcc hrc hR1 hR2 hb10 o0 o1 o2
  go_wp2_with fail
  (with_reducible refine (HRR.out).mono ?_)
  rintro e w11 ⟨rfl, hb11⟩
  obtain ⟨W12, hW12⟩ : ∃ W, W = w11.alloc (.cells #[.string R1, .string R2] 24) := ⟨_, rfl⟩
  obtain ⟨br, hbr⟩ : ∃ b, b = w11.heap.size := ⟨_, rfl⟩
  have hb12 : Below w11.heap.size w11 W12 := by rw [hW12]; exact (Below.refl _ w11).alloc (Nat.le_refl _) _
  have HR12 := Lib.hid (show Txt2 W12 br R1 R2 by rw [hW12, hbr]; exact alloc_at _ _ _ rfl)
  have hb1012 := below_next hb11 hb12
  have HBY := Lib.hid (below_next HB10.out hb1012)
  have HB12 := Lib.hid (below_next HB2.out (below_next HBM.out hb1012))
  have HT12 := Lib.hid (HT2.out.on (below_next HBM.out hb1012))
  have HBRW := Lib.hid (show w.heap.size < br by rw [hbr]; exact Nat.lt_of_lt_of_le (heap_lt HT2.out) (below_next HBM.out hb11).size)
  clear hb11 hb12 hb1012
  by_cases hrc0 : rc = 0
  · have hne : (rc != 0) = false := by rw [hrc0]; rfl
    have HC0 := Lib.hid (HCC.out.trans hrc0)
    have HKS27 := Lib.hid (show ∀ X, Below W12.heap.size W12 X → (fun X => Below w.heap.size w X ∧ X.cell? ⟨g, 2, none⟩ = some (.slice y.A2 y.zs.length y.c2) ∧ X.cell? ⟨br, 0, none⟩ = some (.string R1) ∧ X.cell? ⟨br, 1, none⟩ = some (.string R2)) X from fun X hX => ⟨below_next HB12.out hX, by have := (HYC.out X (below_next HBY.out hX)).2.2; simpa using this, (HR12.out.on hX).facts.1, (HR12.out.on hX).facts.2.1⟩)
    have HPLA := Lib.hid (fun X (hX : Below W12.heap.size W12 X) => HYR.out.2.1.on (below_next HBY.out hX))
    rw [hrc0]
    clear hrc0
    go_wp2_with fail
    rw [← hW12, ← hbr]
    clear hW12 hbr
    skip
    {
   refine wp_region_noPanic ?_
   refine wp_region_held_drew (S := (fun X => Below w.heap.size w X ∧ X.cell? ⟨g, 2, none⟩ = some (.slice y.A2 y.zs.length y.c2) ∧ X.cell? ⟨br, 0, none⟩ = some (.string R1) ∧ X.cell? ⟨br, 1, none⟩ = some (.string R2))) (by kernel_rfl) (HKS27.out _ (Below.refl _ W12).drew) (fun HS0 => ?_)
   have HBx0 : Below W12.heap.size W12 W12.drew := (Below.refl _ _).drew
   obtain ⟨X0, hX0⟩ : ∃ X, X = W12.drew := ⟨_, rfl⟩
   rw [← hX0] at HBx0 HS0 ⊢
   clear hX0
   refine wpAnyH_take (i := 0) (v := ?_) rfl (by kernel_rfl) (by kernel_rfl) (by kernel_rfl) (fun _ _ _ h => h) (Or.inl ⟨by kernel_rfl, ?_⟩) HS0 ?_
   rotate_left
   · intro W hW; (try dsimp only at hW); go_simp; try (with_reducible rfl)
   refine wpAnyH_take (i := 1) (v := ?_) rfl (by kernel_rfl) (by kernel_rfl) (by kernel_rfl) (fun _ _ _ h => h) (Or.inl ⟨by kernel_rfl, ?_⟩) HS0 ?_
   rotate_left
   · intro W hW; (try dsimp only at hW); go_simp; try (with_reducible rfl)
   refine wpAnyH_take (i := 2) (v := ?_) rfl (by kernel_rfl) (by kernel_rfl) (by kernel_rfl) (fun _ _ _ h => h) (Or.inl ⟨by kernel_rfl, ?_⟩) HS0 ?_
   rotate_left
   · intro W hW; (try dsimp only at hW); go_simp; try (with_reducible rfl)
   refine wpAnyH_take (i := 3) (v := ?_) rfl (by kernel_rfl) (by kernel_rfl) (by kernel_rfl) (fun _ _ _ h => h) (Or.inl ⟨by kernel_rfl, ?_⟩) HS0 ?_
   rotate_left
   · intro W hW; (try dsimp only at hW); go_simp; try (with_reducible rfl)
   refine wpAnyH_take (i := 4) (v := ?_) rfl (by kernel_rfl) (by kernel_rfl) (by kernel_rfl) (fun _ _ _ h => h) (Or.inl ⟨by kernel_rfl, ?_⟩) HS0 ?_
   rotate_left
   · intro W hW; (try dsimp only at hW); go_simp; try (with_reducible rfl)
   refine wpAnyH_take (i := 5) (v := ?_) rfl (by kernel_rfl) (by kernel_rfl) (by kernel_rfl) (fun _ _ _ h => h) (Or.inl ⟨by kernel_rfl, ?_⟩) HS0 ?_
   rotate_left
   · intro W hW; (try dsimp only at hW); go_simp; try (with_reducible rfl)
   have HSX := Lib.hid HS0
   clear HS0
   have hpl := HPLA.out _ HBx0
   have ht := HT12.out.on HBx0
   obtain ⟨X9, hX9⟩ : ∃ X, X = (X0.setCell ⟨w.heap.size, 0, none⟩ (.string R1)).setCell ⟨w.heap.size, 1, none⟩ (.string R2) := ⟨_, rfl⟩
   have HSY : (fun X => Below w.heap.size w X ∧ X.cell? ⟨g, 2, none⟩ = some (.slice y.A2 y.zs.length y.c2) ∧ X.cell? ⟨br, 0, none⟩ = some (.string R1) ∧ X.cell? ⟨br, 1, none⟩ = some (.string R2)) X9 := by
     obtain ⟨a0, a1, a2, a3⟩ := HSX.out
     rw [hX9]
     exact ⟨txt2_below a0 (Nat.le_refl _) _ _, (World.cell?_of_block (txt2_far (Nat.ne_of_gt HGZ.out))).trans a1, (World.cell?_of_block (txt2_far (Nat.ne_of_gt HBRW.out))).trans a2, (World.cell?_of_block (txt2_far (Nat.ne_of_gt HBRW.out))).trans a3⟩
   have HT9 := Lib.hid (show Txt2 X9 w.heap.size R1 R2 by rw [hX9]; exact txt2_set ht)
   have HRD9 := Lib.hid (show Rd X9 0 X9.heap.size 1 y.A2 y.zs.length (nInts y.zs) by rw [hX9]; exact pl_txt2 hpl ht)
   obtain ⟨s0, s1, s2, s3, s4⟩ := ht.facts
   clear hpl HSX ht
   refine run_one (i := 6) (by kernel_rfl) rfl rfl ?_
   intro K hK
   go_simp
   rw [← hX9]
   refine hK.out _ _ HSY ?_
   clear hK K hX9 HSY s0 s1 s2 s3 s4
   intro HS0
   refine wpAnyH_take (i := 7) (v := ?_) rfl (by kernel_rfl) (by kernel_rfl) (by kernel_rfl) (fun _ _ _ h => h) (Or.inl ⟨by kernel_rfl, ?_⟩) HS0 ?_
   rotate_left
   · intro W hW; (try dsimp only at hW); go_simp; try (with_reducible rfl)
   refine wpAnyH_done (by kernel_rfl) ?_ _
   refine NoPanic.normal ?_
   (try go_simp)
   obtain ⟨s0, s1, s2, s3, s4⟩ := HT9.out.facts
   have HBL9 := Lib.hid HS0.1
   clear HS0
   go_wp2_with fail
   refine bodyPost_ret (v := .tuple #[.slice y.A2 y.zs.length y.c2, .agg #[.string R1, .string R2], .int .i64 0]) (by simp [results, Tryz.results11, go_sem, s0, s1]) rfl (.inr ⟨HC0.out, y.A2, y.c2, by rw [HRTV.out, HZ0.out], by rw [← HZ0.out]; exact HRD9.out, HBL9.out⟩)
    }
  · have hne : (rc != 0) = true := by rw [bne_iff_ne]; exact hrc0
    have HNZ := Lib.hid (show C ≠ 0 by rw [HCC.out]; exact hrc0)
    obtain ⟨s0, s1, s2, s3, s4⟩ := HT12.out.facts
    have HFN := Lib.hid (fun a b => txt2_below (B := w.heap.size) HB12.out (Nat.le_refl _) a b)
    rw [hW12] at s0 s1 s2 s3 s4
    clear hrc0
    go_wp2_with fail
    rw [← hW12]
    rw [← hW12] at s0 s1 s4
    refine bodyPost_ret (v := .tuple #[.slice none 0 0, .agg #[.string ⟨#[]⟩, .string ⟨#[]⟩], .int .i64 rc]) (by simp [results, Tryz.results11, go_sem, s0, s1]) rfl (.inl ⟨HNZ.out, by rw [HCC.out], HFN.out _ _⟩)
end Go.Proofs.YtnpfdelklolchaaGreatDoor
