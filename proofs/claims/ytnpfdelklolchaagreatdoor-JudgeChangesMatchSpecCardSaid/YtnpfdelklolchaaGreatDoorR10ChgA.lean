/- The reference's Changes: a round's first statement. Printed by gen_r10chg2.py. -/
import Derived.Test.YtnpfdelklolchaaGreatDoorG41
namespace Go.Proofs.YtnpfdelklolchaaGreatDoor
open Go Go.RowKit Go.Proofs

noncomputable def chgA : Code := (Tryz.f11.body.bind (findR 20)).getD .skip
set_option maxHeartbeats 8000000 in
set_option maxRecDepth 100000 in
theorem chgA_any (bk o c g i k : Nat) (l : List Int) (pen : Int) (AD AE : Option Addr) (cD cE : Nat) (lD lE : List Nat) (T : Nat → Nat × List Nat) (D : Nat) (wk : World) (Q : Exit → Act → World → Prop)
    (hRL : ∀ X, Below wk.heap.size wk X → Rd X 0 X.heap.size 1 (some ⟨bk, o, none⟩) l.length (ints l)) (h2 : okZ l = true) (hp : 0 ≤ pen ∧ pen ≤ 1000000000000000) (hl3 : l.length ≤ 300) (hcap : l.length ≤ c) (hik0 : i < k) (hlt : k < l.length)
    (hDD : D = cmn l.length) (hDN : RNatR wk AD cD lD D) (hNE : RNatR wk AE cE lE (chE l pen)) (hLE : lE.length ≤ 1000000)
    (hRT : RT wk g (l.length + 1) (fun q => if q = i then f3 (runF (chc l) (chE l pen) T l.length i (k - i - 1)) else if i + 1 ≤ q ∧ q < l.length then f3 (T q) else (0, 0, [])))
    (hTM : ∀ k, i + 1 ≤ k → k < l.length → IsMin (chc l) (chE l pen) k l.length (T k))
    (u2 u3 u4 u5 u6 u7 u13 u14 u15 u16 u17 u18 u19 u20 u21 u22 u23 u24 u25 u26 u27 u28 u29 u30 u31 u32 u33 u34 u35 u36 u37 u38 u39 u40 u41 u42 u43 u44 u45 u46 u47 u48 u49 u50 u51 u52 u53 u54 u55 u56 u57 u58 u59 u60 u61 u62 u63 u64 u65 u66 u67 u68 u69 u70 u71 u72 u73 u74 u75 u76 u77 u78 u79 u80 u81 u82 u83 u84 u85 u86 u87 u88 u89 u90 u91 u92 u93 u94 u95 u96 u97 u98 u99 u100 u101 u102 u103 u104 u105 u106 u107 u108 u109 u110 u111 u112 u113 u114 u115 u116 u117 u118 u119 u120 u121 u122 u123 u124 u125 u126 u127 u128 u129 u130 u131 u132 u133 u134 u135 u136 u137 u138 u139 u140 u141 u142 u143 u144 u145 u146 u147 u148 u149 u150 u151 u152 u153 u154 u155 u156 u157 u158 u159 u160 u161 u162 u163 u164 u165 u166 u167 u168 : Value)
    (hQ : ∀ (v73 v74 v75 v76 v77 v78 v79 v80 v81 v82 v83 v84 v85 v86 v87 v88 v89 v90 v91 v92 v93 v94 v95 v96 v97 v98 v99 v100 v101 : Value) (bd : Nat) (y' : Tv) (W' : World), TvB W' bd g y' → y'.k = f3 (chc l i k + chE l pen + (T k).1, k :: (T k).2) → Below wk.heap.size wk W' → Q .normal { tmps := #[(.slice (some ⟨bk, o, none⟩) l.length c), (.int .i64 pen), u2, u3, u4, u5, u6, u7, (.slice AD lD.length cD), (.slice AE lE.length cE), (.slice (some ⟨g, 0, none⟩) (l.length + 1) (l.length + 1)), (.int .i64 (i : Int)), (.int .i64 (k : Int)), (.pointer (some ⟨bd, 0, none⟩)), u14, u15, u16, u17, u18, u19, u20, u21, u22, u23, u24, u25, u26, u27, u28, u29, u30, u31, u32, u33, u34, u35, u36, u37, u38, u39, u40, u41, u42, u43, u44, u45, u46, u47, u48, u49, u50, u51, u52, u53, u54, u55, u56, u57, u58, u59, u60, u61, u62, u63, u64, u65, u66, u67, u68, u69, u70, u71, u72, v73, v74, v75, v76, v77, v78, v79, v80, v81, v82, v83, v84, v85, v86, v87, v88, v89, v90, v91, v92, v93, v94, v95, v96, v97, v98, v99, v100, v101, u102, u103, u104, u105, u106, u107, u108, u109, u110, u111, u112, u113, u114, u115, u116, u117, u118, u119, u120, u121, u122, u123, u124, u125, u126, u127, u128, u129, u130, u131, u132, u133, u134, u135, u136, u137, u138, u139, u140, u141, u142, u143, u144, u145, u146, u147, u148, u149, u150, u151, u152, u153, u154, u155, u156, u157, u158, u159, u160, u161, u162, u163, u164, u165, u166, u167, u168], defers := [] } W') :
    Code.wp Tryz.prog chgA Q { tmps := #[(.slice (some ⟨bk, o, none⟩) l.length c), (.int .i64 pen), u2, u3, u4, u5, u6, u7, (.slice AD lD.length cD), (.slice AE lE.length cE), (.slice (some ⟨g, 0, none⟩) (l.length + 1) (l.length + 1)), (.int .i64 (i : Int)), (.int .i64 (k : Int)), u13, u14, u15, u16, u17, u18, u19, u20, u21, u22, u23, u24, u25, u26, u27, u28, u29, u30, u31, u32, u33, u34, u35, u36, u37, u38, u39, u40, u41, u42, u43, u44, u45, u46, u47, u48, u49, u50, u51, u52, u53, u54, u55, u56, u57, u58, u59, u60, u61, u62, u63, u64, u65, u66, u67, u68, u69, u70, u71, u72, u73, u74, u75, u76, u77, u78, u79, u80, u81, u82, u83, u84, u85, u86, u87, u88, u89, u90, u91, u92, u93, u94, u95, u96, u97, u98, u99, u100, u101, u102, u103, u104, u105, u106, u107, u108, u109, u110, u111, u112, u113, u114, u115, u116, u117, u118, u119, u120, u121, u122, u123, u124, u125, u126, u127, u128, u129, u130, u131, u132, u133, u134, u135, u136, u137, u138, u139, u140, u141, u142, u143, u144, u145, u146, u147, u148, u149, u150, u151, u152, u153, u154, u155, u156, u157, u158, u159, u160, u161, u162, u163, u164, u165, u166, u167, u168], defers := [] } wk := by
  conv => arg 2; unfold chgA; whnf
  have HQ := Lib.hid hQ
  clear hQ
  have HRL := Lib.hid hRL
  have HTM := Lib.hid hTM
  have HRK := Lib.hid hRT
  have HDN := Lib.hid hDN
  have HNE := Lib.hid hNE
  have HLE := Lib.hid hLE
  have HDD := Lib.hid hDD
  have hin : i < l.length := by omega
  have hic : i ≤ c := by omega
  have hine : ¬ c = i := by omega
  have hinz : (i : Int) < (l.length : Int) + 1 := by omega
  have hil : i ≤ l.length := by omega
  have hi0' : (0 : Int) ≤ (i : Int) := by omega
  have hk1 : i + 1 ≤ k := by omega
  have hk2 : k ≤ l.length := by omega
  clear hRL hTM hRT hDN hNE hLE hDD
  have hltz : (k : Int) < (l.length : Int) := by omega
  have hltz2 : (k : Int) < (l.length : Int) + 1 := by omega
  have hkc : k ≤ c := by omega
  have hik : i ≤ k := by omega
  have HK0 := Lib.hid (show 0 < k by omega)
  have HSP := Lib.hid (fun X (hX : Below wk.heap.size wk X) => spread_seg (cc := c - i) (HRL.out X hX) h2 hl3 hik0 hk2 (HDN.out.on hX) HDD.out)
  have HEN := Lib.hid (fun X (hX : Below wk.heap.size wk X) => HNE.out.on hX)
  obtain ⟨y, hyk, hyr, hyc⟩ := HRK.out.get (k := k) (by omega)
  have hyk' : y.k = f3 (T k) := by
    rw [hyk]
    show (if k = i then _ else if i + 1 ≤ k ∧ k < l.length then f3 (T k) else _) = _
    rw [if_neg (by omega), if_pos ⟨by omega, hlt⟩]
  have hx : y.x = (T k).1 := congrArg Prod.fst hyk'
  have hyp : y.p = (T k).2.length + 1 := congrArg (fun z => z.2.1) hyk'
  have hyz : y.zs = (T k).2 := congrArg (fun z => z.2.2) hyk'
  have hmin := HTM.out k (by omega) hlt
  have hzl := Val.length_le hmin.1 hlt
  have HYR := Lib.hid hyr
  have HZL := Lib.hid (show y.zs.length ≤ 1000000 by rw [hyz]; omega)
  have HGLT := Lib.hid (show g < wk.heap.size from HRK.out.lt)
  have hm1' := min_le h2 (by omega) hmin
  have hck := chc_le (i := i) h2 (show l.length ≤ 300 from hl3) hk2
  have hce' := chE_le (l := l) hp.2
  have hs4 := fun x (hx : x ≤ cmn l.length * 4000000000000000) => (show x < T4 ^ 38 from ch_small4 (by omega) hx)
  have HZZ := Lib.hid (show chc l i k < T4 ^ 38 ∧ chc l i k + chE l pen < T4 ^ 38 ∧ y.x < T4 ^ 38 ∧ chc l i k + chE l pen + y.x < T4 ^ 38 from ⟨hs4 _ (up_bd hck (by omega)), hs4 _ (add_bd hck hce' (by omega)), by rw [hx]; exact hs4 _ (up_bd hm1' (by omega)), by rw [hx]; exact hs4 _ (add_bd (add_bd hck hce' (Nat.le_refl _)) hm1' (by omega))⟩)
  have HLN := Lib.hid (fun X A c (l : List Nat) x (h : RNatR X A c l x) (hx : x < T4 ^ 38) => (show l.length ≤ 1000000 from by have := h.len hx; omega))
  have HLY := Lib.hid (HLN.out _ _ _ _ _ hyr.1.1 HZZ.out.2.2.1)
  have HKEY := Lib.hid (show (chc l i k + chE l pen + y.x, y.p + 1, k :: y.zs) = f3 (chc l i k + chE l pen + (T k).1, k :: (T k).2) by rw [hx, hyp, hyz]; rfl)
  have HKS20 := Lib.hid (show ∀ X, Below wk.heap.size wk X → (fun X => Below wk.heap.size wk X ∧ X.cell? ⟨g, k * 3, none⟩ = some (.slice y.A1 y.l1.length y.c1) ∧ X.cell? ⟨g, k * 3 + 1, none⟩ = some (.int .i64 (y.p : Int)) ∧ X.cell? ⟨g, k * 3 + 2, none⟩ = some (.slice y.A2 y.zs.length y.c2)) X from fun X hX => ⟨hX, (hyc X hX).1, (hyc X hX).2.1, (hyc X hX).2.2⟩)
  have e19 : IntKind.i64.wrap (1 + (y.p : Int)) = ((y.p + 1 : Nat) : Int) := by rw [IntKind.wrap_i64]; omega
  have hk0' : (0 : Int) ≤ (k : Int) := by omega
  obtain ⟨i0, hi0, hz0, hz1, hz2⟩ := info_parts Tryz.infoI4
  clear hyk hyr hyc hyk' hx hyp hyz hmin hzl hm1' hck hce' hs4
  skip
  {
 refine wp_region_noPanic ?_
 refine wp_region_held_drew (S := (fun X => Below wk.heap.size wk X ∧ X.cell? ⟨g, k * 3, none⟩ = some (.slice y.A1 y.l1.length y.c1) ∧ X.cell? ⟨g, k * 3 + 1, none⟩ = some (.int .i64 (y.p : Int)) ∧ X.cell? ⟨g, k * 3 + 2, none⟩ = some (.slice y.A2 y.zs.length y.c2))) (by kernel_rfl) (HKS20.out _ (Below.refl _ wk).drew) (fun HS0 => ?_)
 have HBx0 : Below wk.heap.size wk wk.drew := (Below.refl _ _).drew
 obtain ⟨Xx0, hXx0⟩ : ∃ X, X = wk.drew := ⟨_, rfl⟩
 rw [← hXx0] at HBx0 HS0 ⊢
 clear hXx0
 refine wpAnyH_take (i := 0) (v := ?_) rfl (by kernel_rfl) (by kernel_rfl) (by kernel_rfl) (fun _ _ _ h => h) (Or.inl ⟨by kernel_rfl, ?_⟩) HS0 ?_
 rotate_left
 · intro W hW; (try dsimp only at hW); go_simp; try (with_reducible rfl)
 refine wpAnyH_take (i := 1) (v := ?_) rfl (by kernel_rfl) (by kernel_rfl) (by kernel_rfl) (fun _ _ _ h => h) (Or.inl ⟨by kernel_rfl, ?_⟩) HS0 ?_
 rotate_left
 · intro W hW; (try dsimp only at hW); go_simp; try (with_reducible rfl)
 refine wpAnyH_take (i := 2) (v := ?_) rfl (by kernel_rfl) (by kernel_rfl) (by kernel_rfl) (fun _ _ _ h => h) (Or.inl ⟨by kernel_rfl, ?_⟩) HS0 ?_
 rotate_left
 · intro W hW; (try dsimp only at hW); go_simp; try (with_reducible rfl)
 refine wpAnyH_take (i := 3) (v := ?_) rfl (by kernel_rfl) (by kernel_rfl) (by kernel_rfl) (fun _ _ _ h => h) (Or.inl ⟨by kernel_rfl, ?_⟩) HS0 ?_
 rotate_left
 · intro W hW; (try dsimp only at hW); go_simp; try (with_reducible rfl)
 refine wpAnyH_take (i := 4) (v := ?_) rfl (by kernel_rfl) (by kernel_rfl) (by kernel_rfl) (fun _ _ _ h => h) (Or.inl ⟨by kernel_rfl, ?_⟩) HS0 ?_
 rotate_left
 · intro W hW; (try dsimp only at hW); go_simp; try (with_reducible rfl)
 refine wpAnyH_take (i := 6) (v := ?_) rfl (by kernel_rfl) (by kernel_rfl) (by kernel_rfl) (fun _ _ _ h => h) (Or.inl ⟨by kernel_rfl, ?_⟩) HS0 ?_
 rotate_left
 · intro W hW; (try dsimp only at hW); go_simp; try (with_reducible rfl)
 refine wpAnyH_take (i := 8) (v := ?_) rfl (by kernel_rfl) (by kernel_rfl) (by kernel_rfl) (fun _ _ _ h => h) (Or.inl ⟨by kernel_rfl, ?_⟩) HS0 ?_
 rotate_left
 · intro W hW; (try dsimp only at hW); go_simp; try (with_reducible rfl)
 refine wpAnyH_take (i := 9) (v := ?_) rfl (by kernel_rfl) (by kernel_rfl) (by kernel_rfl) (fun _ _ _ h => h) (Or.inl ⟨by kernel_rfl, ?_⟩) HS0 ?_
 rotate_left
 · intro W hW; (try dsimp only at hW); go_simp; try (with_reducible rfl)
 refine wpAnyH_take (i := 10) (v := ?_) rfl (by kernel_rfl) (by kernel_rfl) (by kernel_rfl) (fun _ _ _ h => h) (Or.inl ⟨by kernel_rfl, ?_⟩) HS0 ?_
 rotate_left
 · intro W hW; (try dsimp only at hW); go_simp; try (with_reducible rfl)
 refine wpAnyH_take (i := 11) (v := ?_) rfl (by kernel_rfl) (by kernel_rfl) (by kernel_rfl) (fun _ _ _ h => h) (Or.inl ⟨by kernel_rfl, ?_⟩) HS0 ?_
 rotate_left
 · intro W hW; (try dsimp only at hW); go_simp; try (with_reducible rfl)
 refine wpAnyH_take (i := 12) (v := ?_) rfl (by kernel_rfl) (by kernel_rfl) (by kernel_rfl) (fun _ _ _ h => h) (Or.inl ⟨by kernel_rfl, ?_⟩) HS0 ?_
 rotate_left
 · intro W hW; (try dsimp only at hW); go_simp; try (with_reducible rfl)
 refine wpAnyH_take (i := 14) (v := ?_) rfl (by kernel_rfl) (by kernel_rfl) (by kernel_rfl) (fun _ _ _ h => h) (Or.inl ⟨by kernel_rfl, ?_⟩) HS0 ?_
 rotate_left
 · intro W hW; (try dsimp only at hW); go_simp; try (with_reducible rfl)
 refine wpAnyH_take (i := 15) (v := ?_) rfl (by kernel_rfl) (by kernel_rfl) (by kernel_rfl) (fun _ _ _ h => h) (Or.inl ⟨by kernel_rfl, ?_⟩) HS0 ?_
 rotate_left
 · intro W hW; (try dsimp only at hW); go_simp; try (with_reducible rfl)
 refine wpAnyH_take (i := 16) (v := ?_) rfl (by kernel_rfl) (by kernel_rfl) (by kernel_rfl) (fun _ _ _ h => h) (Or.inl ⟨by kernel_rfl, ?_⟩) HS0 ?_
 rotate_left
 · intro W hW; (try dsimp only at hW); go_simp; try (with_reducible rfl)
 refine wpAnyH_take (i := 17) (v := ?_) rfl (by kernel_rfl) (by kernel_rfl) (by kernel_rfl) (fun _ _ _ h => h) (Or.inl ⟨by kernel_rfl, ?_⟩) HS0 ?_
 rotate_left
 · intro W hW; (try dsimp only at hW); go_simp; try (with_reducible rfl)
 refine wpAnyH_take (i := 18) (v := ?_) rfl (by kernel_rfl) (by kernel_rfl) (by kernel_rfl) (fun _ _ _ h => h) (Or.inl ⟨by kernel_rfl, ?_⟩) HS0 ?_
 rotate_left
 · intro W hW; (try dsimp only at hW); go_simp; try (with_reducible rfl)
 refine wpAnyH_take (i := 19) (v := ?_) rfl (by kernel_rfl) (by kernel_rfl) (by kernel_rfl) (fun _ _ _ h => h) (Or.inl ⟨by kernel_rfl, ?_⟩) HS0 ?_
 rotate_left
 · intro W hW; (try dsimp only at hW); go_simp; try (with_reducible rfl)
 refine wpAnyH_take (i := 20) (v := ?_) rfl (by kernel_rfl) (by kernel_rfl) (by kernel_rfl) (fun _ _ _ h => h) (Or.inl ⟨by kernel_rfl, ?_⟩) HS0 ?_
 rotate_left
 · intro W hW; (try dsimp only at hW); go_simp; try (with_reducible rfl)
 refine wpAnyH_take (i := 22) (v := ?_) rfl (by kernel_rfl) (by kernel_rfl) (by kernel_rfl) (fun _ _ _ h => h) (Or.inl ⟨by kernel_rfl, ?_⟩) HS0 ?_
 rotate_left
 · intro W hW; (try dsimp only at hW); go_simp; try (with_reducible rfl)
 refine wpAnyH_take (i := 23) (v := ?_) rfl (by kernel_rfl) (by kernel_rfl) (by kernel_rfl) (fun _ _ _ h => h) (Or.inl ⟨by kernel_rfl, ?_⟩) HS0 ?_
 rotate_left
 · intro W hW; (try dsimp only at hW); go_simp; try (with_reducible rfl)
 refine wpAnyH_take (i := 24) (v := ?_) rfl (by kernel_rfl) (by kernel_rfl) (by kernel_rfl) (fun _ _ _ h => h) (Or.inl ⟨by kernel_rfl, ?_⟩) HS0 ?_
 rotate_left
 · intro W hW; (try dsimp only at hW); go_simp; try (with_reducible rfl)
 refine wpAnyH_take (i := 25) (v := ?_) rfl (by kernel_rfl) (by kernel_rfl) (by kernel_rfl) (fun _ _ _ h => h) (Or.inl ⟨by kernel_rfl, ?_⟩) HS0 ?_
 rotate_left
 · intro W hW; (try dsimp only at hW); go_simp; try (with_reducible rfl)
 refine wpAnyH_take (i := 26) (v := ?_) rfl (by kernel_rfl) (by kernel_rfl) (by kernel_rfl) (fun _ _ _ h => h) (Or.inl ⟨by kernel_rfl, ?_⟩) HS0 ?_
 rotate_left
 · intro W hW; (try dsimp only at hW); go_simp; try (with_reducible rfl)
 clear HS0
 refine wpAnyH_ready (rs := [5, 21, 29]) (by kernel_rfl) (by simp) ?_
 refine AllReadyH.cons rfl (fun K hK => ?_) ?_
 {
 refine wp_call (HSP.out Xx0 HBx0) (by kernel_rfl) ?_
 rintro e Xx1 ⟨As', cs', ls', rfl, hs5, hbx1, -⟩
 have HBx1 := below_next HBx0 hbx1
 refine ⟨_, rfl, hK.out _ _ (HKS20.out _ HBx1) ?_⟩
 clear hK K
 intro _
 refine wpAnyH_ready (rs := [7, 21, 29]) (by kernel_rfl) (by simp) ?_
 refine AllReadyH.cons rfl (fun K hK => ?_) ?_
 {
 refine wp_call (rnatAdd_any As' AE cs' cE ls' lE _ _ Xx1 (hs5) (HEN.out Xx1 HBx1) (HLN.out _ _ _ _ _ (hs5) HZZ.out.1) HLE.out) (by kernel_rfl) ?_
 rintro e Xx2 ⟨A7, c7, l7, rfl, hs7, hbx2⟩
 have HBx2 := below_next HBx1 hbx2
 refine ⟨_, rfl, hK.out _ _ (HKS20.out _ HBx2) ?_⟩
 clear hK K
 intro _
 refine wpAnyH_ready (rs := [13, 21, 29]) (by kernel_rfl) (by simp) ?_
 refine AllReadyH.cons rfl (fun K hK => ?_) ?_
 {
 refine wp_call (rnatAddN_any A7 y.A1 c7 y.c1 l7 y.l1 _ _ Xx2 (hs7) (HYR.out.1.1.on HBx2) (HLN.out _ _ _ _ _ (hs7) HZZ.out.2.1) HLY.out) (by kernel_rfl) ?_
 rintro e Xx3 ⟨Ad, cd, ld, rfl, hs13, hbx3, hns13⟩
 have hnd : ∀ b q, Ad = some ⟨b, q, none⟩ → b ≠ g := fun b q e => by have h1 := hns13 b q e; have h2 := HBx2.size; have h3 := HGLT.out; omega
 have HBx3 := below_next HBx2 hbx3
 refine ⟨_, rfl, hK.out _ _ (HKS20.out _ HBx3) ?_⟩
 clear hK K
 intro _
 refine wpAnyH_ready (rs := [21, 29]) (by kernel_rfl) (by simp) ?_
 refine AllReadyH.cons rfl (fun K hK => ?_) ?_
 {
 obtain ⟨Xx4, hX4⟩ : ∃ X, X = Xx3.alloc (.cells #[.int .i64 (k : Int)] 3) := ⟨_, rfl⟩
 have hbx4 : Below Xx3.heap.size Xx3 Xx4 := by rw [hX4]; exact (Below.refl _ _).alloc (Nat.le_refl _) _
 have h21 : Xx4.heap[Xx3.heap.size]? = some (.cells #[.int .i64 (k : Int)] 3 (0, 0)) := by rw [hX4]; exact alloc_at _ _ _ rfl
 have hne21 : Xx3.heap.size ≠ g := by have h2 := HBx3.size; have h3 := HGLT.out; omega
 have HBx4 := below_next HBx3 hbx4
 refine wp_val (v := .slice (some ⟨Xx3.heap.size, 0, none⟩) 1 1) (w' := Xx4) (by rw [hX4]; kernel_rfl) ?_
 refine hK.out _ _ (HKS20.out _ HBx4) ?_
 clear hK K hX4
 intro _
 refine wpAnyH_ready (rs := [27, 29]) (by kernel_rfl) (by simp) ?_
 refine AllReadyH.cons rfl (fun K hK => ?_) ?_
 {
 refine wp_app_one (.tmp 94) (.tmp 99) 22 (by kernel_rfl) 3 i0 Tryz.underlying22 hi0 hz0 hz1 hz2 (Xx3.heap.size) k (by kernel_rfl) (h21) y.A2 y.c2 y.zs (by kernel_rfl) (HYR.out.2.1.on HBx4) HZL.out ?_
 intro g2 cap2 Xx5 hpl27 hbx5 hg27
 have hn27 : ∀ b q, (some ⟨g2, 0, none⟩ : Option Addr) = some ⟨b, q, none⟩ → b ≠ g := fun b q e => by
   simp only [Option.some.injEq, Addr.mk.injEq, and_true] at e
   have h2 := HBx4.size
   have h3 := HGLT.out
   rcases hg27 with h | h <;> omega
 have HBx5 := below_next HBx4 hbx5
 refine hK.out _ _ (HKS20.out _ HBx5) ?_
 clear hK K
 intro _
 have HS0 := HKS20.out _ HBx5
 refine wpAnyH_take (i := 28) (v := ?_) rfl (by kernel_rfl) (by kernel_rfl) (by kernel_rfl) (fun _ _ _ h => h) (Or.inl ⟨by kernel_rfl, ?_⟩) HS0 ?_
 rotate_left
 · intro W hW; (try dsimp only at hW); go_simp; try (with_reducible rfl)
 clear HS0
 refine run_one (i := 29) (by kernel_rfl) rfl rfl ?_
 intro K hK
 obtain ⟨Xx6, hX6⟩ : ∃ X, X = Xx5.alloc (.cells #[.slice none 0 0, .int .i64 0, .slice none 0 0] 87) := ⟨_, rfl⟩
 have hbx6 : Below Xx5.heap.size Xx5 Xx6 := by rw [hX6]; exact (Below.refl _ _).alloc (Nat.le_refl _) _
 have h29 : Xx6.heap[Xx5.heap.size]? = some (.cells #[.slice none 0 0, .int .i64 0, .slice none 0 0] 87 (0, 0)) := by rw [hX6]; exact alloc_at _ _ _ rfl
 have hlo29 : wk.heap.size ≤ Xx5.heap.size := HBx5.size
 have HBx6 := below_next HBx5 hbx6
 refine wp_val (v := .pointer (some ⟨Xx5.heap.size, 0, none⟩)) (w' := Xx6) (by rw [hX6]; kernel_rfl) ?_
 refine hK.out _ _ (HKS20.out _ HBx6) ?_
 clear hK K hX6
 intro _
 have he29 := h29
 obtain ⟨Xx7, hX7⟩ : ∃ X, X = ((Xx6.setCell ⟨Xx5.heap.size, 0, none⟩ (.slice Ad ld.length cd)).setCell ⟨Xx5.heap.size, 1, none⟩ (.int .i64 ((y.p : Int) + 1))).setCell ⟨Xx5.heap.size, 2, none⟩ (.slice (some ⟨g2, 0, none⟩) (y.zs.length + 1) cap2) := ⟨_, rfl⟩
 have hbox := TvB.store (p := y.p + 1) he29 rfl ⟨⟨(((hs13).on hbx4).on hbx5).on hbx6, hnd⟩, (hpl27).on hbx6, hn27⟩ HK0.out
 rw [show ((y.p + 1 : Nat) : Int) = (y.p : Int) + 1 from rfl, show (k :: y.zs).length = y.zs.length + 1 from rfl, ← hX7] at hbox
 have HBx7 : Below wk.heap.size wk Xx7 := by rw [hX7]; exact (((HBx6).setCell (p := ⟨Xx5.heap.size, 0, none⟩) hlo29 _).setCell (p := ⟨Xx5.heap.size, 1, none⟩) hlo29 _).setCell (p := ⟨Xx5.heap.size, 2, none⟩) hlo29 _
 obtain ⟨k0, k1, k2, z0, z1, z2⟩ := tbox_facts he29
 refine run_one (i := 30) (by kernel_rfl) rfl rfl ?_
 intro K hK
 go_simp
 rw [← hX7]
 refine hK.out _ _ (HKS20.out _ HBx7) ?_
 clear hK K k0 k1 k2 z0 z1 z2 hX7
 intro _
 refine wpAnyH_done (by kernel_rfl) ?_ _
 refine NoPanic.normal ?_
 (try go_simp)
 first
   | exact HQ.out _ _ _ _ _ _ _ _ _ _ _ _ _ _ _ _ _ _ _ _ _ _ _ _ _ _ _ _ _ _ _ _ hbox HKEY.out HBx7
   | (go_wp2_with fail; exact HQ.out _ _ _ _ _ _ _ _ _ _ _ _ _ _ _ _ _ _ _ _ _ _ _ _ _ _ _ _ _ _ _ _ hbox HKEY.out HBx7)
 }
 refine AllReadyH.cons rfl (fun K hK => ?_) ?_
 {
 obtain ⟨Xx8, hX8⟩ : ∃ X, X = Xx4.alloc (.cells #[.slice none 0 0, .int .i64 0, .slice none 0 0] 87) := ⟨_, rfl⟩
 have hbx8 : Below Xx4.heap.size Xx4 Xx8 := by rw [hX8]; exact (Below.refl _ _).alloc (Nat.le_refl _) _
 have h29 : Xx8.heap[Xx4.heap.size]? = some (.cells #[.slice none 0 0, .int .i64 0, .slice none 0 0] 87 (0, 0)) := by rw [hX8]; exact alloc_at _ _ _ rfl
 have hlo29 : wk.heap.size ≤ Xx4.heap.size := HBx4.size
 have HBx8 := below_next HBx4 hbx8
 refine wp_val (v := .pointer (some ⟨Xx4.heap.size, 0, none⟩)) (w' := Xx8) (by rw [hX8]; kernel_rfl) ?_
 refine hK.out _ _ (HKS20.out _ HBx8) ?_
 clear hK K hX8
 intro _
 refine run_one (i := 27) (by kernel_rfl) rfl rfl ?_
 intro K hK
 refine wp_app_one (.tmp 94) (.tmp 99) 22 (by kernel_rfl) 3 i0 Tryz.underlying22 hi0 hz0 hz1 hz2 (Xx3.heap.size) k (by kernel_rfl) (((hbx8.block _ (heap_lt (h21))).trans (h21))) y.A2 y.c2 y.zs (by kernel_rfl) (HYR.out.2.1.on HBx8) HZL.out ?_
 intro g2 cap2 Xx9 hpl27 hbx9 hg27
 have hn27 : ∀ b q, (some ⟨g2, 0, none⟩ : Option Addr) = some ⟨b, q, none⟩ → b ≠ g := fun b q e => by
   simp only [Option.some.injEq, Addr.mk.injEq, and_true] at e
   have h2 := HBx8.size
   have h3 := HGLT.out
   rcases hg27 with h | h <;> omega
 have HBx9 := below_next HBx8 hbx9
 refine hK.out _ _ (HKS20.out _ HBx9) ?_
 clear hK K
 intro _
 have HS0 := HKS20.out _ HBx9
 refine wpAnyH_take (i := 28) (v := ?_) rfl (by kernel_rfl) (by kernel_rfl) (by kernel_rfl) (fun _ _ _ h => h) (Or.inl ⟨by kernel_rfl, ?_⟩) HS0 ?_
 rotate_left
 · intro W hW; (try dsimp only at hW); go_simp; try (with_reducible rfl)
 clear HS0
 have he29 := ((hbx9.block _ (heap_lt (h29))).trans (h29))
 obtain ⟨Xx10, hX10⟩ : ∃ X, X = ((Xx9.setCell ⟨Xx4.heap.size, 0, none⟩ (.slice Ad ld.length cd)).setCell ⟨Xx4.heap.size, 1, none⟩ (.int .i64 ((y.p : Int) + 1))).setCell ⟨Xx4.heap.size, 2, none⟩ (.slice (some ⟨g2, 0, none⟩) (y.zs.length + 1) cap2) := ⟨_, rfl⟩
 have hbox := TvB.store (p := y.p + 1) he29 rfl ⟨⟨(((hs13).on hbx4).on hbx8).on hbx9, hnd⟩, hpl27, hn27⟩ HK0.out
 rw [show ((y.p + 1 : Nat) : Int) = (y.p : Int) + 1 from rfl, show (k :: y.zs).length = y.zs.length + 1 from rfl, ← hX10] at hbox
 have HBx10 : Below wk.heap.size wk Xx10 := by rw [hX10]; exact (((HBx9).setCell (p := ⟨Xx4.heap.size, 0, none⟩) hlo29 _).setCell (p := ⟨Xx4.heap.size, 1, none⟩) hlo29 _).setCell (p := ⟨Xx4.heap.size, 2, none⟩) hlo29 _
 obtain ⟨k0, k1, k2, z0, z1, z2⟩ := tbox_facts he29
 refine run_one (i := 30) (by kernel_rfl) rfl rfl ?_
 intro K hK
 go_simp
 rw [← hX10]
 refine hK.out _ _ (HKS20.out _ HBx10) ?_
 clear hK K k0 k1 k2 z0 z1 z2 hX10
 intro _
 refine wpAnyH_done (by kernel_rfl) ?_ _
 refine NoPanic.normal ?_
 (try go_simp)
 first
   | exact HQ.out _ _ _ _ _ _ _ _ _ _ _ _ _ _ _ _ _ _ _ _ _ _ _ _ _ _ _ _ _ _ _ _ hbox HKEY.out HBx10
   | (go_wp2_with fail; exact HQ.out _ _ _ _ _ _ _ _ _ _ _ _ _ _ _ _ _ _ _ _ _ _ _ _ _ _ _ _ _ _ _ _ hbox HKEY.out HBx10)
 }
 exact AllReadyH.nil
 }
 refine AllReadyH.cons rfl (fun K hK => ?_) ?_
 {
 obtain ⟨Xx11, hX11⟩ : ∃ X, X = Xx3.alloc (.cells #[.slice none 0 0, .int .i64 0, .slice none 0 0] 87) := ⟨_, rfl⟩
 have hbx11 : Below Xx3.heap.size Xx3 Xx11 := by rw [hX11]; exact (Below.refl _ _).alloc (Nat.le_refl _) _
 have h29 : Xx11.heap[Xx3.heap.size]? = some (.cells #[.slice none 0 0, .int .i64 0, .slice none 0 0] 87 (0, 0)) := by rw [hX11]; exact alloc_at _ _ _ rfl
 have hlo29 : wk.heap.size ≤ Xx3.heap.size := HBx3.size
 have HBx11 := below_next HBx3 hbx11
 refine wp_val (v := .pointer (some ⟨Xx3.heap.size, 0, none⟩)) (w' := Xx11) (by rw [hX11]; kernel_rfl) ?_
 refine hK.out _ _ (HKS20.out _ HBx11) ?_
 clear hK K hX11
 intro _
 refine run_one (i := 21) (by kernel_rfl) rfl rfl ?_
 intro K hK
 obtain ⟨Xx12, hX12⟩ : ∃ X, X = Xx11.alloc (.cells #[.int .i64 (k : Int)] 3) := ⟨_, rfl⟩
 have hbx12 : Below Xx11.heap.size Xx11 Xx12 := by rw [hX12]; exact (Below.refl _ _).alloc (Nat.le_refl _) _
 have h21 : Xx12.heap[Xx11.heap.size]? = some (.cells #[.int .i64 (k : Int)] 3 (0, 0)) := by rw [hX12]; exact alloc_at _ _ _ rfl
 have hne21 : Xx11.heap.size ≠ g := by have h2 := HBx11.size; have h3 := HGLT.out; omega
 have HBx12 := below_next HBx11 hbx12
 refine wp_val (v := .slice (some ⟨Xx11.heap.size, 0, none⟩) 1 1) (w' := Xx12) (by rw [hX12]; kernel_rfl) ?_
 refine hK.out _ _ (HKS20.out _ HBx12) ?_
 clear hK K hX12
 intro _
 refine run_one (i := 27) (by kernel_rfl) rfl rfl ?_
 intro K hK
 refine wp_app_one (.tmp 94) (.tmp 99) 22 (by kernel_rfl) 3 i0 Tryz.underlying22 hi0 hz0 hz1 hz2 (Xx11.heap.size) k (by kernel_rfl) (h21) y.A2 y.c2 y.zs (by kernel_rfl) (HYR.out.2.1.on HBx12) HZL.out ?_
 intro g2 cap2 Xx13 hpl27 hbx13 hg27
 have hn27 : ∀ b q, (some ⟨g2, 0, none⟩ : Option Addr) = some ⟨b, q, none⟩ → b ≠ g := fun b q e => by
   simp only [Option.some.injEq, Addr.mk.injEq, and_true] at e
   have h2 := HBx12.size
   have h3 := HGLT.out
   rcases hg27 with h | h <;> omega
 have HBx13 := below_next HBx12 hbx13
 refine hK.out _ _ (HKS20.out _ HBx13) ?_
 clear hK K
 intro _
 have HS0 := HKS20.out _ HBx13
 refine wpAnyH_take (i := 28) (v := ?_) rfl (by kernel_rfl) (by kernel_rfl) (by kernel_rfl) (fun _ _ _ h => h) (Or.inl ⟨by kernel_rfl, ?_⟩) HS0 ?_
 rotate_left
 · intro W hW; (try dsimp only at hW); go_simp; try (with_reducible rfl)
 clear HS0
 have he29 := ((hbx13.block _ (heap_lt (((hbx12.block _ (heap_lt (h29))).trans (h29))))).trans (((hbx12.block _ (heap_lt (h29))).trans (h29))))
 obtain ⟨Xx14, hX14⟩ : ∃ X, X = ((Xx13.setCell ⟨Xx3.heap.size, 0, none⟩ (.slice Ad ld.length cd)).setCell ⟨Xx3.heap.size, 1, none⟩ (.int .i64 ((y.p : Int) + 1))).setCell ⟨Xx3.heap.size, 2, none⟩ (.slice (some ⟨g2, 0, none⟩) (y.zs.length + 1) cap2) := ⟨_, rfl⟩
 have hbox := TvB.store (p := y.p + 1) he29 rfl ⟨⟨(((hs13).on hbx11).on hbx12).on hbx13, hnd⟩, hpl27, hn27⟩ HK0.out
 rw [show ((y.p + 1 : Nat) : Int) = (y.p : Int) + 1 from rfl, show (k :: y.zs).length = y.zs.length + 1 from rfl, ← hX14] at hbox
 have HBx14 : Below wk.heap.size wk Xx14 := by rw [hX14]; exact (((HBx13).setCell (p := ⟨Xx3.heap.size, 0, none⟩) hlo29 _).setCell (p := ⟨Xx3.heap.size, 1, none⟩) hlo29 _).setCell (p := ⟨Xx3.heap.size, 2, none⟩) hlo29 _
 obtain ⟨k0, k1, k2, z0, z1, z2⟩ := tbox_facts he29
 refine run_one (i := 30) (by kernel_rfl) rfl rfl ?_
 intro K hK
 go_simp
 rw [← hX14]
 refine hK.out _ _ (HKS20.out _ HBx14) ?_
 clear hK K k0 k1 k2 z0 z1 z2 hX14
 intro _
 refine wpAnyH_done (by kernel_rfl) ?_ _
 refine NoPanic.normal ?_
 (try go_simp)
 first
   | exact HQ.out _ _ _ _ _ _ _ _ _ _ _ _ _ _ _ _ _ _ _ _ _ _ _ _ _ _ _ _ _ _ _ _ hbox HKEY.out HBx14
   | (go_wp2_with fail; exact HQ.out _ _ _ _ _ _ _ _ _ _ _ _ _ _ _ _ _ _ _ _ _ _ _ _ _ _ _ _ _ _ _ _ hbox HKEY.out HBx14)
 }
 exact AllReadyH.nil
 }
 refine AllReadyH.cons rfl (fun K hK => ?_) ?_
 {
 obtain ⟨Xx15, hX15⟩ : ∃ X, X = Xx2.alloc (.cells #[.int .i64 (k : Int)] 3) := ⟨_, rfl⟩
 have hbx15 : Below Xx2.heap.size Xx2 Xx15 := by rw [hX15]; exact (Below.refl _ _).alloc (Nat.le_refl _) _
 have h21 : Xx15.heap[Xx2.heap.size]? = some (.cells #[.int .i64 (k : Int)] 3 (0, 0)) := by rw [hX15]; exact alloc_at _ _ _ rfl
 have hne21 : Xx2.heap.size ≠ g := by have h2 := HBx2.size; have h3 := HGLT.out; omega
 have HBx15 := below_next HBx2 hbx15
 refine wp_val (v := .slice (some ⟨Xx2.heap.size, 0, none⟩) 1 1) (w' := Xx15) (by rw [hX15]; kernel_rfl) ?_
 refine hK.out _ _ (HKS20.out _ HBx15) ?_
 clear hK K hX15
 intro _
 refine wpAnyH_ready (rs := [13, 29]) (by kernel_rfl) (by simp) ?_
 refine AllReadyH.cons rfl (fun K hK => ?_) ?_
 {
 refine wp_call (rnatAddN_any A7 y.A1 c7 y.c1 l7 y.l1 _ _ Xx15 ((hs7).on hbx15) (HYR.out.1.1.on HBx15) (HLN.out _ _ _ _ _ ((hs7).on hbx15) HZZ.out.2.1) HLY.out) (by kernel_rfl) ?_
 rintro e Xx16 ⟨Ad, cd, ld, rfl, hs13, hbx16, hns13⟩
 have hnd : ∀ b q, Ad = some ⟨b, q, none⟩ → b ≠ g := fun b q e => by have h1 := hns13 b q e; have h2 := HBx15.size; have h3 := HGLT.out; omega
 have HBx16 := below_next HBx15 hbx16
 refine ⟨_, rfl, hK.out _ _ (HKS20.out _ HBx16) ?_⟩
 clear hK K
 intro _
 refine wpAnyH_ready (rs := [27, 29]) (by kernel_rfl) (by simp) ?_
 refine AllReadyH.cons rfl (fun K hK => ?_) ?_
 {
 refine wp_app_one (.tmp 94) (.tmp 99) 22 (by kernel_rfl) 3 i0 Tryz.underlying22 hi0 hz0 hz1 hz2 (Xx2.heap.size) k (by kernel_rfl) (((hbx16.block _ (heap_lt (h21))).trans (h21))) y.A2 y.c2 y.zs (by kernel_rfl) (HYR.out.2.1.on HBx16) HZL.out ?_
 intro g2 cap2 Xx17 hpl27 hbx17 hg27
 have hn27 : ∀ b q, (some ⟨g2, 0, none⟩ : Option Addr) = some ⟨b, q, none⟩ → b ≠ g := fun b q e => by
   simp only [Option.some.injEq, Addr.mk.injEq, and_true] at e
   have h2 := HBx16.size
   have h3 := HGLT.out
   rcases hg27 with h | h <;> omega
 have HBx17 := below_next HBx16 hbx17
 refine hK.out _ _ (HKS20.out _ HBx17) ?_
 clear hK K
 intro _
 have HS0 := HKS20.out _ HBx17
 refine wpAnyH_take (i := 28) (v := ?_) rfl (by kernel_rfl) (by kernel_rfl) (by kernel_rfl) (fun _ _ _ h => h) (Or.inl ⟨by kernel_rfl, ?_⟩) HS0 ?_
 rotate_left
 · intro W hW; (try dsimp only at hW); go_simp; try (with_reducible rfl)
 clear HS0
 refine run_one (i := 29) (by kernel_rfl) rfl rfl ?_
 intro K hK
 obtain ⟨Xx18, hX18⟩ : ∃ X, X = Xx17.alloc (.cells #[.slice none 0 0, .int .i64 0, .slice none 0 0] 87) := ⟨_, rfl⟩
 have hbx18 : Below Xx17.heap.size Xx17 Xx18 := by rw [hX18]; exact (Below.refl _ _).alloc (Nat.le_refl _) _
 have h29 : Xx18.heap[Xx17.heap.size]? = some (.cells #[.slice none 0 0, .int .i64 0, .slice none 0 0] 87 (0, 0)) := by rw [hX18]; exact alloc_at _ _ _ rfl
 have hlo29 : wk.heap.size ≤ Xx17.heap.size := HBx17.size
 have HBx18 := below_next HBx17 hbx18
 refine wp_val (v := .pointer (some ⟨Xx17.heap.size, 0, none⟩)) (w' := Xx18) (by rw [hX18]; kernel_rfl) ?_
 refine hK.out _ _ (HKS20.out _ HBx18) ?_
 clear hK K hX18
 intro _
 have he29 := h29
 obtain ⟨Xx19, hX19⟩ : ∃ X, X = ((Xx18.setCell ⟨Xx17.heap.size, 0, none⟩ (.slice Ad ld.length cd)).setCell ⟨Xx17.heap.size, 1, none⟩ (.int .i64 ((y.p : Int) + 1))).setCell ⟨Xx17.heap.size, 2, none⟩ (.slice (some ⟨g2, 0, none⟩) (y.zs.length + 1) cap2) := ⟨_, rfl⟩
 have hbox := TvB.store (p := y.p + 1) he29 rfl ⟨⟨((hs13).on hbx17).on hbx18, hnd⟩, (hpl27).on hbx18, hn27⟩ HK0.out
 rw [show ((y.p + 1 : Nat) : Int) = (y.p : Int) + 1 from rfl, show (k :: y.zs).length = y.zs.length + 1 from rfl, ← hX19] at hbox
 have HBx19 : Below wk.heap.size wk Xx19 := by rw [hX19]; exact (((HBx18).setCell (p := ⟨Xx17.heap.size, 0, none⟩) hlo29 _).setCell (p := ⟨Xx17.heap.size, 1, none⟩) hlo29 _).setCell (p := ⟨Xx17.heap.size, 2, none⟩) hlo29 _
 obtain ⟨k0, k1, k2, z0, z1, z2⟩ := tbox_facts he29
 refine run_one (i := 30) (by kernel_rfl) rfl rfl ?_
 intro K hK
 go_simp
 rw [← hX19]
 refine hK.out _ _ (HKS20.out _ HBx19) ?_
 clear hK K k0 k1 k2 z0 z1 z2 hX19
 intro _
 refine wpAnyH_done (by kernel_rfl) ?_ _
 refine NoPanic.normal ?_
 (try go_simp)
 first
   | exact HQ.out _ _ _ _ _ _ _ _ _ _ _ _ _ _ _ _ _ _ _ _ _ _ _ _ _ _ _ _ _ _ _ _ hbox HKEY.out HBx19
   | (go_wp2_with fail; exact HQ.out _ _ _ _ _ _ _ _ _ _ _ _ _ _ _ _ _ _ _ _ _ _ _ _ _ _ _ _ _ _ _ _ hbox HKEY.out HBx19)
 }
 refine AllReadyH.cons rfl (fun K hK => ?_) ?_
 {
 obtain ⟨Xx20, hX20⟩ : ∃ X, X = Xx16.alloc (.cells #[.slice none 0 0, .int .i64 0, .slice none 0 0] 87) := ⟨_, rfl⟩
 have hbx20 : Below Xx16.heap.size Xx16 Xx20 := by rw [hX20]; exact (Below.refl _ _).alloc (Nat.le_refl _) _
 have h29 : Xx20.heap[Xx16.heap.size]? = some (.cells #[.slice none 0 0, .int .i64 0, .slice none 0 0] 87 (0, 0)) := by rw [hX20]; exact alloc_at _ _ _ rfl
 have hlo29 : wk.heap.size ≤ Xx16.heap.size := HBx16.size
 have HBx20 := below_next HBx16 hbx20
 refine wp_val (v := .pointer (some ⟨Xx16.heap.size, 0, none⟩)) (w' := Xx20) (by rw [hX20]; kernel_rfl) ?_
 refine hK.out _ _ (HKS20.out _ HBx20) ?_
 clear hK K hX20
 intro _
 refine run_one (i := 27) (by kernel_rfl) rfl rfl ?_
 intro K hK
 refine wp_app_one (.tmp 94) (.tmp 99) 22 (by kernel_rfl) 3 i0 Tryz.underlying22 hi0 hz0 hz1 hz2 (Xx2.heap.size) k (by kernel_rfl) (((hbx20.block _ (heap_lt (((hbx16.block _ (heap_lt (h21))).trans (h21))))).trans (((hbx16.block _ (heap_lt (h21))).trans (h21))))) y.A2 y.c2 y.zs (by kernel_rfl) (HYR.out.2.1.on HBx20) HZL.out ?_
 intro g2 cap2 Xx21 hpl27 hbx21 hg27
 have hn27 : ∀ b q, (some ⟨g2, 0, none⟩ : Option Addr) = some ⟨b, q, none⟩ → b ≠ g := fun b q e => by
   simp only [Option.some.injEq, Addr.mk.injEq, and_true] at e
   have h2 := HBx20.size
   have h3 := HGLT.out
   rcases hg27 with h | h <;> omega
 have HBx21 := below_next HBx20 hbx21
 refine hK.out _ _ (HKS20.out _ HBx21) ?_
 clear hK K
 intro _
 have HS0 := HKS20.out _ HBx21
 refine wpAnyH_take (i := 28) (v := ?_) rfl (by kernel_rfl) (by kernel_rfl) (by kernel_rfl) (fun _ _ _ h => h) (Or.inl ⟨by kernel_rfl, ?_⟩) HS0 ?_
 rotate_left
 · intro W hW; (try dsimp only at hW); go_simp; try (with_reducible rfl)
 clear HS0
 have he29 := ((hbx21.block _ (heap_lt (h29))).trans (h29))
 obtain ⟨Xx22, hX22⟩ : ∃ X, X = ((Xx21.setCell ⟨Xx16.heap.size, 0, none⟩ (.slice Ad ld.length cd)).setCell ⟨Xx16.heap.size, 1, none⟩ (.int .i64 ((y.p : Int) + 1))).setCell ⟨Xx16.heap.size, 2, none⟩ (.slice (some ⟨g2, 0, none⟩) (y.zs.length + 1) cap2) := ⟨_, rfl⟩
 have hbox := TvB.store (p := y.p + 1) he29 rfl ⟨⟨((hs13).on hbx20).on hbx21, hnd⟩, hpl27, hn27⟩ HK0.out
 rw [show ((y.p + 1 : Nat) : Int) = (y.p : Int) + 1 from rfl, show (k :: y.zs).length = y.zs.length + 1 from rfl, ← hX22] at hbox
 have HBx22 : Below wk.heap.size wk Xx22 := by rw [hX22]; exact (((HBx21).setCell (p := ⟨Xx16.heap.size, 0, none⟩) hlo29 _).setCell (p := ⟨Xx16.heap.size, 1, none⟩) hlo29 _).setCell (p := ⟨Xx16.heap.size, 2, none⟩) hlo29 _
 obtain ⟨k0, k1, k2, z0, z1, z2⟩ := tbox_facts he29
 refine run_one (i := 30) (by kernel_rfl) rfl rfl ?_
 intro K hK
 go_simp
 rw [← hX22]
 refine hK.out _ _ (HKS20.out _ HBx22) ?_
 clear hK K k0 k1 k2 z0 z1 z2 hX22
 intro _
 refine wpAnyH_done (by kernel_rfl) ?_ _
 refine NoPanic.normal ?_
 (try go_simp)
 first
   | exact HQ.out _ _ _ _ _ _ _ _ _ _ _ _ _ _ _ _ _ _ _ _ _ _ _ _ _ _ _ _ _ _ _ _ hbox HKEY.out HBx22
   | (go_wp2_with fail; exact HQ.out _ _ _ _ _ _ _ _ _ _ _ _ _ _ _ _ _ _ _ _ _ _ _ _ _ _ _ _ _ _ _ _ hbox HKEY.out HBx22)
 }
 exact AllReadyH.nil
 }
 refine AllReadyH.cons rfl (fun K hK => ?_) ?_
 {
 obtain ⟨Xx23, hX23⟩ : ∃ X, X = Xx15.alloc (.cells #[.slice none 0 0, .int .i64 0, .slice none 0 0] 87) := ⟨_, rfl⟩
 have hbx23 : Below Xx15.heap.size Xx15 Xx23 := by rw [hX23]; exact (Below.refl _ _).alloc (Nat.le_refl _) _
 have h29 : Xx23.heap[Xx15.heap.size]? = some (.cells #[.slice none 0 0, .int .i64 0, .slice none 0 0] 87 (0, 0)) := by rw [hX23]; exact alloc_at _ _ _ rfl
 have hlo29 : wk.heap.size ≤ Xx15.heap.size := HBx15.size
 have HBx23 := below_next HBx15 hbx23
 refine wp_val (v := .pointer (some ⟨Xx15.heap.size, 0, none⟩)) (w' := Xx23) (by rw [hX23]; kernel_rfl) ?_
 refine hK.out _ _ (HKS20.out _ HBx23) ?_
 clear hK K hX23
 intro _
 refine run_one (i := 13) (by kernel_rfl) rfl rfl ?_
 intro K hK
 refine wp_call (rnatAddN_any A7 y.A1 c7 y.c1 l7 y.l1 _ _ Xx23 (((hs7).on hbx15).on hbx23) (HYR.out.1.1.on HBx23) (HLN.out _ _ _ _ _ (((hs7).on hbx15).on hbx23) HZZ.out.2.1) HLY.out) (by kernel_rfl) ?_
 rintro e Xx24 ⟨Ad, cd, ld, rfl, hs13, hbx24, hns13⟩
 have hnd : ∀ b q, Ad = some ⟨b, q, none⟩ → b ≠ g := fun b q e => by have h1 := hns13 b q e; have h2 := HBx23.size; have h3 := HGLT.out; omega
 have HBx24 := below_next HBx23 hbx24
 refine ⟨_, rfl, hK.out _ _ (HKS20.out _ HBx24) ?_⟩
 clear hK K
 intro _
 refine run_one (i := 27) (by kernel_rfl) rfl rfl ?_
 intro K hK
 refine wp_app_one (.tmp 94) (.tmp 99) 22 (by kernel_rfl) 3 i0 Tryz.underlying22 hi0 hz0 hz1 hz2 (Xx2.heap.size) k (by kernel_rfl) (((hbx24.block _ (heap_lt (((hbx23.block _ (heap_lt (h21))).trans (h21))))).trans (((hbx23.block _ (heap_lt (h21))).trans (h21))))) y.A2 y.c2 y.zs (by kernel_rfl) (HYR.out.2.1.on HBx24) HZL.out ?_
 intro g2 cap2 Xx25 hpl27 hbx25 hg27
 have hn27 : ∀ b q, (some ⟨g2, 0, none⟩ : Option Addr) = some ⟨b, q, none⟩ → b ≠ g := fun b q e => by
   simp only [Option.some.injEq, Addr.mk.injEq, and_true] at e
   have h2 := HBx24.size
   have h3 := HGLT.out
   rcases hg27 with h | h <;> omega
 have HBx25 := below_next HBx24 hbx25
 refine hK.out _ _ (HKS20.out _ HBx25) ?_
 clear hK K
 intro _
 have HS0 := HKS20.out _ HBx25
 refine wpAnyH_take (i := 28) (v := ?_) rfl (by kernel_rfl) (by kernel_rfl) (by kernel_rfl) (fun _ _ _ h => h) (Or.inl ⟨by kernel_rfl, ?_⟩) HS0 ?_
 rotate_left
 · intro W hW; (try dsimp only at hW); go_simp; try (with_reducible rfl)
 clear HS0
 have he29 := ((hbx25.block _ (heap_lt (((hbx24.block _ (heap_lt (h29))).trans (h29))))).trans (((hbx24.block _ (heap_lt (h29))).trans (h29))))
 obtain ⟨Xx26, hX26⟩ : ∃ X, X = ((Xx25.setCell ⟨Xx15.heap.size, 0, none⟩ (.slice Ad ld.length cd)).setCell ⟨Xx15.heap.size, 1, none⟩ (.int .i64 ((y.p : Int) + 1))).setCell ⟨Xx15.heap.size, 2, none⟩ (.slice (some ⟨g2, 0, none⟩) (y.zs.length + 1) cap2) := ⟨_, rfl⟩
 have hbox := TvB.store (p := y.p + 1) he29 rfl ⟨⟨(hs13).on hbx25, hnd⟩, hpl27, hn27⟩ HK0.out
 rw [show ((y.p + 1 : Nat) : Int) = (y.p : Int) + 1 from rfl, show (k :: y.zs).length = y.zs.length + 1 from rfl, ← hX26] at hbox
 have HBx26 : Below wk.heap.size wk Xx26 := by rw [hX26]; exact (((HBx25).setCell (p := ⟨Xx15.heap.size, 0, none⟩) hlo29 _).setCell (p := ⟨Xx15.heap.size, 1, none⟩) hlo29 _).setCell (p := ⟨Xx15.heap.size, 2, none⟩) hlo29 _
 obtain ⟨k0, k1, k2, z0, z1, z2⟩ := tbox_facts he29
 refine run_one (i := 30) (by kernel_rfl) rfl rfl ?_
 intro K hK
 go_simp
 rw [← hX26]
 refine hK.out _ _ (HKS20.out _ HBx26) ?_
 clear hK K k0 k1 k2 z0 z1 z2 hX26
 intro _
 refine wpAnyH_done (by kernel_rfl) ?_ _
 refine NoPanic.normal ?_
 (try go_simp)
 first
   | exact HQ.out _ _ _ _ _ _ _ _ _ _ _ _ _ _ _ _ _ _ _ _ _ _ _ _ _ _ _ _ _ _ _ _ hbox HKEY.out HBx26
   | (go_wp2_with fail; exact HQ.out _ _ _ _ _ _ _ _ _ _ _ _ _ _ _ _ _ _ _ _ _ _ _ _ _ _ _ _ _ _ _ _ hbox HKEY.out HBx26)
 }
 exact AllReadyH.nil
 }
 refine AllReadyH.cons rfl (fun K hK => ?_) ?_
 {
 obtain ⟨Xx27, hX27⟩ : ∃ X, X = Xx2.alloc (.cells #[.slice none 0 0, .int .i64 0, .slice none 0 0] 87) := ⟨_, rfl⟩
 have hbx27 : Below Xx2.heap.size Xx2 Xx27 := by rw [hX27]; exact (Below.refl _ _).alloc (Nat.le_refl _) _
 have h29 : Xx27.heap[Xx2.heap.size]? = some (.cells #[.slice none 0 0, .int .i64 0, .slice none 0 0] 87 (0, 0)) := by rw [hX27]; exact alloc_at _ _ _ rfl
 have hlo29 : wk.heap.size ≤ Xx2.heap.size := HBx2.size
 have HBx27 := below_next HBx2 hbx27
 refine wp_val (v := .pointer (some ⟨Xx2.heap.size, 0, none⟩)) (w' := Xx27) (by rw [hX27]; kernel_rfl) ?_
 refine hK.out _ _ (HKS20.out _ HBx27) ?_
 clear hK K hX27
 intro _
 refine wpAnyH_ready (rs := [13, 21]) (by kernel_rfl) (by simp) ?_
 refine AllReadyH.cons rfl (fun K hK => ?_) ?_
 {
 refine wp_call (rnatAddN_any A7 y.A1 c7 y.c1 l7 y.l1 _ _ Xx27 ((hs7).on hbx27) (HYR.out.1.1.on HBx27) (HLN.out _ _ _ _ _ ((hs7).on hbx27) HZZ.out.2.1) HLY.out) (by kernel_rfl) ?_
 rintro e Xx28 ⟨Ad, cd, ld, rfl, hs13, hbx28, hns13⟩
 have hnd : ∀ b q, Ad = some ⟨b, q, none⟩ → b ≠ g := fun b q e => by have h1 := hns13 b q e; have h2 := HBx27.size; have h3 := HGLT.out; omega
 have HBx28 := below_next HBx27 hbx28
 refine ⟨_, rfl, hK.out _ _ (HKS20.out _ HBx28) ?_⟩
 clear hK K
 intro _
 refine run_one (i := 21) (by kernel_rfl) rfl rfl ?_
 intro K hK
 obtain ⟨Xx29, hX29⟩ : ∃ X, X = Xx28.alloc (.cells #[.int .i64 (k : Int)] 3) := ⟨_, rfl⟩
 have hbx29 : Below Xx28.heap.size Xx28 Xx29 := by rw [hX29]; exact (Below.refl _ _).alloc (Nat.le_refl _) _
 have h21 : Xx29.heap[Xx28.heap.size]? = some (.cells #[.int .i64 (k : Int)] 3 (0, 0)) := by rw [hX29]; exact alloc_at _ _ _ rfl
 have hne21 : Xx28.heap.size ≠ g := by have h2 := HBx28.size; have h3 := HGLT.out; omega
 have HBx29 := below_next HBx28 hbx29
 refine wp_val (v := .slice (some ⟨Xx28.heap.size, 0, none⟩) 1 1) (w' := Xx29) (by rw [hX29]; kernel_rfl) ?_
 refine hK.out _ _ (HKS20.out _ HBx29) ?_
 clear hK K hX29
 intro _
 refine run_one (i := 27) (by kernel_rfl) rfl rfl ?_
 intro K hK
 refine wp_app_one (.tmp 94) (.tmp 99) 22 (by kernel_rfl) 3 i0 Tryz.underlying22 hi0 hz0 hz1 hz2 (Xx28.heap.size) k (by kernel_rfl) (h21) y.A2 y.c2 y.zs (by kernel_rfl) (HYR.out.2.1.on HBx29) HZL.out ?_
 intro g2 cap2 Xx30 hpl27 hbx30 hg27
 have hn27 : ∀ b q, (some ⟨g2, 0, none⟩ : Option Addr) = some ⟨b, q, none⟩ → b ≠ g := fun b q e => by
   simp only [Option.some.injEq, Addr.mk.injEq, and_true] at e
   have h2 := HBx29.size
   have h3 := HGLT.out
   rcases hg27 with h | h <;> omega
 have HBx30 := below_next HBx29 hbx30
 refine hK.out _ _ (HKS20.out _ HBx30) ?_
 clear hK K
 intro _
 have HS0 := HKS20.out _ HBx30
 refine wpAnyH_take (i := 28) (v := ?_) rfl (by kernel_rfl) (by kernel_rfl) (by kernel_rfl) (fun _ _ _ h => h) (Or.inl ⟨by kernel_rfl, ?_⟩) HS0 ?_
 rotate_left
 · intro W hW; (try dsimp only at hW); go_simp; try (with_reducible rfl)
 clear HS0
 have he29 := ((hbx30.block _ (heap_lt (((hbx29.block _ (heap_lt (((hbx28.block _ (heap_lt (h29))).trans (h29))))).trans (((hbx28.block _ (heap_lt (h29))).trans (h29))))))).trans (((hbx29.block _ (heap_lt (((hbx28.block _ (heap_lt (h29))).trans (h29))))).trans (((hbx28.block _ (heap_lt (h29))).trans (h29))))))
 obtain ⟨Xx31, hX31⟩ : ∃ X, X = ((Xx30.setCell ⟨Xx2.heap.size, 0, none⟩ (.slice Ad ld.length cd)).setCell ⟨Xx2.heap.size, 1, none⟩ (.int .i64 ((y.p : Int) + 1))).setCell ⟨Xx2.heap.size, 2, none⟩ (.slice (some ⟨g2, 0, none⟩) (y.zs.length + 1) cap2) := ⟨_, rfl⟩
 have hbox := TvB.store (p := y.p + 1) he29 rfl ⟨⟨((hs13).on hbx29).on hbx30, hnd⟩, hpl27, hn27⟩ HK0.out
 rw [show ((y.p + 1 : Nat) : Int) = (y.p : Int) + 1 from rfl, show (k :: y.zs).length = y.zs.length + 1 from rfl, ← hX31] at hbox
 have HBx31 : Below wk.heap.size wk Xx31 := by rw [hX31]; exact (((HBx30).setCell (p := ⟨Xx2.heap.size, 0, none⟩) hlo29 _).setCell (p := ⟨Xx2.heap.size, 1, none⟩) hlo29 _).setCell (p := ⟨Xx2.heap.size, 2, none⟩) hlo29 _
 obtain ⟨k0, k1, k2, z0, z1, z2⟩ := tbox_facts he29
 refine run_one (i := 30) (by kernel_rfl) rfl rfl ?_
 intro K hK
 go_simp
 rw [← hX31]
 refine hK.out _ _ (HKS20.out _ HBx31) ?_
 clear hK K k0 k1 k2 z0 z1 z2 hX31
 intro _
 refine wpAnyH_done (by kernel_rfl) ?_ _
 refine NoPanic.normal ?_
 (try go_simp)
 first
   | exact HQ.out _ _ _ _ _ _ _ _ _ _ _ _ _ _ _ _ _ _ _ _ _ _ _ _ _ _ _ _ _ _ _ _ hbox HKEY.out HBx31
   | (go_wp2_with fail; exact HQ.out _ _ _ _ _ _ _ _ _ _ _ _ _ _ _ _ _ _ _ _ _ _ _ _ _ _ _ _ _ _ _ _ hbox HKEY.out HBx31)
 }
 refine AllReadyH.cons rfl (fun K hK => ?_) ?_
 {
 obtain ⟨Xx32, hX32⟩ : ∃ X, X = Xx27.alloc (.cells #[.int .i64 (k : Int)] 3) := ⟨_, rfl⟩
 have hbx32 : Below Xx27.heap.size Xx27 Xx32 := by rw [hX32]; exact (Below.refl _ _).alloc (Nat.le_refl _) _
 have h21 : Xx32.heap[Xx27.heap.size]? = some (.cells #[.int .i64 (k : Int)] 3 (0, 0)) := by rw [hX32]; exact alloc_at _ _ _ rfl
 have hne21 : Xx27.heap.size ≠ g := by have h2 := HBx27.size; have h3 := HGLT.out; omega
 have HBx32 := below_next HBx27 hbx32
 refine wp_val (v := .slice (some ⟨Xx27.heap.size, 0, none⟩) 1 1) (w' := Xx32) (by rw [hX32]; kernel_rfl) ?_
 refine hK.out _ _ (HKS20.out _ HBx32) ?_
 clear hK K hX32
 intro _
 refine run_one (i := 13) (by kernel_rfl) rfl rfl ?_
 intro K hK
 refine wp_call (rnatAddN_any A7 y.A1 c7 y.c1 l7 y.l1 _ _ Xx32 (((hs7).on hbx27).on hbx32) (HYR.out.1.1.on HBx32) (HLN.out _ _ _ _ _ (((hs7).on hbx27).on hbx32) HZZ.out.2.1) HLY.out) (by kernel_rfl) ?_
 rintro e Xx33 ⟨Ad, cd, ld, rfl, hs13, hbx33, hns13⟩
 have hnd : ∀ b q, Ad = some ⟨b, q, none⟩ → b ≠ g := fun b q e => by have h1 := hns13 b q e; have h2 := HBx32.size; have h3 := HGLT.out; omega
 have HBx33 := below_next HBx32 hbx33
 refine ⟨_, rfl, hK.out _ _ (HKS20.out _ HBx33) ?_⟩
 clear hK K
 intro _
 refine run_one (i := 27) (by kernel_rfl) rfl rfl ?_
 intro K hK
 refine wp_app_one (.tmp 94) (.tmp 99) 22 (by kernel_rfl) 3 i0 Tryz.underlying22 hi0 hz0 hz1 hz2 (Xx27.heap.size) k (by kernel_rfl) (((hbx33.block _ (heap_lt (h21))).trans (h21))) y.A2 y.c2 y.zs (by kernel_rfl) (HYR.out.2.1.on HBx33) HZL.out ?_
 intro g2 cap2 Xx34 hpl27 hbx34 hg27
 have hn27 : ∀ b q, (some ⟨g2, 0, none⟩ : Option Addr) = some ⟨b, q, none⟩ → b ≠ g := fun b q e => by
   simp only [Option.some.injEq, Addr.mk.injEq, and_true] at e
   have h2 := HBx33.size
   have h3 := HGLT.out
   rcases hg27 with h | h <;> omega
 have HBx34 := below_next HBx33 hbx34
 refine hK.out _ _ (HKS20.out _ HBx34) ?_
 clear hK K
 intro _
 have HS0 := HKS20.out _ HBx34
 refine wpAnyH_take (i := 28) (v := ?_) rfl (by kernel_rfl) (by kernel_rfl) (by kernel_rfl) (fun _ _ _ h => h) (Or.inl ⟨by kernel_rfl, ?_⟩) HS0 ?_
 rotate_left
 · intro W hW; (try dsimp only at hW); go_simp; try (with_reducible rfl)
 clear HS0
 have he29 := ((hbx34.block _ (heap_lt (((hbx33.block _ (heap_lt (((hbx32.block _ (heap_lt (h29))).trans (h29))))).trans (((hbx32.block _ (heap_lt (h29))).trans (h29))))))).trans (((hbx33.block _ (heap_lt (((hbx32.block _ (heap_lt (h29))).trans (h29))))).trans (((hbx32.block _ (heap_lt (h29))).trans (h29))))))
 obtain ⟨Xx35, hX35⟩ : ∃ X, X = ((Xx34.setCell ⟨Xx2.heap.size, 0, none⟩ (.slice Ad ld.length cd)).setCell ⟨Xx2.heap.size, 1, none⟩ (.int .i64 ((y.p : Int) + 1))).setCell ⟨Xx2.heap.size, 2, none⟩ (.slice (some ⟨g2, 0, none⟩) (y.zs.length + 1) cap2) := ⟨_, rfl⟩
 have hbox := TvB.store (p := y.p + 1) he29 rfl ⟨⟨(hs13).on hbx34, hnd⟩, hpl27, hn27⟩ HK0.out
 rw [show ((y.p + 1 : Nat) : Int) = (y.p : Int) + 1 from rfl, show (k :: y.zs).length = y.zs.length + 1 from rfl, ← hX35] at hbox
 have HBx35 : Below wk.heap.size wk Xx35 := by rw [hX35]; exact (((HBx34).setCell (p := ⟨Xx2.heap.size, 0, none⟩) hlo29 _).setCell (p := ⟨Xx2.heap.size, 1, none⟩) hlo29 _).setCell (p := ⟨Xx2.heap.size, 2, none⟩) hlo29 _
 obtain ⟨k0, k1, k2, z0, z1, z2⟩ := tbox_facts he29
 refine run_one (i := 30) (by kernel_rfl) rfl rfl ?_
 intro K hK
 go_simp
 rw [← hX35]
 refine hK.out _ _ (HKS20.out _ HBx35) ?_
 clear hK K k0 k1 k2 z0 z1 z2 hX35
 intro _
 refine wpAnyH_done (by kernel_rfl) ?_ _
 refine NoPanic.normal ?_
 (try go_simp)
 first
   | exact HQ.out _ _ _ _ _ _ _ _ _ _ _ _ _ _ _ _ _ _ _ _ _ _ _ _ _ _ _ _ _ _ _ _ hbox HKEY.out HBx35
   | (go_wp2_with fail; exact HQ.out _ _ _ _ _ _ _ _ _ _ _ _ _ _ _ _ _ _ _ _ _ _ _ _ _ _ _ _ _ _ _ _ hbox HKEY.out HBx35)
 }
 exact AllReadyH.nil
 }
 exact AllReadyH.nil
 }
 refine AllReadyH.cons rfl (fun K hK => ?_) ?_
 {
 obtain ⟨Xx36, hX36⟩ : ∃ X, X = Xx1.alloc (.cells #[.int .i64 (k : Int)] 3) := ⟨_, rfl⟩
 have hbx36 : Below Xx1.heap.size Xx1 Xx36 := by rw [hX36]; exact (Below.refl _ _).alloc (Nat.le_refl _) _
 have h21 : Xx36.heap[Xx1.heap.size]? = some (.cells #[.int .i64 (k : Int)] 3 (0, 0)) := by rw [hX36]; exact alloc_at _ _ _ rfl
 have hne21 : Xx1.heap.size ≠ g := by have h2 := HBx1.size; have h3 := HGLT.out; omega
 have HBx36 := below_next HBx1 hbx36
 refine wp_val (v := .slice (some ⟨Xx1.heap.size, 0, none⟩) 1 1) (w' := Xx36) (by rw [hX36]; kernel_rfl) ?_
 refine hK.out _ _ (HKS20.out _ HBx36) ?_
 clear hK K hX36
 intro _
 refine wpAnyH_ready (rs := [7, 29]) (by kernel_rfl) (by simp) ?_
 refine AllReadyH.cons rfl (fun K hK => ?_) ?_
 {
 refine wp_call (rnatAdd_any As' AE cs' cE ls' lE _ _ Xx36 ((hs5).on hbx36) (HEN.out Xx36 HBx36) (HLN.out _ _ _ _ _ ((hs5).on hbx36) HZZ.out.1) HLE.out) (by kernel_rfl) ?_
 rintro e Xx37 ⟨A7, c7, l7, rfl, hs7, hbx37⟩
 have HBx37 := below_next HBx36 hbx37
 refine ⟨_, rfl, hK.out _ _ (HKS20.out _ HBx37) ?_⟩
 clear hK K
 intro _
 refine wpAnyH_ready (rs := [13, 29]) (by kernel_rfl) (by simp) ?_
 refine AllReadyH.cons rfl (fun K hK => ?_) ?_
 {
 refine wp_call (rnatAddN_any A7 y.A1 c7 y.c1 l7 y.l1 _ _ Xx37 (hs7) (HYR.out.1.1.on HBx37) (HLN.out _ _ _ _ _ (hs7) HZZ.out.2.1) HLY.out) (by kernel_rfl) ?_
 rintro e Xx38 ⟨Ad, cd, ld, rfl, hs13, hbx38, hns13⟩
 have hnd : ∀ b q, Ad = some ⟨b, q, none⟩ → b ≠ g := fun b q e => by have h1 := hns13 b q e; have h2 := HBx37.size; have h3 := HGLT.out; omega
 have HBx38 := below_next HBx37 hbx38
 refine ⟨_, rfl, hK.out _ _ (HKS20.out _ HBx38) ?_⟩
 clear hK K
 intro _
 refine wpAnyH_ready (rs := [27, 29]) (by kernel_rfl) (by simp) ?_
 refine AllReadyH.cons rfl (fun K hK => ?_) ?_
 {
 refine wp_app_one (.tmp 94) (.tmp 99) 22 (by kernel_rfl) 3 i0 Tryz.underlying22 hi0 hz0 hz1 hz2 (Xx1.heap.size) k (by kernel_rfl) (((hbx38.block _ (heap_lt (((hbx37.block _ (heap_lt (h21))).trans (h21))))).trans (((hbx37.block _ (heap_lt (h21))).trans (h21))))) y.A2 y.c2 y.zs (by kernel_rfl) (HYR.out.2.1.on HBx38) HZL.out ?_
 intro g2 cap2 Xx39 hpl27 hbx39 hg27
 have hn27 : ∀ b q, (some ⟨g2, 0, none⟩ : Option Addr) = some ⟨b, q, none⟩ → b ≠ g := fun b q e => by
   simp only [Option.some.injEq, Addr.mk.injEq, and_true] at e
   have h2 := HBx38.size
   have h3 := HGLT.out
   rcases hg27 with h | h <;> omega
 have HBx39 := below_next HBx38 hbx39
 refine hK.out _ _ (HKS20.out _ HBx39) ?_
 clear hK K
 intro _
 have HS0 := HKS20.out _ HBx39
 refine wpAnyH_take (i := 28) (v := ?_) rfl (by kernel_rfl) (by kernel_rfl) (by kernel_rfl) (fun _ _ _ h => h) (Or.inl ⟨by kernel_rfl, ?_⟩) HS0 ?_
 rotate_left
 · intro W hW; (try dsimp only at hW); go_simp; try (with_reducible rfl)
 clear HS0
 refine run_one (i := 29) (by kernel_rfl) rfl rfl ?_
 intro K hK
 obtain ⟨Xx40, hX40⟩ : ∃ X, X = Xx39.alloc (.cells #[.slice none 0 0, .int .i64 0, .slice none 0 0] 87) := ⟨_, rfl⟩
 have hbx40 : Below Xx39.heap.size Xx39 Xx40 := by rw [hX40]; exact (Below.refl _ _).alloc (Nat.le_refl _) _
 have h29 : Xx40.heap[Xx39.heap.size]? = some (.cells #[.slice none 0 0, .int .i64 0, .slice none 0 0] 87 (0, 0)) := by rw [hX40]; exact alloc_at _ _ _ rfl
 have hlo29 : wk.heap.size ≤ Xx39.heap.size := HBx39.size
 have HBx40 := below_next HBx39 hbx40
 refine wp_val (v := .pointer (some ⟨Xx39.heap.size, 0, none⟩)) (w' := Xx40) (by rw [hX40]; kernel_rfl) ?_
 refine hK.out _ _ (HKS20.out _ HBx40) ?_
 clear hK K hX40
 intro _
 have he29 := h29
 obtain ⟨Xx41, hX41⟩ : ∃ X, X = ((Xx40.setCell ⟨Xx39.heap.size, 0, none⟩ (.slice Ad ld.length cd)).setCell ⟨Xx39.heap.size, 1, none⟩ (.int .i64 ((y.p : Int) + 1))).setCell ⟨Xx39.heap.size, 2, none⟩ (.slice (some ⟨g2, 0, none⟩) (y.zs.length + 1) cap2) := ⟨_, rfl⟩
 have hbox := TvB.store (p := y.p + 1) he29 rfl ⟨⟨((hs13).on hbx39).on hbx40, hnd⟩, (hpl27).on hbx40, hn27⟩ HK0.out
 rw [show ((y.p + 1 : Nat) : Int) = (y.p : Int) + 1 from rfl, show (k :: y.zs).length = y.zs.length + 1 from rfl, ← hX41] at hbox
 have HBx41 : Below wk.heap.size wk Xx41 := by rw [hX41]; exact (((HBx40).setCell (p := ⟨Xx39.heap.size, 0, none⟩) hlo29 _).setCell (p := ⟨Xx39.heap.size, 1, none⟩) hlo29 _).setCell (p := ⟨Xx39.heap.size, 2, none⟩) hlo29 _
 obtain ⟨k0, k1, k2, z0, z1, z2⟩ := tbox_facts he29
 refine run_one (i := 30) (by kernel_rfl) rfl rfl ?_
 intro K hK
 go_simp
 rw [← hX41]
 refine hK.out _ _ (HKS20.out _ HBx41) ?_
 clear hK K k0 k1 k2 z0 z1 z2 hX41
 intro _
 refine wpAnyH_done (by kernel_rfl) ?_ _
 refine NoPanic.normal ?_
 (try go_simp)
 first
   | exact HQ.out _ _ _ _ _ _ _ _ _ _ _ _ _ _ _ _ _ _ _ _ _ _ _ _ _ _ _ _ _ _ _ _ hbox HKEY.out HBx41
   | (go_wp2_with fail; exact HQ.out _ _ _ _ _ _ _ _ _ _ _ _ _ _ _ _ _ _ _ _ _ _ _ _ _ _ _ _ _ _ _ _ hbox HKEY.out HBx41)
 }
 refine AllReadyH.cons rfl (fun K hK => ?_) ?_
 {
 obtain ⟨Xx42, hX42⟩ : ∃ X, X = Xx38.alloc (.cells #[.slice none 0 0, .int .i64 0, .slice none 0 0] 87) := ⟨_, rfl⟩
 have hbx42 : Below Xx38.heap.size Xx38 Xx42 := by rw [hX42]; exact (Below.refl _ _).alloc (Nat.le_refl _) _
 have h29 : Xx42.heap[Xx38.heap.size]? = some (.cells #[.slice none 0 0, .int .i64 0, .slice none 0 0] 87 (0, 0)) := by rw [hX42]; exact alloc_at _ _ _ rfl
 have hlo29 : wk.heap.size ≤ Xx38.heap.size := HBx38.size
 have HBx42 := below_next HBx38 hbx42
 refine wp_val (v := .pointer (some ⟨Xx38.heap.size, 0, none⟩)) (w' := Xx42) (by rw [hX42]; kernel_rfl) ?_
 refine hK.out _ _ (HKS20.out _ HBx42) ?_
 clear hK K hX42
 intro _
 refine run_one (i := 27) (by kernel_rfl) rfl rfl ?_
 intro K hK
 refine wp_app_one (.tmp 94) (.tmp 99) 22 (by kernel_rfl) 3 i0 Tryz.underlying22 hi0 hz0 hz1 hz2 (Xx1.heap.size) k (by kernel_rfl) (((hbx42.block _ (heap_lt (((hbx38.block _ (heap_lt (((hbx37.block _ (heap_lt (h21))).trans (h21))))).trans (((hbx37.block _ (heap_lt (h21))).trans (h21))))))).trans (((hbx38.block _ (heap_lt (((hbx37.block _ (heap_lt (h21))).trans (h21))))).trans (((hbx37.block _ (heap_lt (h21))).trans (h21))))))) y.A2 y.c2 y.zs (by kernel_rfl) (HYR.out.2.1.on HBx42) HZL.out ?_
 intro g2 cap2 Xx43 hpl27 hbx43 hg27
 have hn27 : ∀ b q, (some ⟨g2, 0, none⟩ : Option Addr) = some ⟨b, q, none⟩ → b ≠ g := fun b q e => by
   simp only [Option.some.injEq, Addr.mk.injEq, and_true] at e
   have h2 := HBx42.size
   have h3 := HGLT.out
   rcases hg27 with h | h <;> omega
 have HBx43 := below_next HBx42 hbx43
 refine hK.out _ _ (HKS20.out _ HBx43) ?_
 clear hK K
 intro _
 have HS0 := HKS20.out _ HBx43
 refine wpAnyH_take (i := 28) (v := ?_) rfl (by kernel_rfl) (by kernel_rfl) (by kernel_rfl) (fun _ _ _ h => h) (Or.inl ⟨by kernel_rfl, ?_⟩) HS0 ?_
 rotate_left
 · intro W hW; (try dsimp only at hW); go_simp; try (with_reducible rfl)
 clear HS0
 have he29 := ((hbx43.block _ (heap_lt (h29))).trans (h29))
 obtain ⟨Xx44, hX44⟩ : ∃ X, X = ((Xx43.setCell ⟨Xx38.heap.size, 0, none⟩ (.slice Ad ld.length cd)).setCell ⟨Xx38.heap.size, 1, none⟩ (.int .i64 ((y.p : Int) + 1))).setCell ⟨Xx38.heap.size, 2, none⟩ (.slice (some ⟨g2, 0, none⟩) (y.zs.length + 1) cap2) := ⟨_, rfl⟩
 have hbox := TvB.store (p := y.p + 1) he29 rfl ⟨⟨((hs13).on hbx42).on hbx43, hnd⟩, hpl27, hn27⟩ HK0.out
 rw [show ((y.p + 1 : Nat) : Int) = (y.p : Int) + 1 from rfl, show (k :: y.zs).length = y.zs.length + 1 from rfl, ← hX44] at hbox
 have HBx44 : Below wk.heap.size wk Xx44 := by rw [hX44]; exact (((HBx43).setCell (p := ⟨Xx38.heap.size, 0, none⟩) hlo29 _).setCell (p := ⟨Xx38.heap.size, 1, none⟩) hlo29 _).setCell (p := ⟨Xx38.heap.size, 2, none⟩) hlo29 _
 obtain ⟨k0, k1, k2, z0, z1, z2⟩ := tbox_facts he29
 refine run_one (i := 30) (by kernel_rfl) rfl rfl ?_
 intro K hK
 go_simp
 rw [← hX44]
 refine hK.out _ _ (HKS20.out _ HBx44) ?_
 clear hK K k0 k1 k2 z0 z1 z2 hX44
 intro _
 refine wpAnyH_done (by kernel_rfl) ?_ _
 refine NoPanic.normal ?_
 (try go_simp)
 first
   | exact HQ.out _ _ _ _ _ _ _ _ _ _ _ _ _ _ _ _ _ _ _ _ _ _ _ _ _ _ _ _ _ _ _ _ hbox HKEY.out HBx44
   | (go_wp2_with fail; exact HQ.out _ _ _ _ _ _ _ _ _ _ _ _ _ _ _ _ _ _ _ _ _ _ _ _ _ _ _ _ _ _ _ _ hbox HKEY.out HBx44)
 }
 exact AllReadyH.nil
 }
 refine AllReadyH.cons rfl (fun K hK => ?_) ?_
 {
 obtain ⟨Xx45, hX45⟩ : ∃ X, X = Xx37.alloc (.cells #[.slice none 0 0, .int .i64 0, .slice none 0 0] 87) := ⟨_, rfl⟩
 have hbx45 : Below Xx37.heap.size Xx37 Xx45 := by rw [hX45]; exact (Below.refl _ _).alloc (Nat.le_refl _) _
 have h29 : Xx45.heap[Xx37.heap.size]? = some (.cells #[.slice none 0 0, .int .i64 0, .slice none 0 0] 87 (0, 0)) := by rw [hX45]; exact alloc_at _ _ _ rfl
 have hlo29 : wk.heap.size ≤ Xx37.heap.size := HBx37.size
 have HBx45 := below_next HBx37 hbx45
 refine wp_val (v := .pointer (some ⟨Xx37.heap.size, 0, none⟩)) (w' := Xx45) (by rw [hX45]; kernel_rfl) ?_
 refine hK.out _ _ (HKS20.out _ HBx45) ?_
 clear hK K hX45
 intro _
 refine run_one (i := 13) (by kernel_rfl) rfl rfl ?_
 intro K hK
 refine wp_call (rnatAddN_any A7 y.A1 c7 y.c1 l7 y.l1 _ _ Xx45 ((hs7).on hbx45) (HYR.out.1.1.on HBx45) (HLN.out _ _ _ _ _ ((hs7).on hbx45) HZZ.out.2.1) HLY.out) (by kernel_rfl) ?_
 rintro e Xx46 ⟨Ad, cd, ld, rfl, hs13, hbx46, hns13⟩
 have hnd : ∀ b q, Ad = some ⟨b, q, none⟩ → b ≠ g := fun b q e => by have h1 := hns13 b q e; have h2 := HBx45.size; have h3 := HGLT.out; omega
 have HBx46 := below_next HBx45 hbx46
 refine ⟨_, rfl, hK.out _ _ (HKS20.out _ HBx46) ?_⟩
 clear hK K
 intro _
 refine run_one (i := 27) (by kernel_rfl) rfl rfl ?_
 intro K hK
 refine wp_app_one (.tmp 94) (.tmp 99) 22 (by kernel_rfl) 3 i0 Tryz.underlying22 hi0 hz0 hz1 hz2 (Xx1.heap.size) k (by kernel_rfl) (((hbx46.block _ (heap_lt (((hbx45.block _ (heap_lt (((hbx37.block _ (heap_lt (h21))).trans (h21))))).trans (((hbx37.block _ (heap_lt (h21))).trans (h21))))))).trans (((hbx45.block _ (heap_lt (((hbx37.block _ (heap_lt (h21))).trans (h21))))).trans (((hbx37.block _ (heap_lt (h21))).trans (h21))))))) y.A2 y.c2 y.zs (by kernel_rfl) (HYR.out.2.1.on HBx46) HZL.out ?_
 intro g2 cap2 Xx47 hpl27 hbx47 hg27
 have hn27 : ∀ b q, (some ⟨g2, 0, none⟩ : Option Addr) = some ⟨b, q, none⟩ → b ≠ g := fun b q e => by
   simp only [Option.some.injEq, Addr.mk.injEq, and_true] at e
   have h2 := HBx46.size
   have h3 := HGLT.out
   rcases hg27 with h | h <;> omega
 have HBx47 := below_next HBx46 hbx47
 refine hK.out _ _ (HKS20.out _ HBx47) ?_
 clear hK K
 intro _
 have HS0 := HKS20.out _ HBx47
 refine wpAnyH_take (i := 28) (v := ?_) rfl (by kernel_rfl) (by kernel_rfl) (by kernel_rfl) (fun _ _ _ h => h) (Or.inl ⟨by kernel_rfl, ?_⟩) HS0 ?_
 rotate_left
 · intro W hW; (try dsimp only at hW); go_simp; try (with_reducible rfl)
 clear HS0
 have he29 := ((hbx47.block _ (heap_lt (((hbx46.block _ (heap_lt (h29))).trans (h29))))).trans (((hbx46.block _ (heap_lt (h29))).trans (h29))))
 obtain ⟨Xx48, hX48⟩ : ∃ X, X = ((Xx47.setCell ⟨Xx37.heap.size, 0, none⟩ (.slice Ad ld.length cd)).setCell ⟨Xx37.heap.size, 1, none⟩ (.int .i64 ((y.p : Int) + 1))).setCell ⟨Xx37.heap.size, 2, none⟩ (.slice (some ⟨g2, 0, none⟩) (y.zs.length + 1) cap2) := ⟨_, rfl⟩
 have hbox := TvB.store (p := y.p + 1) he29 rfl ⟨⟨(hs13).on hbx47, hnd⟩, hpl27, hn27⟩ HK0.out
 rw [show ((y.p + 1 : Nat) : Int) = (y.p : Int) + 1 from rfl, show (k :: y.zs).length = y.zs.length + 1 from rfl, ← hX48] at hbox
 have HBx48 : Below wk.heap.size wk Xx48 := by rw [hX48]; exact (((HBx47).setCell (p := ⟨Xx37.heap.size, 0, none⟩) hlo29 _).setCell (p := ⟨Xx37.heap.size, 1, none⟩) hlo29 _).setCell (p := ⟨Xx37.heap.size, 2, none⟩) hlo29 _
 obtain ⟨k0, k1, k2, z0, z1, z2⟩ := tbox_facts he29
 refine run_one (i := 30) (by kernel_rfl) rfl rfl ?_
 intro K hK
 go_simp
 rw [← hX48]
 refine hK.out _ _ (HKS20.out _ HBx48) ?_
 clear hK K k0 k1 k2 z0 z1 z2 hX48
 intro _
 refine wpAnyH_done (by kernel_rfl) ?_ _
 refine NoPanic.normal ?_
 (try go_simp)
 first
   | exact HQ.out _ _ _ _ _ _ _ _ _ _ _ _ _ _ _ _ _ _ _ _ _ _ _ _ _ _ _ _ _ _ _ _ hbox HKEY.out HBx48
   | (go_wp2_with fail; exact HQ.out _ _ _ _ _ _ _ _ _ _ _ _ _ _ _ _ _ _ _ _ _ _ _ _ _ _ _ _ _ _ _ _ hbox HKEY.out HBx48)
 }
 exact AllReadyH.nil
 }
 refine AllReadyH.cons rfl (fun K hK => ?_) ?_
 {
 obtain ⟨Xx49, hX49⟩ : ∃ X, X = Xx36.alloc (.cells #[.slice none 0 0, .int .i64 0, .slice none 0 0] 87) := ⟨_, rfl⟩
 have hbx49 : Below Xx36.heap.size Xx36 Xx49 := by rw [hX49]; exact (Below.refl _ _).alloc (Nat.le_refl _) _
 have h29 : Xx49.heap[Xx36.heap.size]? = some (.cells #[.slice none 0 0, .int .i64 0, .slice none 0 0] 87 (0, 0)) := by rw [hX49]; exact alloc_at _ _ _ rfl
 have hlo29 : wk.heap.size ≤ Xx36.heap.size := HBx36.size
 have HBx49 := below_next HBx36 hbx49
 refine wp_val (v := .pointer (some ⟨Xx36.heap.size, 0, none⟩)) (w' := Xx49) (by rw [hX49]; kernel_rfl) ?_
 refine hK.out _ _ (HKS20.out _ HBx49) ?_
 clear hK K hX49
 intro _
 refine run_one (i := 7) (by kernel_rfl) rfl rfl ?_
 intro K hK
 refine wp_call (rnatAdd_any As' AE cs' cE ls' lE _ _ Xx49 (((hs5).on hbx36).on hbx49) (HEN.out Xx49 HBx49) (HLN.out _ _ _ _ _ (((hs5).on hbx36).on hbx49) HZZ.out.1) HLE.out) (by kernel_rfl) ?_
 rintro e Xx50 ⟨A7, c7, l7, rfl, hs7, hbx50⟩
 have HBx50 := below_next HBx49 hbx50
 refine ⟨_, rfl, hK.out _ _ (HKS20.out _ HBx50) ?_⟩
 clear hK K
 intro _
 refine run_one (i := 13) (by kernel_rfl) rfl rfl ?_
 intro K hK
 refine wp_call (rnatAddN_any A7 y.A1 c7 y.c1 l7 y.l1 _ _ Xx50 (hs7) (HYR.out.1.1.on HBx50) (HLN.out _ _ _ _ _ (hs7) HZZ.out.2.1) HLY.out) (by kernel_rfl) ?_
 rintro e Xx51 ⟨Ad, cd, ld, rfl, hs13, hbx51, hns13⟩
 have hnd : ∀ b q, Ad = some ⟨b, q, none⟩ → b ≠ g := fun b q e => by have h1 := hns13 b q e; have h2 := HBx50.size; have h3 := HGLT.out; omega
 have HBx51 := below_next HBx50 hbx51
 refine ⟨_, rfl, hK.out _ _ (HKS20.out _ HBx51) ?_⟩
 clear hK K
 intro _
 refine run_one (i := 27) (by kernel_rfl) rfl rfl ?_
 intro K hK
 refine wp_app_one (.tmp 94) (.tmp 99) 22 (by kernel_rfl) 3 i0 Tryz.underlying22 hi0 hz0 hz1 hz2 (Xx1.heap.size) k (by kernel_rfl) (((hbx51.block _ (heap_lt (((hbx50.block _ (heap_lt (((hbx49.block _ (heap_lt (h21))).trans (h21))))).trans (((hbx49.block _ (heap_lt (h21))).trans (h21))))))).trans (((hbx50.block _ (heap_lt (((hbx49.block _ (heap_lt (h21))).trans (h21))))).trans (((hbx49.block _ (heap_lt (h21))).trans (h21))))))) y.A2 y.c2 y.zs (by kernel_rfl) (HYR.out.2.1.on HBx51) HZL.out ?_
 intro g2 cap2 Xx52 hpl27 hbx52 hg27
 have hn27 : ∀ b q, (some ⟨g2, 0, none⟩ : Option Addr) = some ⟨b, q, none⟩ → b ≠ g := fun b q e => by
   simp only [Option.some.injEq, Addr.mk.injEq, and_true] at e
   have h2 := HBx51.size
   have h3 := HGLT.out
   rcases hg27 with h | h <;> omega
 have HBx52 := below_next HBx51 hbx52
 refine hK.out _ _ (HKS20.out _ HBx52) ?_
 clear hK K
 intro _
 have HS0 := HKS20.out _ HBx52
 refine wpAnyH_take (i := 28) (v := ?_) rfl (by kernel_rfl) (by kernel_rfl) (by kernel_rfl) (fun _ _ _ h => h) (Or.inl ⟨by kernel_rfl, ?_⟩) HS0 ?_
 rotate_left
 · intro W hW; (try dsimp only at hW); go_simp; try (with_reducible rfl)
 clear HS0
 have he29 := ((hbx52.block _ (heap_lt (((hbx51.block _ (heap_lt (((hbx50.block _ (heap_lt (h29))).trans (h29))))).trans (((hbx50.block _ (heap_lt (h29))).trans (h29))))))).trans (((hbx51.block _ (heap_lt (((hbx50.block _ (heap_lt (h29))).trans (h29))))).trans (((hbx50.block _ (heap_lt (h29))).trans (h29))))))
 obtain ⟨Xx53, hX53⟩ : ∃ X, X = ((Xx52.setCell ⟨Xx36.heap.size, 0, none⟩ (.slice Ad ld.length cd)).setCell ⟨Xx36.heap.size, 1, none⟩ (.int .i64 ((y.p : Int) + 1))).setCell ⟨Xx36.heap.size, 2, none⟩ (.slice (some ⟨g2, 0, none⟩) (y.zs.length + 1) cap2) := ⟨_, rfl⟩
 have hbox := TvB.store (p := y.p + 1) he29 rfl ⟨⟨(hs13).on hbx52, hnd⟩, hpl27, hn27⟩ HK0.out
 rw [show ((y.p + 1 : Nat) : Int) = (y.p : Int) + 1 from rfl, show (k :: y.zs).length = y.zs.length + 1 from rfl, ← hX53] at hbox
 have HBx53 : Below wk.heap.size wk Xx53 := by rw [hX53]; exact (((HBx52).setCell (p := ⟨Xx36.heap.size, 0, none⟩) hlo29 _).setCell (p := ⟨Xx36.heap.size, 1, none⟩) hlo29 _).setCell (p := ⟨Xx36.heap.size, 2, none⟩) hlo29 _
 obtain ⟨k0, k1, k2, z0, z1, z2⟩ := tbox_facts he29
 refine run_one (i := 30) (by kernel_rfl) rfl rfl ?_
 intro K hK
 go_simp
 rw [← hX53]
 refine hK.out _ _ (HKS20.out _ HBx53) ?_
 clear hK K k0 k1 k2 z0 z1 z2 hX53
 intro _
 refine wpAnyH_done (by kernel_rfl) ?_ _
 refine NoPanic.normal ?_
 (try go_simp)
 first
   | exact HQ.out _ _ _ _ _ _ _ _ _ _ _ _ _ _ _ _ _ _ _ _ _ _ _ _ _ _ _ _ _ _ _ _ hbox HKEY.out HBx53
   | (go_wp2_with fail; exact HQ.out _ _ _ _ _ _ _ _ _ _ _ _ _ _ _ _ _ _ _ _ _ _ _ _ _ _ _ _ _ _ _ _ hbox HKEY.out HBx53)
 }
 exact AllReadyH.nil
 }
 refine AllReadyH.cons rfl (fun K hK => ?_) ?_
 {
 obtain ⟨Xx54, hX54⟩ : ∃ X, X = Xx1.alloc (.cells #[.slice none 0 0, .int .i64 0, .slice none 0 0] 87) := ⟨_, rfl⟩
 have hbx54 : Below Xx1.heap.size Xx1 Xx54 := by rw [hX54]; exact (Below.refl _ _).alloc (Nat.le_refl _) _
 have h29 : Xx54.heap[Xx1.heap.size]? = some (.cells #[.slice none 0 0, .int .i64 0, .slice none 0 0] 87 (0, 0)) := by rw [hX54]; exact alloc_at _ _ _ rfl
 have hlo29 : wk.heap.size ≤ Xx1.heap.size := HBx1.size
 have HBx54 := below_next HBx1 hbx54
 refine wp_val (v := .pointer (some ⟨Xx1.heap.size, 0, none⟩)) (w' := Xx54) (by rw [hX54]; kernel_rfl) ?_
 refine hK.out _ _ (HKS20.out _ HBx54) ?_
 clear hK K hX54
 intro _
 refine wpAnyH_ready (rs := [7, 21]) (by kernel_rfl) (by simp) ?_
 refine AllReadyH.cons rfl (fun K hK => ?_) ?_
 {
 refine wp_call (rnatAdd_any As' AE cs' cE ls' lE _ _ Xx54 ((hs5).on hbx54) (HEN.out Xx54 HBx54) (HLN.out _ _ _ _ _ ((hs5).on hbx54) HZZ.out.1) HLE.out) (by kernel_rfl) ?_
 rintro e Xx55 ⟨A7, c7, l7, rfl, hs7, hbx55⟩
 have HBx55 := below_next HBx54 hbx55
 refine ⟨_, rfl, hK.out _ _ (HKS20.out _ HBx55) ?_⟩
 clear hK K
 intro _
 refine wpAnyH_ready (rs := [13, 21]) (by kernel_rfl) (by simp) ?_
 refine AllReadyH.cons rfl (fun K hK => ?_) ?_
 {
 refine wp_call (rnatAddN_any A7 y.A1 c7 y.c1 l7 y.l1 _ _ Xx55 (hs7) (HYR.out.1.1.on HBx55) (HLN.out _ _ _ _ _ (hs7) HZZ.out.2.1) HLY.out) (by kernel_rfl) ?_
 rintro e Xx56 ⟨Ad, cd, ld, rfl, hs13, hbx56, hns13⟩
 have hnd : ∀ b q, Ad = some ⟨b, q, none⟩ → b ≠ g := fun b q e => by have h1 := hns13 b q e; have h2 := HBx55.size; have h3 := HGLT.out; omega
 have HBx56 := below_next HBx55 hbx56
 refine ⟨_, rfl, hK.out _ _ (HKS20.out _ HBx56) ?_⟩
 clear hK K
 intro _
 refine run_one (i := 21) (by kernel_rfl) rfl rfl ?_
 intro K hK
 obtain ⟨Xx57, hX57⟩ : ∃ X, X = Xx56.alloc (.cells #[.int .i64 (k : Int)] 3) := ⟨_, rfl⟩
 have hbx57 : Below Xx56.heap.size Xx56 Xx57 := by rw [hX57]; exact (Below.refl _ _).alloc (Nat.le_refl _) _
 have h21 : Xx57.heap[Xx56.heap.size]? = some (.cells #[.int .i64 (k : Int)] 3 (0, 0)) := by rw [hX57]; exact alloc_at _ _ _ rfl
 have hne21 : Xx56.heap.size ≠ g := by have h2 := HBx56.size; have h3 := HGLT.out; omega
 have HBx57 := below_next HBx56 hbx57
 refine wp_val (v := .slice (some ⟨Xx56.heap.size, 0, none⟩) 1 1) (w' := Xx57) (by rw [hX57]; kernel_rfl) ?_
 refine hK.out _ _ (HKS20.out _ HBx57) ?_
 clear hK K hX57
 intro _
 refine run_one (i := 27) (by kernel_rfl) rfl rfl ?_
 intro K hK
 refine wp_app_one (.tmp 94) (.tmp 99) 22 (by kernel_rfl) 3 i0 Tryz.underlying22 hi0 hz0 hz1 hz2 (Xx56.heap.size) k (by kernel_rfl) (h21) y.A2 y.c2 y.zs (by kernel_rfl) (HYR.out.2.1.on HBx57) HZL.out ?_
 intro g2 cap2 Xx58 hpl27 hbx58 hg27
 have hn27 : ∀ b q, (some ⟨g2, 0, none⟩ : Option Addr) = some ⟨b, q, none⟩ → b ≠ g := fun b q e => by
   simp only [Option.some.injEq, Addr.mk.injEq, and_true] at e
   have h2 := HBx57.size
   have h3 := HGLT.out
   rcases hg27 with h | h <;> omega
 have HBx58 := below_next HBx57 hbx58
 refine hK.out _ _ (HKS20.out _ HBx58) ?_
 clear hK K
 intro _
 have HS0 := HKS20.out _ HBx58
 refine wpAnyH_take (i := 28) (v := ?_) rfl (by kernel_rfl) (by kernel_rfl) (by kernel_rfl) (fun _ _ _ h => h) (Or.inl ⟨by kernel_rfl, ?_⟩) HS0 ?_
 rotate_left
 · intro W hW; (try dsimp only at hW); go_simp; try (with_reducible rfl)
 clear HS0
 have he29 := ((hbx58.block _ (heap_lt (((hbx57.block _ (heap_lt (((hbx56.block _ (heap_lt (((hbx55.block _ (heap_lt (h29))).trans (h29))))).trans (((hbx55.block _ (heap_lt (h29))).trans (h29))))))).trans (((hbx56.block _ (heap_lt (((hbx55.block _ (heap_lt (h29))).trans (h29))))).trans (((hbx55.block _ (heap_lt (h29))).trans (h29))))))))).trans (((hbx57.block _ (heap_lt (((hbx56.block _ (heap_lt (((hbx55.block _ (heap_lt (h29))).trans (h29))))).trans (((hbx55.block _ (heap_lt (h29))).trans (h29))))))).trans (((hbx56.block _ (heap_lt (((hbx55.block _ (heap_lt (h29))).trans (h29))))).trans (((hbx55.block _ (heap_lt (h29))).trans (h29))))))))
 obtain ⟨Xx59, hX59⟩ : ∃ X, X = ((Xx58.setCell ⟨Xx1.heap.size, 0, none⟩ (.slice Ad ld.length cd)).setCell ⟨Xx1.heap.size, 1, none⟩ (.int .i64 ((y.p : Int) + 1))).setCell ⟨Xx1.heap.size, 2, none⟩ (.slice (some ⟨g2, 0, none⟩) (y.zs.length + 1) cap2) := ⟨_, rfl⟩
 have hbox := TvB.store (p := y.p + 1) he29 rfl ⟨⟨((hs13).on hbx57).on hbx58, hnd⟩, hpl27, hn27⟩ HK0.out
 rw [show ((y.p + 1 : Nat) : Int) = (y.p : Int) + 1 from rfl, show (k :: y.zs).length = y.zs.length + 1 from rfl, ← hX59] at hbox
 have HBx59 : Below wk.heap.size wk Xx59 := by rw [hX59]; exact (((HBx58).setCell (p := ⟨Xx1.heap.size, 0, none⟩) hlo29 _).setCell (p := ⟨Xx1.heap.size, 1, none⟩) hlo29 _).setCell (p := ⟨Xx1.heap.size, 2, none⟩) hlo29 _
 obtain ⟨k0, k1, k2, z0, z1, z2⟩ := tbox_facts he29
 refine run_one (i := 30) (by kernel_rfl) rfl rfl ?_
 intro K hK
 go_simp
 rw [← hX59]
 refine hK.out _ _ (HKS20.out _ HBx59) ?_
 clear hK K k0 k1 k2 z0 z1 z2 hX59
 intro _
 refine wpAnyH_done (by kernel_rfl) ?_ _
 refine NoPanic.normal ?_
 (try go_simp)
 first
   | exact HQ.out _ _ _ _ _ _ _ _ _ _ _ _ _ _ _ _ _ _ _ _ _ _ _ _ _ _ _ _ _ _ _ _ hbox HKEY.out HBx59
   | (go_wp2_with fail; exact HQ.out _ _ _ _ _ _ _ _ _ _ _ _ _ _ _ _ _ _ _ _ _ _ _ _ _ _ _ _ _ _ _ _ hbox HKEY.out HBx59)
 }
 refine AllReadyH.cons rfl (fun K hK => ?_) ?_
 {
 obtain ⟨Xx60, hX60⟩ : ∃ X, X = Xx55.alloc (.cells #[.int .i64 (k : Int)] 3) := ⟨_, rfl⟩
 have hbx60 : Below Xx55.heap.size Xx55 Xx60 := by rw [hX60]; exact (Below.refl _ _).alloc (Nat.le_refl _) _
 have h21 : Xx60.heap[Xx55.heap.size]? = some (.cells #[.int .i64 (k : Int)] 3 (0, 0)) := by rw [hX60]; exact alloc_at _ _ _ rfl
 have hne21 : Xx55.heap.size ≠ g := by have h2 := HBx55.size; have h3 := HGLT.out; omega
 have HBx60 := below_next HBx55 hbx60
 refine wp_val (v := .slice (some ⟨Xx55.heap.size, 0, none⟩) 1 1) (w' := Xx60) (by rw [hX60]; kernel_rfl) ?_
 refine hK.out _ _ (HKS20.out _ HBx60) ?_
 clear hK K hX60
 intro _
 refine run_one (i := 13) (by kernel_rfl) rfl rfl ?_
 intro K hK
 refine wp_call (rnatAddN_any A7 y.A1 c7 y.c1 l7 y.l1 _ _ Xx60 ((hs7).on hbx60) (HYR.out.1.1.on HBx60) (HLN.out _ _ _ _ _ ((hs7).on hbx60) HZZ.out.2.1) HLY.out) (by kernel_rfl) ?_
 rintro e Xx61 ⟨Ad, cd, ld, rfl, hs13, hbx61, hns13⟩
 have hnd : ∀ b q, Ad = some ⟨b, q, none⟩ → b ≠ g := fun b q e => by have h1 := hns13 b q e; have h2 := HBx60.size; have h3 := HGLT.out; omega
 have HBx61 := below_next HBx60 hbx61
 refine ⟨_, rfl, hK.out _ _ (HKS20.out _ HBx61) ?_⟩
 clear hK K
 intro _
 refine run_one (i := 27) (by kernel_rfl) rfl rfl ?_
 intro K hK
 refine wp_app_one (.tmp 94) (.tmp 99) 22 (by kernel_rfl) 3 i0 Tryz.underlying22 hi0 hz0 hz1 hz2 (Xx55.heap.size) k (by kernel_rfl) (((hbx61.block _ (heap_lt (h21))).trans (h21))) y.A2 y.c2 y.zs (by kernel_rfl) (HYR.out.2.1.on HBx61) HZL.out ?_
 intro g2 cap2 Xx62 hpl27 hbx62 hg27
 have hn27 : ∀ b q, (some ⟨g2, 0, none⟩ : Option Addr) = some ⟨b, q, none⟩ → b ≠ g := fun b q e => by
   simp only [Option.some.injEq, Addr.mk.injEq, and_true] at e
   have h2 := HBx61.size
   have h3 := HGLT.out
   rcases hg27 with h | h <;> omega
 have HBx62 := below_next HBx61 hbx62
 refine hK.out _ _ (HKS20.out _ HBx62) ?_
 clear hK K
 intro _
 have HS0 := HKS20.out _ HBx62
 refine wpAnyH_take (i := 28) (v := ?_) rfl (by kernel_rfl) (by kernel_rfl) (by kernel_rfl) (fun _ _ _ h => h) (Or.inl ⟨by kernel_rfl, ?_⟩) HS0 ?_
 rotate_left
 · intro W hW; (try dsimp only at hW); go_simp; try (with_reducible rfl)
 clear HS0
 have he29 := ((hbx62.block _ (heap_lt (((hbx61.block _ (heap_lt (((hbx60.block _ (heap_lt (((hbx55.block _ (heap_lt (h29))).trans (h29))))).trans (((hbx55.block _ (heap_lt (h29))).trans (h29))))))).trans (((hbx60.block _ (heap_lt (((hbx55.block _ (heap_lt (h29))).trans (h29))))).trans (((hbx55.block _ (heap_lt (h29))).trans (h29))))))))).trans (((hbx61.block _ (heap_lt (((hbx60.block _ (heap_lt (((hbx55.block _ (heap_lt (h29))).trans (h29))))).trans (((hbx55.block _ (heap_lt (h29))).trans (h29))))))).trans (((hbx60.block _ (heap_lt (((hbx55.block _ (heap_lt (h29))).trans (h29))))).trans (((hbx55.block _ (heap_lt (h29))).trans (h29))))))))
 obtain ⟨Xx63, hX63⟩ : ∃ X, X = ((Xx62.setCell ⟨Xx1.heap.size, 0, none⟩ (.slice Ad ld.length cd)).setCell ⟨Xx1.heap.size, 1, none⟩ (.int .i64 ((y.p : Int) + 1))).setCell ⟨Xx1.heap.size, 2, none⟩ (.slice (some ⟨g2, 0, none⟩) (y.zs.length + 1) cap2) := ⟨_, rfl⟩
 have hbox := TvB.store (p := y.p + 1) he29 rfl ⟨⟨(hs13).on hbx62, hnd⟩, hpl27, hn27⟩ HK0.out
 rw [show ((y.p + 1 : Nat) : Int) = (y.p : Int) + 1 from rfl, show (k :: y.zs).length = y.zs.length + 1 from rfl, ← hX63] at hbox
 have HBx63 : Below wk.heap.size wk Xx63 := by rw [hX63]; exact (((HBx62).setCell (p := ⟨Xx1.heap.size, 0, none⟩) hlo29 _).setCell (p := ⟨Xx1.heap.size, 1, none⟩) hlo29 _).setCell (p := ⟨Xx1.heap.size, 2, none⟩) hlo29 _
 obtain ⟨k0, k1, k2, z0, z1, z2⟩ := tbox_facts he29
 refine run_one (i := 30) (by kernel_rfl) rfl rfl ?_
 intro K hK
 go_simp
 rw [← hX63]
 refine hK.out _ _ (HKS20.out _ HBx63) ?_
 clear hK K k0 k1 k2 z0 z1 z2 hX63
 intro _
 refine wpAnyH_done (by kernel_rfl) ?_ _
 refine NoPanic.normal ?_
 (try go_simp)
 first
   | exact HQ.out _ _ _ _ _ _ _ _ _ _ _ _ _ _ _ _ _ _ _ _ _ _ _ _ _ _ _ _ _ _ _ _ hbox HKEY.out HBx63
   | (go_wp2_with fail; exact HQ.out _ _ _ _ _ _ _ _ _ _ _ _ _ _ _ _ _ _ _ _ _ _ _ _ _ _ _ _ _ _ _ _ hbox HKEY.out HBx63)
 }
 exact AllReadyH.nil
 }
 refine AllReadyH.cons rfl (fun K hK => ?_) ?_
 {
 obtain ⟨Xx64, hX64⟩ : ∃ X, X = Xx54.alloc (.cells #[.int .i64 (k : Int)] 3) := ⟨_, rfl⟩
 have hbx64 : Below Xx54.heap.size Xx54 Xx64 := by rw [hX64]; exact (Below.refl _ _).alloc (Nat.le_refl _) _
 have h21 : Xx64.heap[Xx54.heap.size]? = some (.cells #[.int .i64 (k : Int)] 3 (0, 0)) := by rw [hX64]; exact alloc_at _ _ _ rfl
 have hne21 : Xx54.heap.size ≠ g := by have h2 := HBx54.size; have h3 := HGLT.out; omega
 have HBx64 := below_next HBx54 hbx64
 refine wp_val (v := .slice (some ⟨Xx54.heap.size, 0, none⟩) 1 1) (w' := Xx64) (by rw [hX64]; kernel_rfl) ?_
 refine hK.out _ _ (HKS20.out _ HBx64) ?_
 clear hK K hX64
 intro _
 refine run_one (i := 7) (by kernel_rfl) rfl rfl ?_
 intro K hK
 refine wp_call (rnatAdd_any As' AE cs' cE ls' lE _ _ Xx64 (((hs5).on hbx54).on hbx64) (HEN.out Xx64 HBx64) (HLN.out _ _ _ _ _ (((hs5).on hbx54).on hbx64) HZZ.out.1) HLE.out) (by kernel_rfl) ?_
 rintro e Xx65 ⟨A7, c7, l7, rfl, hs7, hbx65⟩
 have HBx65 := below_next HBx64 hbx65
 refine ⟨_, rfl, hK.out _ _ (HKS20.out _ HBx65) ?_⟩
 clear hK K
 intro _
 refine run_one (i := 13) (by kernel_rfl) rfl rfl ?_
 intro K hK
 refine wp_call (rnatAddN_any A7 y.A1 c7 y.c1 l7 y.l1 _ _ Xx65 (hs7) (HYR.out.1.1.on HBx65) (HLN.out _ _ _ _ _ (hs7) HZZ.out.2.1) HLY.out) (by kernel_rfl) ?_
 rintro e Xx66 ⟨Ad, cd, ld, rfl, hs13, hbx66, hns13⟩
 have hnd : ∀ b q, Ad = some ⟨b, q, none⟩ → b ≠ g := fun b q e => by have h1 := hns13 b q e; have h2 := HBx65.size; have h3 := HGLT.out; omega
 have HBx66 := below_next HBx65 hbx66
 refine ⟨_, rfl, hK.out _ _ (HKS20.out _ HBx66) ?_⟩
 clear hK K
 intro _
 refine run_one (i := 27) (by kernel_rfl) rfl rfl ?_
 intro K hK
 refine wp_app_one (.tmp 94) (.tmp 99) 22 (by kernel_rfl) 3 i0 Tryz.underlying22 hi0 hz0 hz1 hz2 (Xx54.heap.size) k (by kernel_rfl) (((hbx66.block _ (heap_lt (((hbx65.block _ (heap_lt (h21))).trans (h21))))).trans (((hbx65.block _ (heap_lt (h21))).trans (h21))))) y.A2 y.c2 y.zs (by kernel_rfl) (HYR.out.2.1.on HBx66) HZL.out ?_
 intro g2 cap2 Xx67 hpl27 hbx67 hg27
 have hn27 : ∀ b q, (some ⟨g2, 0, none⟩ : Option Addr) = some ⟨b, q, none⟩ → b ≠ g := fun b q e => by
   simp only [Option.some.injEq, Addr.mk.injEq, and_true] at e
   have h2 := HBx66.size
   have h3 := HGLT.out
   rcases hg27 with h | h <;> omega
 have HBx67 := below_next HBx66 hbx67
 refine hK.out _ _ (HKS20.out _ HBx67) ?_
 clear hK K
 intro _
 have HS0 := HKS20.out _ HBx67
 refine wpAnyH_take (i := 28) (v := ?_) rfl (by kernel_rfl) (by kernel_rfl) (by kernel_rfl) (fun _ _ _ h => h) (Or.inl ⟨by kernel_rfl, ?_⟩) HS0 ?_
 rotate_left
 · intro W hW; (try dsimp only at hW); go_simp; try (with_reducible rfl)
 clear HS0
 have he29 := ((hbx67.block _ (heap_lt (((hbx66.block _ (heap_lt (((hbx65.block _ (heap_lt (((hbx64.block _ (heap_lt (h29))).trans (h29))))).trans (((hbx64.block _ (heap_lt (h29))).trans (h29))))))).trans (((hbx65.block _ (heap_lt (((hbx64.block _ (heap_lt (h29))).trans (h29))))).trans (((hbx64.block _ (heap_lt (h29))).trans (h29))))))))).trans (((hbx66.block _ (heap_lt (((hbx65.block _ (heap_lt (((hbx64.block _ (heap_lt (h29))).trans (h29))))).trans (((hbx64.block _ (heap_lt (h29))).trans (h29))))))).trans (((hbx65.block _ (heap_lt (((hbx64.block _ (heap_lt (h29))).trans (h29))))).trans (((hbx64.block _ (heap_lt (h29))).trans (h29))))))))
 obtain ⟨Xx68, hX68⟩ : ∃ X, X = ((Xx67.setCell ⟨Xx1.heap.size, 0, none⟩ (.slice Ad ld.length cd)).setCell ⟨Xx1.heap.size, 1, none⟩ (.int .i64 ((y.p : Int) + 1))).setCell ⟨Xx1.heap.size, 2, none⟩ (.slice (some ⟨g2, 0, none⟩) (y.zs.length + 1) cap2) := ⟨_, rfl⟩
 have hbox := TvB.store (p := y.p + 1) he29 rfl ⟨⟨(hs13).on hbx67, hnd⟩, hpl27, hn27⟩ HK0.out
 rw [show ((y.p + 1 : Nat) : Int) = (y.p : Int) + 1 from rfl, show (k :: y.zs).length = y.zs.length + 1 from rfl, ← hX68] at hbox
 have HBx68 : Below wk.heap.size wk Xx68 := by rw [hX68]; exact (((HBx67).setCell (p := ⟨Xx1.heap.size, 0, none⟩) hlo29 _).setCell (p := ⟨Xx1.heap.size, 1, none⟩) hlo29 _).setCell (p := ⟨Xx1.heap.size, 2, none⟩) hlo29 _
 obtain ⟨k0, k1, k2, z0, z1, z2⟩ := tbox_facts he29
 refine run_one (i := 30) (by kernel_rfl) rfl rfl ?_
 intro K hK
 go_simp
 rw [← hX68]
 refine hK.out _ _ (HKS20.out _ HBx68) ?_
 clear hK K k0 k1 k2 z0 z1 z2 hX68
 intro _
 refine wpAnyH_done (by kernel_rfl) ?_ _
 refine NoPanic.normal ?_
 (try go_simp)
 first
   | exact HQ.out _ _ _ _ _ _ _ _ _ _ _ _ _ _ _ _ _ _ _ _ _ _ _ _ _ _ _ _ _ _ _ _ hbox HKEY.out HBx68
   | (go_wp2_with fail; exact HQ.out _ _ _ _ _ _ _ _ _ _ _ _ _ _ _ _ _ _ _ _ _ _ _ _ _ _ _ _ _ _ _ _ hbox HKEY.out HBx68)
 }
 exact AllReadyH.nil
 }
 exact AllReadyH.nil
 }
 refine AllReadyH.cons rfl (fun K hK => ?_) ?_
 {
 obtain ⟨Xx69, hX69⟩ : ∃ X, X = Xx0.alloc (.cells #[.int .i64 (k : Int)] 3) := ⟨_, rfl⟩
 have hbx69 : Below Xx0.heap.size Xx0 Xx69 := by rw [hX69]; exact (Below.refl _ _).alloc (Nat.le_refl _) _
 have h21 : Xx69.heap[Xx0.heap.size]? = some (.cells #[.int .i64 (k : Int)] 3 (0, 0)) := by rw [hX69]; exact alloc_at _ _ _ rfl
 have hne21 : Xx0.heap.size ≠ g := by have h2 := HBx0.size; have h3 := HGLT.out; omega
 have HBx69 := below_next HBx0 hbx69
 refine wp_val (v := .slice (some ⟨Xx0.heap.size, 0, none⟩) 1 1) (w' := Xx69) (by rw [hX69]; kernel_rfl) ?_
 refine hK.out _ _ (HKS20.out _ HBx69) ?_
 clear hK K hX69
 intro _
 refine wpAnyH_ready (rs := [5, 29]) (by kernel_rfl) (by simp) ?_
 refine AllReadyH.cons rfl (fun K hK => ?_) ?_
 {
 refine wp_call (HSP.out Xx69 HBx69) (by kernel_rfl) ?_
 rintro e Xx70 ⟨As', cs', ls', rfl, hs5, hbx70, -⟩
 have HBx70 := below_next HBx69 hbx70
 refine ⟨_, rfl, hK.out _ _ (HKS20.out _ HBx70) ?_⟩
 clear hK K
 intro _
 refine wpAnyH_ready (rs := [7, 29]) (by kernel_rfl) (by simp) ?_
 refine AllReadyH.cons rfl (fun K hK => ?_) ?_
 {
 refine wp_call (rnatAdd_any As' AE cs' cE ls' lE _ _ Xx70 (hs5) (HEN.out Xx70 HBx70) (HLN.out _ _ _ _ _ (hs5) HZZ.out.1) HLE.out) (by kernel_rfl) ?_
 rintro e Xx71 ⟨A7, c7, l7, rfl, hs7, hbx71⟩
 have HBx71 := below_next HBx70 hbx71
 refine ⟨_, rfl, hK.out _ _ (HKS20.out _ HBx71) ?_⟩
 clear hK K
 intro _
 refine wpAnyH_ready (rs := [13, 29]) (by kernel_rfl) (by simp) ?_
 refine AllReadyH.cons rfl (fun K hK => ?_) ?_
 {
 refine wp_call (rnatAddN_any A7 y.A1 c7 y.c1 l7 y.l1 _ _ Xx71 (hs7) (HYR.out.1.1.on HBx71) (HLN.out _ _ _ _ _ (hs7) HZZ.out.2.1) HLY.out) (by kernel_rfl) ?_
 rintro e Xx72 ⟨Ad, cd, ld, rfl, hs13, hbx72, hns13⟩
 have hnd : ∀ b q, Ad = some ⟨b, q, none⟩ → b ≠ g := fun b q e => by have h1 := hns13 b q e; have h2 := HBx71.size; have h3 := HGLT.out; omega
 have HBx72 := below_next HBx71 hbx72
 refine ⟨_, rfl, hK.out _ _ (HKS20.out _ HBx72) ?_⟩
 clear hK K
 intro _
 refine wpAnyH_ready (rs := [27, 29]) (by kernel_rfl) (by simp) ?_
 refine AllReadyH.cons rfl (fun K hK => ?_) ?_
 {
 refine wp_app_one (.tmp 94) (.tmp 99) 22 (by kernel_rfl) 3 i0 Tryz.underlying22 hi0 hz0 hz1 hz2 (Xx0.heap.size) k (by kernel_rfl) (((hbx72.block _ (heap_lt (((hbx71.block _ (heap_lt (((hbx70.block _ (heap_lt (h21))).trans (h21))))).trans (((hbx70.block _ (heap_lt (h21))).trans (h21))))))).trans (((hbx71.block _ (heap_lt (((hbx70.block _ (heap_lt (h21))).trans (h21))))).trans (((hbx70.block _ (heap_lt (h21))).trans (h21))))))) y.A2 y.c2 y.zs (by kernel_rfl) (HYR.out.2.1.on HBx72) HZL.out ?_
 intro g2 cap2 Xx73 hpl27 hbx73 hg27
 have hn27 : ∀ b q, (some ⟨g2, 0, none⟩ : Option Addr) = some ⟨b, q, none⟩ → b ≠ g := fun b q e => by
   simp only [Option.some.injEq, Addr.mk.injEq, and_true] at e
   have h2 := HBx72.size
   have h3 := HGLT.out
   rcases hg27 with h | h <;> omega
 have HBx73 := below_next HBx72 hbx73
 refine hK.out _ _ (HKS20.out _ HBx73) ?_
 clear hK K
 intro _
 have HS0 := HKS20.out _ HBx73
 refine wpAnyH_take (i := 28) (v := ?_) rfl (by kernel_rfl) (by kernel_rfl) (by kernel_rfl) (fun _ _ _ h => h) (Or.inl ⟨by kernel_rfl, ?_⟩) HS0 ?_
 rotate_left
 · intro W hW; (try dsimp only at hW); go_simp; try (with_reducible rfl)
 clear HS0
 refine run_one (i := 29) (by kernel_rfl) rfl rfl ?_
 intro K hK
 obtain ⟨Xx74, hX74⟩ : ∃ X, X = Xx73.alloc (.cells #[.slice none 0 0, .int .i64 0, .slice none 0 0] 87) := ⟨_, rfl⟩
 have hbx74 : Below Xx73.heap.size Xx73 Xx74 := by rw [hX74]; exact (Below.refl _ _).alloc (Nat.le_refl _) _
 have h29 : Xx74.heap[Xx73.heap.size]? = some (.cells #[.slice none 0 0, .int .i64 0, .slice none 0 0] 87 (0, 0)) := by rw [hX74]; exact alloc_at _ _ _ rfl
 have hlo29 : wk.heap.size ≤ Xx73.heap.size := HBx73.size
 have HBx74 := below_next HBx73 hbx74
 refine wp_val (v := .pointer (some ⟨Xx73.heap.size, 0, none⟩)) (w' := Xx74) (by rw [hX74]; kernel_rfl) ?_
 refine hK.out _ _ (HKS20.out _ HBx74) ?_
 clear hK K hX74
 intro _
 have he29 := h29
 obtain ⟨Xx75, hX75⟩ : ∃ X, X = ((Xx74.setCell ⟨Xx73.heap.size, 0, none⟩ (.slice Ad ld.length cd)).setCell ⟨Xx73.heap.size, 1, none⟩ (.int .i64 ((y.p : Int) + 1))).setCell ⟨Xx73.heap.size, 2, none⟩ (.slice (some ⟨g2, 0, none⟩) (y.zs.length + 1) cap2) := ⟨_, rfl⟩
 have hbox := TvB.store (p := y.p + 1) he29 rfl ⟨⟨((hs13).on hbx73).on hbx74, hnd⟩, (hpl27).on hbx74, hn27⟩ HK0.out
 rw [show ((y.p + 1 : Nat) : Int) = (y.p : Int) + 1 from rfl, show (k :: y.zs).length = y.zs.length + 1 from rfl, ← hX75] at hbox
 have HBx75 : Below wk.heap.size wk Xx75 := by rw [hX75]; exact (((HBx74).setCell (p := ⟨Xx73.heap.size, 0, none⟩) hlo29 _).setCell (p := ⟨Xx73.heap.size, 1, none⟩) hlo29 _).setCell (p := ⟨Xx73.heap.size, 2, none⟩) hlo29 _
 obtain ⟨k0, k1, k2, z0, z1, z2⟩ := tbox_facts he29
 refine run_one (i := 30) (by kernel_rfl) rfl rfl ?_
 intro K hK
 go_simp
 rw [← hX75]
 refine hK.out _ _ (HKS20.out _ HBx75) ?_
 clear hK K k0 k1 k2 z0 z1 z2 hX75
 intro _
 refine wpAnyH_done (by kernel_rfl) ?_ _
 refine NoPanic.normal ?_
 (try go_simp)
 first
   | exact HQ.out _ _ _ _ _ _ _ _ _ _ _ _ _ _ _ _ _ _ _ _ _ _ _ _ _ _ _ _ _ _ _ _ hbox HKEY.out HBx75
   | (go_wp2_with fail; exact HQ.out _ _ _ _ _ _ _ _ _ _ _ _ _ _ _ _ _ _ _ _ _ _ _ _ _ _ _ _ _ _ _ _ hbox HKEY.out HBx75)
 }
 refine AllReadyH.cons rfl (fun K hK => ?_) ?_
 {
 obtain ⟨Xx76, hX76⟩ : ∃ X, X = Xx72.alloc (.cells #[.slice none 0 0, .int .i64 0, .slice none 0 0] 87) := ⟨_, rfl⟩
 have hbx76 : Below Xx72.heap.size Xx72 Xx76 := by rw [hX76]; exact (Below.refl _ _).alloc (Nat.le_refl _) _
 have h29 : Xx76.heap[Xx72.heap.size]? = some (.cells #[.slice none 0 0, .int .i64 0, .slice none 0 0] 87 (0, 0)) := by rw [hX76]; exact alloc_at _ _ _ rfl
 have hlo29 : wk.heap.size ≤ Xx72.heap.size := HBx72.size
 have HBx76 := below_next HBx72 hbx76
 refine wp_val (v := .pointer (some ⟨Xx72.heap.size, 0, none⟩)) (w' := Xx76) (by rw [hX76]; kernel_rfl) ?_
 refine hK.out _ _ (HKS20.out _ HBx76) ?_
 clear hK K hX76
 intro _
 refine run_one (i := 27) (by kernel_rfl) rfl rfl ?_
 intro K hK
 refine wp_app_one (.tmp 94) (.tmp 99) 22 (by kernel_rfl) 3 i0 Tryz.underlying22 hi0 hz0 hz1 hz2 (Xx0.heap.size) k (by kernel_rfl) (((hbx76.block _ (heap_lt (((hbx72.block _ (heap_lt (((hbx71.block _ (heap_lt (((hbx70.block _ (heap_lt (h21))).trans (h21))))).trans (((hbx70.block _ (heap_lt (h21))).trans (h21))))))).trans (((hbx71.block _ (heap_lt (((hbx70.block _ (heap_lt (h21))).trans (h21))))).trans (((hbx70.block _ (heap_lt (h21))).trans (h21))))))))).trans (((hbx72.block _ (heap_lt (((hbx71.block _ (heap_lt (((hbx70.block _ (heap_lt (h21))).trans (h21))))).trans (((hbx70.block _ (heap_lt (h21))).trans (h21))))))).trans (((hbx71.block _ (heap_lt (((hbx70.block _ (heap_lt (h21))).trans (h21))))).trans (((hbx70.block _ (heap_lt (h21))).trans (h21))))))))) y.A2 y.c2 y.zs (by kernel_rfl) (HYR.out.2.1.on HBx76) HZL.out ?_
 intro g2 cap2 Xx77 hpl27 hbx77 hg27
 have hn27 : ∀ b q, (some ⟨g2, 0, none⟩ : Option Addr) = some ⟨b, q, none⟩ → b ≠ g := fun b q e => by
   simp only [Option.some.injEq, Addr.mk.injEq, and_true] at e
   have h2 := HBx76.size
   have h3 := HGLT.out
   rcases hg27 with h | h <;> omega
 have HBx77 := below_next HBx76 hbx77
 refine hK.out _ _ (HKS20.out _ HBx77) ?_
 clear hK K
 intro _
 have HS0 := HKS20.out _ HBx77
 refine wpAnyH_take (i := 28) (v := ?_) rfl (by kernel_rfl) (by kernel_rfl) (by kernel_rfl) (fun _ _ _ h => h) (Or.inl ⟨by kernel_rfl, ?_⟩) HS0 ?_
 rotate_left
 · intro W hW; (try dsimp only at hW); go_simp; try (with_reducible rfl)
 clear HS0
 have he29 := ((hbx77.block _ (heap_lt (h29))).trans (h29))
 obtain ⟨Xx78, hX78⟩ : ∃ X, X = ((Xx77.setCell ⟨Xx72.heap.size, 0, none⟩ (.slice Ad ld.length cd)).setCell ⟨Xx72.heap.size, 1, none⟩ (.int .i64 ((y.p : Int) + 1))).setCell ⟨Xx72.heap.size, 2, none⟩ (.slice (some ⟨g2, 0, none⟩) (y.zs.length + 1) cap2) := ⟨_, rfl⟩
 have hbox := TvB.store (p := y.p + 1) he29 rfl ⟨⟨((hs13).on hbx76).on hbx77, hnd⟩, hpl27, hn27⟩ HK0.out
 rw [show ((y.p + 1 : Nat) : Int) = (y.p : Int) + 1 from rfl, show (k :: y.zs).length = y.zs.length + 1 from rfl, ← hX78] at hbox
 have HBx78 : Below wk.heap.size wk Xx78 := by rw [hX78]; exact (((HBx77).setCell (p := ⟨Xx72.heap.size, 0, none⟩) hlo29 _).setCell (p := ⟨Xx72.heap.size, 1, none⟩) hlo29 _).setCell (p := ⟨Xx72.heap.size, 2, none⟩) hlo29 _
 obtain ⟨k0, k1, k2, z0, z1, z2⟩ := tbox_facts he29
 refine run_one (i := 30) (by kernel_rfl) rfl rfl ?_
 intro K hK
 go_simp
 rw [← hX78]
 refine hK.out _ _ (HKS20.out _ HBx78) ?_
 clear hK K k0 k1 k2 z0 z1 z2 hX78
 intro _
 refine wpAnyH_done (by kernel_rfl) ?_ _
 refine NoPanic.normal ?_
 (try go_simp)
 first
   | exact HQ.out _ _ _ _ _ _ _ _ _ _ _ _ _ _ _ _ _ _ _ _ _ _ _ _ _ _ _ _ _ _ _ _ hbox HKEY.out HBx78
   | (go_wp2_with fail; exact HQ.out _ _ _ _ _ _ _ _ _ _ _ _ _ _ _ _ _ _ _ _ _ _ _ _ _ _ _ _ _ _ _ _ hbox HKEY.out HBx78)
 }
 exact AllReadyH.nil
 }
 refine AllReadyH.cons rfl (fun K hK => ?_) ?_
 {
 obtain ⟨Xx79, hX79⟩ : ∃ X, X = Xx71.alloc (.cells #[.slice none 0 0, .int .i64 0, .slice none 0 0] 87) := ⟨_, rfl⟩
 have hbx79 : Below Xx71.heap.size Xx71 Xx79 := by rw [hX79]; exact (Below.refl _ _).alloc (Nat.le_refl _) _
 have h29 : Xx79.heap[Xx71.heap.size]? = some (.cells #[.slice none 0 0, .int .i64 0, .slice none 0 0] 87 (0, 0)) := by rw [hX79]; exact alloc_at _ _ _ rfl
 have hlo29 : wk.heap.size ≤ Xx71.heap.size := HBx71.size
 have HBx79 := below_next HBx71 hbx79
 refine wp_val (v := .pointer (some ⟨Xx71.heap.size, 0, none⟩)) (w' := Xx79) (by rw [hX79]; kernel_rfl) ?_
 refine hK.out _ _ (HKS20.out _ HBx79) ?_
 clear hK K hX79
 intro _
 refine run_one (i := 13) (by kernel_rfl) rfl rfl ?_
 intro K hK
 refine wp_call (rnatAddN_any A7 y.A1 c7 y.c1 l7 y.l1 _ _ Xx79 ((hs7).on hbx79) (HYR.out.1.1.on HBx79) (HLN.out _ _ _ _ _ ((hs7).on hbx79) HZZ.out.2.1) HLY.out) (by kernel_rfl) ?_
 rintro e Xx80 ⟨Ad, cd, ld, rfl, hs13, hbx80, hns13⟩
 have hnd : ∀ b q, Ad = some ⟨b, q, none⟩ → b ≠ g := fun b q e => by have h1 := hns13 b q e; have h2 := HBx79.size; have h3 := HGLT.out; omega
 have HBx80 := below_next HBx79 hbx80
 refine ⟨_, rfl, hK.out _ _ (HKS20.out _ HBx80) ?_⟩
 clear hK K
 intro _
 refine run_one (i := 27) (by kernel_rfl) rfl rfl ?_
 intro K hK
 refine wp_app_one (.tmp 94) (.tmp 99) 22 (by kernel_rfl) 3 i0 Tryz.underlying22 hi0 hz0 hz1 hz2 (Xx0.heap.size) k (by kernel_rfl) (((hbx80.block _ (heap_lt (((hbx79.block _ (heap_lt (((hbx71.block _ (heap_lt (((hbx70.block _ (heap_lt (h21))).trans (h21))))).trans (((hbx70.block _ (heap_lt (h21))).trans (h21))))))).trans (((hbx71.block _ (heap_lt (((hbx70.block _ (heap_lt (h21))).trans (h21))))).trans (((hbx70.block _ (heap_lt (h21))).trans (h21))))))))).trans (((hbx79.block _ (heap_lt (((hbx71.block _ (heap_lt (((hbx70.block _ (heap_lt (h21))).trans (h21))))).trans (((hbx70.block _ (heap_lt (h21))).trans (h21))))))).trans (((hbx71.block _ (heap_lt (((hbx70.block _ (heap_lt (h21))).trans (h21))))).trans (((hbx70.block _ (heap_lt (h21))).trans (h21))))))))) y.A2 y.c2 y.zs (by kernel_rfl) (HYR.out.2.1.on HBx80) HZL.out ?_
 intro g2 cap2 Xx81 hpl27 hbx81 hg27
 have hn27 : ∀ b q, (some ⟨g2, 0, none⟩ : Option Addr) = some ⟨b, q, none⟩ → b ≠ g := fun b q e => by
   simp only [Option.some.injEq, Addr.mk.injEq, and_true] at e
   have h2 := HBx80.size
   have h3 := HGLT.out
   rcases hg27 with h | h <;> omega
 have HBx81 := below_next HBx80 hbx81
 refine hK.out _ _ (HKS20.out _ HBx81) ?_
 clear hK K
 intro _
 have HS0 := HKS20.out _ HBx81
 refine wpAnyH_take (i := 28) (v := ?_) rfl (by kernel_rfl) (by kernel_rfl) (by kernel_rfl) (fun _ _ _ h => h) (Or.inl ⟨by kernel_rfl, ?_⟩) HS0 ?_
 rotate_left
 · intro W hW; (try dsimp only at hW); go_simp; try (with_reducible rfl)
 clear HS0
 have he29 := ((hbx81.block _ (heap_lt (((hbx80.block _ (heap_lt (h29))).trans (h29))))).trans (((hbx80.block _ (heap_lt (h29))).trans (h29))))
 obtain ⟨Xx82, hX82⟩ : ∃ X, X = ((Xx81.setCell ⟨Xx71.heap.size, 0, none⟩ (.slice Ad ld.length cd)).setCell ⟨Xx71.heap.size, 1, none⟩ (.int .i64 ((y.p : Int) + 1))).setCell ⟨Xx71.heap.size, 2, none⟩ (.slice (some ⟨g2, 0, none⟩) (y.zs.length + 1) cap2) := ⟨_, rfl⟩
 have hbox := TvB.store (p := y.p + 1) he29 rfl ⟨⟨(hs13).on hbx81, hnd⟩, hpl27, hn27⟩ HK0.out
 rw [show ((y.p + 1 : Nat) : Int) = (y.p : Int) + 1 from rfl, show (k :: y.zs).length = y.zs.length + 1 from rfl, ← hX82] at hbox
 have HBx82 : Below wk.heap.size wk Xx82 := by rw [hX82]; exact (((HBx81).setCell (p := ⟨Xx71.heap.size, 0, none⟩) hlo29 _).setCell (p := ⟨Xx71.heap.size, 1, none⟩) hlo29 _).setCell (p := ⟨Xx71.heap.size, 2, none⟩) hlo29 _
 obtain ⟨k0, k1, k2, z0, z1, z2⟩ := tbox_facts he29
 refine run_one (i := 30) (by kernel_rfl) rfl rfl ?_
 intro K hK
 go_simp
 rw [← hX82]
 refine hK.out _ _ (HKS20.out _ HBx82) ?_
 clear hK K k0 k1 k2 z0 z1 z2 hX82
 intro _
 refine wpAnyH_done (by kernel_rfl) ?_ _
 refine NoPanic.normal ?_
 (try go_simp)
 first
   | exact HQ.out _ _ _ _ _ _ _ _ _ _ _ _ _ _ _ _ _ _ _ _ _ _ _ _ _ _ _ _ _ _ _ _ hbox HKEY.out HBx82
   | (go_wp2_with fail; exact HQ.out _ _ _ _ _ _ _ _ _ _ _ _ _ _ _ _ _ _ _ _ _ _ _ _ _ _ _ _ _ _ _ _ hbox HKEY.out HBx82)
 }
 exact AllReadyH.nil
 }
 refine AllReadyH.cons rfl (fun K hK => ?_) ?_
 {
 obtain ⟨Xx83, hX83⟩ : ∃ X, X = Xx70.alloc (.cells #[.slice none 0 0, .int .i64 0, .slice none 0 0] 87) := ⟨_, rfl⟩
 have hbx83 : Below Xx70.heap.size Xx70 Xx83 := by rw [hX83]; exact (Below.refl _ _).alloc (Nat.le_refl _) _
 have h29 : Xx83.heap[Xx70.heap.size]? = some (.cells #[.slice none 0 0, .int .i64 0, .slice none 0 0] 87 (0, 0)) := by rw [hX83]; exact alloc_at _ _ _ rfl
 have hlo29 : wk.heap.size ≤ Xx70.heap.size := HBx70.size
 have HBx83 := below_next HBx70 hbx83
 refine wp_val (v := .pointer (some ⟨Xx70.heap.size, 0, none⟩)) (w' := Xx83) (by rw [hX83]; kernel_rfl) ?_
 refine hK.out _ _ (HKS20.out _ HBx83) ?_
 clear hK K hX83
 intro _
 refine run_one (i := 7) (by kernel_rfl) rfl rfl ?_
 intro K hK
 refine wp_call (rnatAdd_any As' AE cs' cE ls' lE _ _ Xx83 ((hs5).on hbx83) (HEN.out Xx83 HBx83) (HLN.out _ _ _ _ _ ((hs5).on hbx83) HZZ.out.1) HLE.out) (by kernel_rfl) ?_
 rintro e Xx84 ⟨A7, c7, l7, rfl, hs7, hbx84⟩
 have HBx84 := below_next HBx83 hbx84
 refine ⟨_, rfl, hK.out _ _ (HKS20.out _ HBx84) ?_⟩
 clear hK K
 intro _
 refine run_one (i := 13) (by kernel_rfl) rfl rfl ?_
 intro K hK
 refine wp_call (rnatAddN_any A7 y.A1 c7 y.c1 l7 y.l1 _ _ Xx84 (hs7) (HYR.out.1.1.on HBx84) (HLN.out _ _ _ _ _ (hs7) HZZ.out.2.1) HLY.out) (by kernel_rfl) ?_
 rintro e Xx85 ⟨Ad, cd, ld, rfl, hs13, hbx85, hns13⟩
 have hnd : ∀ b q, Ad = some ⟨b, q, none⟩ → b ≠ g := fun b q e => by have h1 := hns13 b q e; have h2 := HBx84.size; have h3 := HGLT.out; omega
 have HBx85 := below_next HBx84 hbx85
 refine ⟨_, rfl, hK.out _ _ (HKS20.out _ HBx85) ?_⟩
 clear hK K
 intro _
 refine run_one (i := 27) (by kernel_rfl) rfl rfl ?_
 intro K hK
 refine wp_app_one (.tmp 94) (.tmp 99) 22 (by kernel_rfl) 3 i0 Tryz.underlying22 hi0 hz0 hz1 hz2 (Xx0.heap.size) k (by kernel_rfl) (((hbx85.block _ (heap_lt (((hbx84.block _ (heap_lt (((hbx83.block _ (heap_lt (((hbx70.block _ (heap_lt (h21))).trans (h21))))).trans (((hbx70.block _ (heap_lt (h21))).trans (h21))))))).trans (((hbx83.block _ (heap_lt (((hbx70.block _ (heap_lt (h21))).trans (h21))))).trans (((hbx70.block _ (heap_lt (h21))).trans (h21))))))))).trans (((hbx84.block _ (heap_lt (((hbx83.block _ (heap_lt (((hbx70.block _ (heap_lt (h21))).trans (h21))))).trans (((hbx70.block _ (heap_lt (h21))).trans (h21))))))).trans (((hbx83.block _ (heap_lt (((hbx70.block _ (heap_lt (h21))).trans (h21))))).trans (((hbx70.block _ (heap_lt (h21))).trans (h21))))))))) y.A2 y.c2 y.zs (by kernel_rfl) (HYR.out.2.1.on HBx85) HZL.out ?_
 intro g2 cap2 Xx86 hpl27 hbx86 hg27
 have hn27 : ∀ b q, (some ⟨g2, 0, none⟩ : Option Addr) = some ⟨b, q, none⟩ → b ≠ g := fun b q e => by
   simp only [Option.some.injEq, Addr.mk.injEq, and_true] at e
   have h2 := HBx85.size
   have h3 := HGLT.out
   rcases hg27 with h | h <;> omega
 have HBx86 := below_next HBx85 hbx86
 refine hK.out _ _ (HKS20.out _ HBx86) ?_
 clear hK K
 intro _
 have HS0 := HKS20.out _ HBx86
 refine wpAnyH_take (i := 28) (v := ?_) rfl (by kernel_rfl) (by kernel_rfl) (by kernel_rfl) (fun _ _ _ h => h) (Or.inl ⟨by kernel_rfl, ?_⟩) HS0 ?_
 rotate_left
 · intro W hW; (try dsimp only at hW); go_simp; try (with_reducible rfl)
 clear HS0
 have he29 := ((hbx86.block _ (heap_lt (((hbx85.block _ (heap_lt (((hbx84.block _ (heap_lt (h29))).trans (h29))))).trans (((hbx84.block _ (heap_lt (h29))).trans (h29))))))).trans (((hbx85.block _ (heap_lt (((hbx84.block _ (heap_lt (h29))).trans (h29))))).trans (((hbx84.block _ (heap_lt (h29))).trans (h29))))))
 obtain ⟨Xx87, hX87⟩ : ∃ X, X = ((Xx86.setCell ⟨Xx70.heap.size, 0, none⟩ (.slice Ad ld.length cd)).setCell ⟨Xx70.heap.size, 1, none⟩ (.int .i64 ((y.p : Int) + 1))).setCell ⟨Xx70.heap.size, 2, none⟩ (.slice (some ⟨g2, 0, none⟩) (y.zs.length + 1) cap2) := ⟨_, rfl⟩
 have hbox := TvB.store (p := y.p + 1) he29 rfl ⟨⟨(hs13).on hbx86, hnd⟩, hpl27, hn27⟩ HK0.out
 rw [show ((y.p + 1 : Nat) : Int) = (y.p : Int) + 1 from rfl, show (k :: y.zs).length = y.zs.length + 1 from rfl, ← hX87] at hbox
 have HBx87 : Below wk.heap.size wk Xx87 := by rw [hX87]; exact (((HBx86).setCell (p := ⟨Xx70.heap.size, 0, none⟩) hlo29 _).setCell (p := ⟨Xx70.heap.size, 1, none⟩) hlo29 _).setCell (p := ⟨Xx70.heap.size, 2, none⟩) hlo29 _
 obtain ⟨k0, k1, k2, z0, z1, z2⟩ := tbox_facts he29
 refine run_one (i := 30) (by kernel_rfl) rfl rfl ?_
 intro K hK
 go_simp
 rw [← hX87]
 refine hK.out _ _ (HKS20.out _ HBx87) ?_
 clear hK K k0 k1 k2 z0 z1 z2 hX87
 intro _
 refine wpAnyH_done (by kernel_rfl) ?_ _
 refine NoPanic.normal ?_
 (try go_simp)
 first
   | exact HQ.out _ _ _ _ _ _ _ _ _ _ _ _ _ _ _ _ _ _ _ _ _ _ _ _ _ _ _ _ _ _ _ _ hbox HKEY.out HBx87
   | (go_wp2_with fail; exact HQ.out _ _ _ _ _ _ _ _ _ _ _ _ _ _ _ _ _ _ _ _ _ _ _ _ _ _ _ _ _ _ _ _ hbox HKEY.out HBx87)
 }
 exact AllReadyH.nil
 }
 refine AllReadyH.cons rfl (fun K hK => ?_) ?_
 {
 obtain ⟨Xx88, hX88⟩ : ∃ X, X = Xx69.alloc (.cells #[.slice none 0 0, .int .i64 0, .slice none 0 0] 87) := ⟨_, rfl⟩
 have hbx88 : Below Xx69.heap.size Xx69 Xx88 := by rw [hX88]; exact (Below.refl _ _).alloc (Nat.le_refl _) _
 have h29 : Xx88.heap[Xx69.heap.size]? = some (.cells #[.slice none 0 0, .int .i64 0, .slice none 0 0] 87 (0, 0)) := by rw [hX88]; exact alloc_at _ _ _ rfl
 have hlo29 : wk.heap.size ≤ Xx69.heap.size := HBx69.size
 have HBx88 := below_next HBx69 hbx88
 refine wp_val (v := .pointer (some ⟨Xx69.heap.size, 0, none⟩)) (w' := Xx88) (by rw [hX88]; kernel_rfl) ?_
 refine hK.out _ _ (HKS20.out _ HBx88) ?_
 clear hK K hX88
 intro _
 refine run_one (i := 5) (by kernel_rfl) rfl rfl ?_
 intro K hK
 refine wp_call (HSP.out Xx88 HBx88) (by kernel_rfl) ?_
 rintro e Xx89 ⟨As', cs', ls', rfl, hs5, hbx89, -⟩
 have HBx89 := below_next HBx88 hbx89
 refine ⟨_, rfl, hK.out _ _ (HKS20.out _ HBx89) ?_⟩
 clear hK K
 intro _
 refine run_one (i := 7) (by kernel_rfl) rfl rfl ?_
 intro K hK
 refine wp_call (rnatAdd_any As' AE cs' cE ls' lE _ _ Xx89 (hs5) (HEN.out Xx89 HBx89) (HLN.out _ _ _ _ _ (hs5) HZZ.out.1) HLE.out) (by kernel_rfl) ?_
 rintro e Xx90 ⟨A7, c7, l7, rfl, hs7, hbx90⟩
 have HBx90 := below_next HBx89 hbx90
 refine ⟨_, rfl, hK.out _ _ (HKS20.out _ HBx90) ?_⟩
 clear hK K
 intro _
 refine run_one (i := 13) (by kernel_rfl) rfl rfl ?_
 intro K hK
 refine wp_call (rnatAddN_any A7 y.A1 c7 y.c1 l7 y.l1 _ _ Xx90 (hs7) (HYR.out.1.1.on HBx90) (HLN.out _ _ _ _ _ (hs7) HZZ.out.2.1) HLY.out) (by kernel_rfl) ?_
 rintro e Xx91 ⟨Ad, cd, ld, rfl, hs13, hbx91, hns13⟩
 have hnd : ∀ b q, Ad = some ⟨b, q, none⟩ → b ≠ g := fun b q e => by have h1 := hns13 b q e; have h2 := HBx90.size; have h3 := HGLT.out; omega
 have HBx91 := below_next HBx90 hbx91
 refine ⟨_, rfl, hK.out _ _ (HKS20.out _ HBx91) ?_⟩
 clear hK K
 intro _
 refine run_one (i := 27) (by kernel_rfl) rfl rfl ?_
 intro K hK
 refine wp_app_one (.tmp 94) (.tmp 99) 22 (by kernel_rfl) 3 i0 Tryz.underlying22 hi0 hz0 hz1 hz2 (Xx0.heap.size) k (by kernel_rfl) (((hbx91.block _ (heap_lt (((hbx90.block _ (heap_lt (((hbx89.block _ (heap_lt (((hbx88.block _ (heap_lt (h21))).trans (h21))))).trans (((hbx88.block _ (heap_lt (h21))).trans (h21))))))).trans (((hbx89.block _ (heap_lt (((hbx88.block _ (heap_lt (h21))).trans (h21))))).trans (((hbx88.block _ (heap_lt (h21))).trans (h21))))))))).trans (((hbx90.block _ (heap_lt (((hbx89.block _ (heap_lt (((hbx88.block _ (heap_lt (h21))).trans (h21))))).trans (((hbx88.block _ (heap_lt (h21))).trans (h21))))))).trans (((hbx89.block _ (heap_lt (((hbx88.block _ (heap_lt (h21))).trans (h21))))).trans (((hbx88.block _ (heap_lt (h21))).trans (h21))))))))) y.A2 y.c2 y.zs (by kernel_rfl) (HYR.out.2.1.on HBx91) HZL.out ?_
 intro g2 cap2 Xx92 hpl27 hbx92 hg27
 have hn27 : ∀ b q, (some ⟨g2, 0, none⟩ : Option Addr) = some ⟨b, q, none⟩ → b ≠ g := fun b q e => by
   simp only [Option.some.injEq, Addr.mk.injEq, and_true] at e
   have h2 := HBx91.size
   have h3 := HGLT.out
   rcases hg27 with h | h <;> omega
 have HBx92 := below_next HBx91 hbx92
 refine hK.out _ _ (HKS20.out _ HBx92) ?_
 clear hK K
 intro _
 have HS0 := HKS20.out _ HBx92
 refine wpAnyH_take (i := 28) (v := ?_) rfl (by kernel_rfl) (by kernel_rfl) (by kernel_rfl) (fun _ _ _ h => h) (Or.inl ⟨by kernel_rfl, ?_⟩) HS0 ?_
 rotate_left
 · intro W hW; (try dsimp only at hW); go_simp; try (with_reducible rfl)
 clear HS0
 have he29 := ((hbx92.block _ (heap_lt (((hbx91.block _ (heap_lt (((hbx90.block _ (heap_lt (((hbx89.block _ (heap_lt (h29))).trans (h29))))).trans (((hbx89.block _ (heap_lt (h29))).trans (h29))))))).trans (((hbx90.block _ (heap_lt (((hbx89.block _ (heap_lt (h29))).trans (h29))))).trans (((hbx89.block _ (heap_lt (h29))).trans (h29))))))))).trans (((hbx91.block _ (heap_lt (((hbx90.block _ (heap_lt (((hbx89.block _ (heap_lt (h29))).trans (h29))))).trans (((hbx89.block _ (heap_lt (h29))).trans (h29))))))).trans (((hbx90.block _ (heap_lt (((hbx89.block _ (heap_lt (h29))).trans (h29))))).trans (((hbx89.block _ (heap_lt (h29))).trans (h29))))))))
 obtain ⟨Xx93, hX93⟩ : ∃ X, X = ((Xx92.setCell ⟨Xx69.heap.size, 0, none⟩ (.slice Ad ld.length cd)).setCell ⟨Xx69.heap.size, 1, none⟩ (.int .i64 ((y.p : Int) + 1))).setCell ⟨Xx69.heap.size, 2, none⟩ (.slice (some ⟨g2, 0, none⟩) (y.zs.length + 1) cap2) := ⟨_, rfl⟩
 have hbox := TvB.store (p := y.p + 1) he29 rfl ⟨⟨(hs13).on hbx92, hnd⟩, hpl27, hn27⟩ HK0.out
 rw [show ((y.p + 1 : Nat) : Int) = (y.p : Int) + 1 from rfl, show (k :: y.zs).length = y.zs.length + 1 from rfl, ← hX93] at hbox
 have HBx93 : Below wk.heap.size wk Xx93 := by rw [hX93]; exact (((HBx92).setCell (p := ⟨Xx69.heap.size, 0, none⟩) hlo29 _).setCell (p := ⟨Xx69.heap.size, 1, none⟩) hlo29 _).setCell (p := ⟨Xx69.heap.size, 2, none⟩) hlo29 _
 obtain ⟨k0, k1, k2, z0, z1, z2⟩ := tbox_facts he29
 refine run_one (i := 30) (by kernel_rfl) rfl rfl ?_
 intro K hK
 go_simp
 rw [← hX93]
 refine hK.out _ _ (HKS20.out _ HBx93) ?_
 clear hK K k0 k1 k2 z0 z1 z2 hX93
 intro _
 refine wpAnyH_done (by kernel_rfl) ?_ _
 refine NoPanic.normal ?_
 (try go_simp)
 first
   | exact HQ.out _ _ _ _ _ _ _ _ _ _ _ _ _ _ _ _ _ _ _ _ _ _ _ _ _ _ _ _ _ _ _ _ hbox HKEY.out HBx93
   | (go_wp2_with fail; exact HQ.out _ _ _ _ _ _ _ _ _ _ _ _ _ _ _ _ _ _ _ _ _ _ _ _ _ _ _ _ _ _ _ _ hbox HKEY.out HBx93)
 }
 exact AllReadyH.nil
 }
 refine AllReadyH.cons rfl (fun K hK => ?_) ?_
 {
 obtain ⟨Xx94, hX94⟩ : ∃ X, X = Xx0.alloc (.cells #[.slice none 0 0, .int .i64 0, .slice none 0 0] 87) := ⟨_, rfl⟩
 have hbx94 : Below Xx0.heap.size Xx0 Xx94 := by rw [hX94]; exact (Below.refl _ _).alloc (Nat.le_refl _) _
 have h29 : Xx94.heap[Xx0.heap.size]? = some (.cells #[.slice none 0 0, .int .i64 0, .slice none 0 0] 87 (0, 0)) := by rw [hX94]; exact alloc_at _ _ _ rfl
 have hlo29 : wk.heap.size ≤ Xx0.heap.size := HBx0.size
 have HBx94 := below_next HBx0 hbx94
 refine wp_val (v := .pointer (some ⟨Xx0.heap.size, 0, none⟩)) (w' := Xx94) (by rw [hX94]; kernel_rfl) ?_
 refine hK.out _ _ (HKS20.out _ HBx94) ?_
 clear hK K hX94
 intro _
 refine wpAnyH_ready (rs := [5, 21]) (by kernel_rfl) (by simp) ?_
 refine AllReadyH.cons rfl (fun K hK => ?_) ?_
 {
 refine wp_call (HSP.out Xx94 HBx94) (by kernel_rfl) ?_
 rintro e Xx95 ⟨As', cs', ls', rfl, hs5, hbx95, -⟩
 have HBx95 := below_next HBx94 hbx95
 refine ⟨_, rfl, hK.out _ _ (HKS20.out _ HBx95) ?_⟩
 clear hK K
 intro _
 refine wpAnyH_ready (rs := [7, 21]) (by kernel_rfl) (by simp) ?_
 refine AllReadyH.cons rfl (fun K hK => ?_) ?_
 {
 refine wp_call (rnatAdd_any As' AE cs' cE ls' lE _ _ Xx95 (hs5) (HEN.out Xx95 HBx95) (HLN.out _ _ _ _ _ (hs5) HZZ.out.1) HLE.out) (by kernel_rfl) ?_
 rintro e Xx96 ⟨A7, c7, l7, rfl, hs7, hbx96⟩
 have HBx96 := below_next HBx95 hbx96
 refine ⟨_, rfl, hK.out _ _ (HKS20.out _ HBx96) ?_⟩
 clear hK K
 intro _
 refine wpAnyH_ready (rs := [13, 21]) (by kernel_rfl) (by simp) ?_
 refine AllReadyH.cons rfl (fun K hK => ?_) ?_
 {
 refine wp_call (rnatAddN_any A7 y.A1 c7 y.c1 l7 y.l1 _ _ Xx96 (hs7) (HYR.out.1.1.on HBx96) (HLN.out _ _ _ _ _ (hs7) HZZ.out.2.1) HLY.out) (by kernel_rfl) ?_
 rintro e Xx97 ⟨Ad, cd, ld, rfl, hs13, hbx97, hns13⟩
 have hnd : ∀ b q, Ad = some ⟨b, q, none⟩ → b ≠ g := fun b q e => by have h1 := hns13 b q e; have h2 := HBx96.size; have h3 := HGLT.out; omega
 have HBx97 := below_next HBx96 hbx97
 refine ⟨_, rfl, hK.out _ _ (HKS20.out _ HBx97) ?_⟩
 clear hK K
 intro _
 refine run_one (i := 21) (by kernel_rfl) rfl rfl ?_
 intro K hK
 obtain ⟨Xx98, hX98⟩ : ∃ X, X = Xx97.alloc (.cells #[.int .i64 (k : Int)] 3) := ⟨_, rfl⟩
 have hbx98 : Below Xx97.heap.size Xx97 Xx98 := by rw [hX98]; exact (Below.refl _ _).alloc (Nat.le_refl _) _
 have h21 : Xx98.heap[Xx97.heap.size]? = some (.cells #[.int .i64 (k : Int)] 3 (0, 0)) := by rw [hX98]; exact alloc_at _ _ _ rfl
 have hne21 : Xx97.heap.size ≠ g := by have h2 := HBx97.size; have h3 := HGLT.out; omega
 have HBx98 := below_next HBx97 hbx98
 refine wp_val (v := .slice (some ⟨Xx97.heap.size, 0, none⟩) 1 1) (w' := Xx98) (by rw [hX98]; kernel_rfl) ?_
 refine hK.out _ _ (HKS20.out _ HBx98) ?_
 clear hK K hX98
 intro _
 refine run_one (i := 27) (by kernel_rfl) rfl rfl ?_
 intro K hK
 refine wp_app_one (.tmp 94) (.tmp 99) 22 (by kernel_rfl) 3 i0 Tryz.underlying22 hi0 hz0 hz1 hz2 (Xx97.heap.size) k (by kernel_rfl) (h21) y.A2 y.c2 y.zs (by kernel_rfl) (HYR.out.2.1.on HBx98) HZL.out ?_
 intro g2 cap2 Xx99 hpl27 hbx99 hg27
 have hn27 : ∀ b q, (some ⟨g2, 0, none⟩ : Option Addr) = some ⟨b, q, none⟩ → b ≠ g := fun b q e => by
   simp only [Option.some.injEq, Addr.mk.injEq, and_true] at e
   have h2 := HBx98.size
   have h3 := HGLT.out
   rcases hg27 with h | h <;> omega
 have HBx99 := below_next HBx98 hbx99
 refine hK.out _ _ (HKS20.out _ HBx99) ?_
 clear hK K
 intro _
 have HS0 := HKS20.out _ HBx99
 refine wpAnyH_take (i := 28) (v := ?_) rfl (by kernel_rfl) (by kernel_rfl) (by kernel_rfl) (fun _ _ _ h => h) (Or.inl ⟨by kernel_rfl, ?_⟩) HS0 ?_
 rotate_left
 · intro W hW; (try dsimp only at hW); go_simp; try (with_reducible rfl)
 clear HS0
 have he29 := ((hbx99.block _ (heap_lt (((hbx98.block _ (heap_lt (((hbx97.block _ (heap_lt (((hbx96.block _ (heap_lt (((hbx95.block _ (heap_lt (h29))).trans (h29))))).trans (((hbx95.block _ (heap_lt (h29))).trans (h29))))))).trans (((hbx96.block _ (heap_lt (((hbx95.block _ (heap_lt (h29))).trans (h29))))).trans (((hbx95.block _ (heap_lt (h29))).trans (h29))))))))).trans (((hbx97.block _ (heap_lt (((hbx96.block _ (heap_lt (((hbx95.block _ (heap_lt (h29))).trans (h29))))).trans (((hbx95.block _ (heap_lt (h29))).trans (h29))))))).trans (((hbx96.block _ (heap_lt (((hbx95.block _ (heap_lt (h29))).trans (h29))))).trans (((hbx95.block _ (heap_lt (h29))).trans (h29))))))))))).trans (((hbx98.block _ (heap_lt (((hbx97.block _ (heap_lt (((hbx96.block _ (heap_lt (((hbx95.block _ (heap_lt (h29))).trans (h29))))).trans (((hbx95.block _ (heap_lt (h29))).trans (h29))))))).trans (((hbx96.block _ (heap_lt (((hbx95.block _ (heap_lt (h29))).trans (h29))))).trans (((hbx95.block _ (heap_lt (h29))).trans (h29))))))))).trans (((hbx97.block _ (heap_lt (((hbx96.block _ (heap_lt (((hbx95.block _ (heap_lt (h29))).trans (h29))))).trans (((hbx95.block _ (heap_lt (h29))).trans (h29))))))).trans (((hbx96.block _ (heap_lt (((hbx95.block _ (heap_lt (h29))).trans (h29))))).trans (((hbx95.block _ (heap_lt (h29))).trans (h29))))))))))
 obtain ⟨Xx100, hX100⟩ : ∃ X, X = ((Xx99.setCell ⟨Xx0.heap.size, 0, none⟩ (.slice Ad ld.length cd)).setCell ⟨Xx0.heap.size, 1, none⟩ (.int .i64 ((y.p : Int) + 1))).setCell ⟨Xx0.heap.size, 2, none⟩ (.slice (some ⟨g2, 0, none⟩) (y.zs.length + 1) cap2) := ⟨_, rfl⟩
 have hbox := TvB.store (p := y.p + 1) he29 rfl ⟨⟨((hs13).on hbx98).on hbx99, hnd⟩, hpl27, hn27⟩ HK0.out
 rw [show ((y.p + 1 : Nat) : Int) = (y.p : Int) + 1 from rfl, show (k :: y.zs).length = y.zs.length + 1 from rfl, ← hX100] at hbox
 have HBx100 : Below wk.heap.size wk Xx100 := by rw [hX100]; exact (((HBx99).setCell (p := ⟨Xx0.heap.size, 0, none⟩) hlo29 _).setCell (p := ⟨Xx0.heap.size, 1, none⟩) hlo29 _).setCell (p := ⟨Xx0.heap.size, 2, none⟩) hlo29 _
 obtain ⟨k0, k1, k2, z0, z1, z2⟩ := tbox_facts he29
 refine run_one (i := 30) (by kernel_rfl) rfl rfl ?_
 intro K hK
 go_simp
 rw [← hX100]
 refine hK.out _ _ (HKS20.out _ HBx100) ?_
 clear hK K k0 k1 k2 z0 z1 z2 hX100
 intro _
 refine wpAnyH_done (by kernel_rfl) ?_ _
 refine NoPanic.normal ?_
 (try go_simp)
 first
   | exact HQ.out _ _ _ _ _ _ _ _ _ _ _ _ _ _ _ _ _ _ _ _ _ _ _ _ _ _ _ _ _ _ _ _ hbox HKEY.out HBx100
   | (go_wp2_with fail; exact HQ.out _ _ _ _ _ _ _ _ _ _ _ _ _ _ _ _ _ _ _ _ _ _ _ _ _ _ _ _ _ _ _ _ hbox HKEY.out HBx100)
 }
 refine AllReadyH.cons rfl (fun K hK => ?_) ?_
 {
 obtain ⟨Xx101, hX101⟩ : ∃ X, X = Xx96.alloc (.cells #[.int .i64 (k : Int)] 3) := ⟨_, rfl⟩
 have hbx101 : Below Xx96.heap.size Xx96 Xx101 := by rw [hX101]; exact (Below.refl _ _).alloc (Nat.le_refl _) _
 have h21 : Xx101.heap[Xx96.heap.size]? = some (.cells #[.int .i64 (k : Int)] 3 (0, 0)) := by rw [hX101]; exact alloc_at _ _ _ rfl
 have hne21 : Xx96.heap.size ≠ g := by have h2 := HBx96.size; have h3 := HGLT.out; omega
 have HBx101 := below_next HBx96 hbx101
 refine wp_val (v := .slice (some ⟨Xx96.heap.size, 0, none⟩) 1 1) (w' := Xx101) (by rw [hX101]; kernel_rfl) ?_
 refine hK.out _ _ (HKS20.out _ HBx101) ?_
 clear hK K hX101
 intro _
 refine run_one (i := 13) (by kernel_rfl) rfl rfl ?_
 intro K hK
 refine wp_call (rnatAddN_any A7 y.A1 c7 y.c1 l7 y.l1 _ _ Xx101 ((hs7).on hbx101) (HYR.out.1.1.on HBx101) (HLN.out _ _ _ _ _ ((hs7).on hbx101) HZZ.out.2.1) HLY.out) (by kernel_rfl) ?_
 rintro e Xx102 ⟨Ad, cd, ld, rfl, hs13, hbx102, hns13⟩
 have hnd : ∀ b q, Ad = some ⟨b, q, none⟩ → b ≠ g := fun b q e => by have h1 := hns13 b q e; have h2 := HBx101.size; have h3 := HGLT.out; omega
 have HBx102 := below_next HBx101 hbx102
 refine ⟨_, rfl, hK.out _ _ (HKS20.out _ HBx102) ?_⟩
 clear hK K
 intro _
 refine run_one (i := 27) (by kernel_rfl) rfl rfl ?_
 intro K hK
 refine wp_app_one (.tmp 94) (.tmp 99) 22 (by kernel_rfl) 3 i0 Tryz.underlying22 hi0 hz0 hz1 hz2 (Xx96.heap.size) k (by kernel_rfl) (((hbx102.block _ (heap_lt (h21))).trans (h21))) y.A2 y.c2 y.zs (by kernel_rfl) (HYR.out.2.1.on HBx102) HZL.out ?_
 intro g2 cap2 Xx103 hpl27 hbx103 hg27
 have hn27 : ∀ b q, (some ⟨g2, 0, none⟩ : Option Addr) = some ⟨b, q, none⟩ → b ≠ g := fun b q e => by
   simp only [Option.some.injEq, Addr.mk.injEq, and_true] at e
   have h2 := HBx102.size
   have h3 := HGLT.out
   rcases hg27 with h | h <;> omega
 have HBx103 := below_next HBx102 hbx103
 refine hK.out _ _ (HKS20.out _ HBx103) ?_
 clear hK K
 intro _
 have HS0 := HKS20.out _ HBx103
 refine wpAnyH_take (i := 28) (v := ?_) rfl (by kernel_rfl) (by kernel_rfl) (by kernel_rfl) (fun _ _ _ h => h) (Or.inl ⟨by kernel_rfl, ?_⟩) HS0 ?_
 rotate_left
 · intro W hW; (try dsimp only at hW); go_simp; try (with_reducible rfl)
 clear HS0
 have he29 := ((hbx103.block _ (heap_lt (((hbx102.block _ (heap_lt (((hbx101.block _ (heap_lt (((hbx96.block _ (heap_lt (((hbx95.block _ (heap_lt (h29))).trans (h29))))).trans (((hbx95.block _ (heap_lt (h29))).trans (h29))))))).trans (((hbx96.block _ (heap_lt (((hbx95.block _ (heap_lt (h29))).trans (h29))))).trans (((hbx95.block _ (heap_lt (h29))).trans (h29))))))))).trans (((hbx101.block _ (heap_lt (((hbx96.block _ (heap_lt (((hbx95.block _ (heap_lt (h29))).trans (h29))))).trans (((hbx95.block _ (heap_lt (h29))).trans (h29))))))).trans (((hbx96.block _ (heap_lt (((hbx95.block _ (heap_lt (h29))).trans (h29))))).trans (((hbx95.block _ (heap_lt (h29))).trans (h29))))))))))).trans (((hbx102.block _ (heap_lt (((hbx101.block _ (heap_lt (((hbx96.block _ (heap_lt (((hbx95.block _ (heap_lt (h29))).trans (h29))))).trans (((hbx95.block _ (heap_lt (h29))).trans (h29))))))).trans (((hbx96.block _ (heap_lt (((hbx95.block _ (heap_lt (h29))).trans (h29))))).trans (((hbx95.block _ (heap_lt (h29))).trans (h29))))))))).trans (((hbx101.block _ (heap_lt (((hbx96.block _ (heap_lt (((hbx95.block _ (heap_lt (h29))).trans (h29))))).trans (((hbx95.block _ (heap_lt (h29))).trans (h29))))))).trans (((hbx96.block _ (heap_lt (((hbx95.block _ (heap_lt (h29))).trans (h29))))).trans (((hbx95.block _ (heap_lt (h29))).trans (h29))))))))))
 obtain ⟨Xx104, hX104⟩ : ∃ X, X = ((Xx103.setCell ⟨Xx0.heap.size, 0, none⟩ (.slice Ad ld.length cd)).setCell ⟨Xx0.heap.size, 1, none⟩ (.int .i64 ((y.p : Int) + 1))).setCell ⟨Xx0.heap.size, 2, none⟩ (.slice (some ⟨g2, 0, none⟩) (y.zs.length + 1) cap2) := ⟨_, rfl⟩
 have hbox := TvB.store (p := y.p + 1) he29 rfl ⟨⟨(hs13).on hbx103, hnd⟩, hpl27, hn27⟩ HK0.out
 rw [show ((y.p + 1 : Nat) : Int) = (y.p : Int) + 1 from rfl, show (k :: y.zs).length = y.zs.length + 1 from rfl, ← hX104] at hbox
 have HBx104 : Below wk.heap.size wk Xx104 := by rw [hX104]; exact (((HBx103).setCell (p := ⟨Xx0.heap.size, 0, none⟩) hlo29 _).setCell (p := ⟨Xx0.heap.size, 1, none⟩) hlo29 _).setCell (p := ⟨Xx0.heap.size, 2, none⟩) hlo29 _
 obtain ⟨k0, k1, k2, z0, z1, z2⟩ := tbox_facts he29
 refine run_one (i := 30) (by kernel_rfl) rfl rfl ?_
 intro K hK
 go_simp
 rw [← hX104]
 refine hK.out _ _ (HKS20.out _ HBx104) ?_
 clear hK K k0 k1 k2 z0 z1 z2 hX104
 intro _
 refine wpAnyH_done (by kernel_rfl) ?_ _
 refine NoPanic.normal ?_
 (try go_simp)
 first
   | exact HQ.out _ _ _ _ _ _ _ _ _ _ _ _ _ _ _ _ _ _ _ _ _ _ _ _ _ _ _ _ _ _ _ _ hbox HKEY.out HBx104
   | (go_wp2_with fail; exact HQ.out _ _ _ _ _ _ _ _ _ _ _ _ _ _ _ _ _ _ _ _ _ _ _ _ _ _ _ _ _ _ _ _ hbox HKEY.out HBx104)
 }
 exact AllReadyH.nil
 }
 refine AllReadyH.cons rfl (fun K hK => ?_) ?_
 {
 obtain ⟨Xx105, hX105⟩ : ∃ X, X = Xx95.alloc (.cells #[.int .i64 (k : Int)] 3) := ⟨_, rfl⟩
 have hbx105 : Below Xx95.heap.size Xx95 Xx105 := by rw [hX105]; exact (Below.refl _ _).alloc (Nat.le_refl _) _
 have h21 : Xx105.heap[Xx95.heap.size]? = some (.cells #[.int .i64 (k : Int)] 3 (0, 0)) := by rw [hX105]; exact alloc_at _ _ _ rfl
 have hne21 : Xx95.heap.size ≠ g := by have h2 := HBx95.size; have h3 := HGLT.out; omega
 have HBx105 := below_next HBx95 hbx105
 refine wp_val (v := .slice (some ⟨Xx95.heap.size, 0, none⟩) 1 1) (w' := Xx105) (by rw [hX105]; kernel_rfl) ?_
 refine hK.out _ _ (HKS20.out _ HBx105) ?_
 clear hK K hX105
 intro _
 refine run_one (i := 7) (by kernel_rfl) rfl rfl ?_
 intro K hK
 refine wp_call (rnatAdd_any As' AE cs' cE ls' lE _ _ Xx105 ((hs5).on hbx105) (HEN.out Xx105 HBx105) (HLN.out _ _ _ _ _ ((hs5).on hbx105) HZZ.out.1) HLE.out) (by kernel_rfl) ?_
 rintro e Xx106 ⟨A7, c7, l7, rfl, hs7, hbx106⟩
 have HBx106 := below_next HBx105 hbx106
 refine ⟨_, rfl, hK.out _ _ (HKS20.out _ HBx106) ?_⟩
 clear hK K
 intro _
 refine run_one (i := 13) (by kernel_rfl) rfl rfl ?_
 intro K hK
 refine wp_call (rnatAddN_any A7 y.A1 c7 y.c1 l7 y.l1 _ _ Xx106 (hs7) (HYR.out.1.1.on HBx106) (HLN.out _ _ _ _ _ (hs7) HZZ.out.2.1) HLY.out) (by kernel_rfl) ?_
 rintro e Xx107 ⟨Ad, cd, ld, rfl, hs13, hbx107, hns13⟩
 have hnd : ∀ b q, Ad = some ⟨b, q, none⟩ → b ≠ g := fun b q e => by have h1 := hns13 b q e; have h2 := HBx106.size; have h3 := HGLT.out; omega
 have HBx107 := below_next HBx106 hbx107
 refine ⟨_, rfl, hK.out _ _ (HKS20.out _ HBx107) ?_⟩
 clear hK K
 intro _
 refine run_one (i := 27) (by kernel_rfl) rfl rfl ?_
 intro K hK
 refine wp_app_one (.tmp 94) (.tmp 99) 22 (by kernel_rfl) 3 i0 Tryz.underlying22 hi0 hz0 hz1 hz2 (Xx95.heap.size) k (by kernel_rfl) (((hbx107.block _ (heap_lt (((hbx106.block _ (heap_lt (h21))).trans (h21))))).trans (((hbx106.block _ (heap_lt (h21))).trans (h21))))) y.A2 y.c2 y.zs (by kernel_rfl) (HYR.out.2.1.on HBx107) HZL.out ?_
 intro g2 cap2 Xx108 hpl27 hbx108 hg27
 have hn27 : ∀ b q, (some ⟨g2, 0, none⟩ : Option Addr) = some ⟨b, q, none⟩ → b ≠ g := fun b q e => by
   simp only [Option.some.injEq, Addr.mk.injEq, and_true] at e
   have h2 := HBx107.size
   have h3 := HGLT.out
   rcases hg27 with h | h <;> omega
 have HBx108 := below_next HBx107 hbx108
 refine hK.out _ _ (HKS20.out _ HBx108) ?_
 clear hK K
 intro _
 have HS0 := HKS20.out _ HBx108
 refine wpAnyH_take (i := 28) (v := ?_) rfl (by kernel_rfl) (by kernel_rfl) (by kernel_rfl) (fun _ _ _ h => h) (Or.inl ⟨by kernel_rfl, ?_⟩) HS0 ?_
 rotate_left
 · intro W hW; (try dsimp only at hW); go_simp; try (with_reducible rfl)
 clear HS0
 have he29 := ((hbx108.block _ (heap_lt (((hbx107.block _ (heap_lt (((hbx106.block _ (heap_lt (((hbx105.block _ (heap_lt (((hbx95.block _ (heap_lt (h29))).trans (h29))))).trans (((hbx95.block _ (heap_lt (h29))).trans (h29))))))).trans (((hbx105.block _ (heap_lt (((hbx95.block _ (heap_lt (h29))).trans (h29))))).trans (((hbx95.block _ (heap_lt (h29))).trans (h29))))))))).trans (((hbx106.block _ (heap_lt (((hbx105.block _ (heap_lt (((hbx95.block _ (heap_lt (h29))).trans (h29))))).trans (((hbx95.block _ (heap_lt (h29))).trans (h29))))))).trans (((hbx105.block _ (heap_lt (((hbx95.block _ (heap_lt (h29))).trans (h29))))).trans (((hbx95.block _ (heap_lt (h29))).trans (h29))))))))))).trans (((hbx107.block _ (heap_lt (((hbx106.block _ (heap_lt (((hbx105.block _ (heap_lt (((hbx95.block _ (heap_lt (h29))).trans (h29))))).trans (((hbx95.block _ (heap_lt (h29))).trans (h29))))))).trans (((hbx105.block _ (heap_lt (((hbx95.block _ (heap_lt (h29))).trans (h29))))).trans (((hbx95.block _ (heap_lt (h29))).trans (h29))))))))).trans (((hbx106.block _ (heap_lt (((hbx105.block _ (heap_lt (((hbx95.block _ (heap_lt (h29))).trans (h29))))).trans (((hbx95.block _ (heap_lt (h29))).trans (h29))))))).trans (((hbx105.block _ (heap_lt (((hbx95.block _ (heap_lt (h29))).trans (h29))))).trans (((hbx95.block _ (heap_lt (h29))).trans (h29))))))))))
 obtain ⟨Xx109, hX109⟩ : ∃ X, X = ((Xx108.setCell ⟨Xx0.heap.size, 0, none⟩ (.slice Ad ld.length cd)).setCell ⟨Xx0.heap.size, 1, none⟩ (.int .i64 ((y.p : Int) + 1))).setCell ⟨Xx0.heap.size, 2, none⟩ (.slice (some ⟨g2, 0, none⟩) (y.zs.length + 1) cap2) := ⟨_, rfl⟩
 have hbox := TvB.store (p := y.p + 1) he29 rfl ⟨⟨(hs13).on hbx108, hnd⟩, hpl27, hn27⟩ HK0.out
 rw [show ((y.p + 1 : Nat) : Int) = (y.p : Int) + 1 from rfl, show (k :: y.zs).length = y.zs.length + 1 from rfl, ← hX109] at hbox
 have HBx109 : Below wk.heap.size wk Xx109 := by rw [hX109]; exact (((HBx108).setCell (p := ⟨Xx0.heap.size, 0, none⟩) hlo29 _).setCell (p := ⟨Xx0.heap.size, 1, none⟩) hlo29 _).setCell (p := ⟨Xx0.heap.size, 2, none⟩) hlo29 _
 obtain ⟨k0, k1, k2, z0, z1, z2⟩ := tbox_facts he29
 refine run_one (i := 30) (by kernel_rfl) rfl rfl ?_
 intro K hK
 go_simp
 rw [← hX109]
 refine hK.out _ _ (HKS20.out _ HBx109) ?_
 clear hK K k0 k1 k2 z0 z1 z2 hX109
 intro _
 refine wpAnyH_done (by kernel_rfl) ?_ _
 refine NoPanic.normal ?_
 (try go_simp)
 first
   | exact HQ.out _ _ _ _ _ _ _ _ _ _ _ _ _ _ _ _ _ _ _ _ _ _ _ _ _ _ _ _ _ _ _ _ hbox HKEY.out HBx109
   | (go_wp2_with fail; exact HQ.out _ _ _ _ _ _ _ _ _ _ _ _ _ _ _ _ _ _ _ _ _ _ _ _ _ _ _ _ _ _ _ _ hbox HKEY.out HBx109)
 }
 exact AllReadyH.nil
 }
 refine AllReadyH.cons rfl (fun K hK => ?_) ?_
 {
 obtain ⟨Xx110, hX110⟩ : ∃ X, X = Xx94.alloc (.cells #[.int .i64 (k : Int)] 3) := ⟨_, rfl⟩
 have hbx110 : Below Xx94.heap.size Xx94 Xx110 := by rw [hX110]; exact (Below.refl _ _).alloc (Nat.le_refl _) _
 have h21 : Xx110.heap[Xx94.heap.size]? = some (.cells #[.int .i64 (k : Int)] 3 (0, 0)) := by rw [hX110]; exact alloc_at _ _ _ rfl
 have hne21 : Xx94.heap.size ≠ g := by have h2 := HBx94.size; have h3 := HGLT.out; omega
 have HBx110 := below_next HBx94 hbx110
 refine wp_val (v := .slice (some ⟨Xx94.heap.size, 0, none⟩) 1 1) (w' := Xx110) (by rw [hX110]; kernel_rfl) ?_
 refine hK.out _ _ (HKS20.out _ HBx110) ?_
 clear hK K hX110
 intro _
 refine run_one (i := 5) (by kernel_rfl) rfl rfl ?_
 intro K hK
 refine wp_call (HSP.out Xx110 HBx110) (by kernel_rfl) ?_
 rintro e Xx111 ⟨As', cs', ls', rfl, hs5, hbx111, -⟩
 have HBx111 := below_next HBx110 hbx111
 refine ⟨_, rfl, hK.out _ _ (HKS20.out _ HBx111) ?_⟩
 clear hK K
 intro _
 refine run_one (i := 7) (by kernel_rfl) rfl rfl ?_
 intro K hK
 refine wp_call (rnatAdd_any As' AE cs' cE ls' lE _ _ Xx111 (hs5) (HEN.out Xx111 HBx111) (HLN.out _ _ _ _ _ (hs5) HZZ.out.1) HLE.out) (by kernel_rfl) ?_
 rintro e Xx112 ⟨A7, c7, l7, rfl, hs7, hbx112⟩
 have HBx112 := below_next HBx111 hbx112
 refine ⟨_, rfl, hK.out _ _ (HKS20.out _ HBx112) ?_⟩
 clear hK K
 intro _
 refine run_one (i := 13) (by kernel_rfl) rfl rfl ?_
 intro K hK
 refine wp_call (rnatAddN_any A7 y.A1 c7 y.c1 l7 y.l1 _ _ Xx112 (hs7) (HYR.out.1.1.on HBx112) (HLN.out _ _ _ _ _ (hs7) HZZ.out.2.1) HLY.out) (by kernel_rfl) ?_
 rintro e Xx113 ⟨Ad, cd, ld, rfl, hs13, hbx113, hns13⟩
 have hnd : ∀ b q, Ad = some ⟨b, q, none⟩ → b ≠ g := fun b q e => by have h1 := hns13 b q e; have h2 := HBx112.size; have h3 := HGLT.out; omega
 have HBx113 := below_next HBx112 hbx113
 refine ⟨_, rfl, hK.out _ _ (HKS20.out _ HBx113) ?_⟩
 clear hK K
 intro _
 refine run_one (i := 27) (by kernel_rfl) rfl rfl ?_
 intro K hK
 refine wp_app_one (.tmp 94) (.tmp 99) 22 (by kernel_rfl) 3 i0 Tryz.underlying22 hi0 hz0 hz1 hz2 (Xx94.heap.size) k (by kernel_rfl) (((hbx113.block _ (heap_lt (((hbx112.block _ (heap_lt (((hbx111.block _ (heap_lt (h21))).trans (h21))))).trans (((hbx111.block _ (heap_lt (h21))).trans (h21))))))).trans (((hbx112.block _ (heap_lt (((hbx111.block _ (heap_lt (h21))).trans (h21))))).trans (((hbx111.block _ (heap_lt (h21))).trans (h21))))))) y.A2 y.c2 y.zs (by kernel_rfl) (HYR.out.2.1.on HBx113) HZL.out ?_
 intro g2 cap2 Xx114 hpl27 hbx114 hg27
 have hn27 : ∀ b q, (some ⟨g2, 0, none⟩ : Option Addr) = some ⟨b, q, none⟩ → b ≠ g := fun b q e => by
   simp only [Option.some.injEq, Addr.mk.injEq, and_true] at e
   have h2 := HBx113.size
   have h3 := HGLT.out
   rcases hg27 with h | h <;> omega
 have HBx114 := below_next HBx113 hbx114
 refine hK.out _ _ (HKS20.out _ HBx114) ?_
 clear hK K
 intro _
 have HS0 := HKS20.out _ HBx114
 refine wpAnyH_take (i := 28) (v := ?_) rfl (by kernel_rfl) (by kernel_rfl) (by kernel_rfl) (fun _ _ _ h => h) (Or.inl ⟨by kernel_rfl, ?_⟩) HS0 ?_
 rotate_left
 · intro W hW; (try dsimp only at hW); go_simp; try (with_reducible rfl)
 clear HS0
 have he29 := ((hbx114.block _ (heap_lt (((hbx113.block _ (heap_lt (((hbx112.block _ (heap_lt (((hbx111.block _ (heap_lt (((hbx110.block _ (heap_lt (h29))).trans (h29))))).trans (((hbx110.block _ (heap_lt (h29))).trans (h29))))))).trans (((hbx111.block _ (heap_lt (((hbx110.block _ (heap_lt (h29))).trans (h29))))).trans (((hbx110.block _ (heap_lt (h29))).trans (h29))))))))).trans (((hbx112.block _ (heap_lt (((hbx111.block _ (heap_lt (((hbx110.block _ (heap_lt (h29))).trans (h29))))).trans (((hbx110.block _ (heap_lt (h29))).trans (h29))))))).trans (((hbx111.block _ (heap_lt (((hbx110.block _ (heap_lt (h29))).trans (h29))))).trans (((hbx110.block _ (heap_lt (h29))).trans (h29))))))))))).trans (((hbx113.block _ (heap_lt (((hbx112.block _ (heap_lt (((hbx111.block _ (heap_lt (((hbx110.block _ (heap_lt (h29))).trans (h29))))).trans (((hbx110.block _ (heap_lt (h29))).trans (h29))))))).trans (((hbx111.block _ (heap_lt (((hbx110.block _ (heap_lt (h29))).trans (h29))))).trans (((hbx110.block _ (heap_lt (h29))).trans (h29))))))))).trans (((hbx112.block _ (heap_lt (((hbx111.block _ (heap_lt (((hbx110.block _ (heap_lt (h29))).trans (h29))))).trans (((hbx110.block _ (heap_lt (h29))).trans (h29))))))).trans (((hbx111.block _ (heap_lt (((hbx110.block _ (heap_lt (h29))).trans (h29))))).trans (((hbx110.block _ (heap_lt (h29))).trans (h29))))))))))
 obtain ⟨Xx115, hX115⟩ : ∃ X, X = ((Xx114.setCell ⟨Xx0.heap.size, 0, none⟩ (.slice Ad ld.length cd)).setCell ⟨Xx0.heap.size, 1, none⟩ (.int .i64 ((y.p : Int) + 1))).setCell ⟨Xx0.heap.size, 2, none⟩ (.slice (some ⟨g2, 0, none⟩) (y.zs.length + 1) cap2) := ⟨_, rfl⟩
 have hbox := TvB.store (p := y.p + 1) he29 rfl ⟨⟨(hs13).on hbx114, hnd⟩, hpl27, hn27⟩ HK0.out
 rw [show ((y.p + 1 : Nat) : Int) = (y.p : Int) + 1 from rfl, show (k :: y.zs).length = y.zs.length + 1 from rfl, ← hX115] at hbox
 have HBx115 : Below wk.heap.size wk Xx115 := by rw [hX115]; exact (((HBx114).setCell (p := ⟨Xx0.heap.size, 0, none⟩) hlo29 _).setCell (p := ⟨Xx0.heap.size, 1, none⟩) hlo29 _).setCell (p := ⟨Xx0.heap.size, 2, none⟩) hlo29 _
 obtain ⟨k0, k1, k2, z0, z1, z2⟩ := tbox_facts he29
 refine run_one (i := 30) (by kernel_rfl) rfl rfl ?_
 intro K hK
 go_simp
 rw [← hX115]
 refine hK.out _ _ (HKS20.out _ HBx115) ?_
 clear hK K k0 k1 k2 z0 z1 z2 hX115
 intro _
 refine wpAnyH_done (by kernel_rfl) ?_ _
 refine NoPanic.normal ?_
 (try go_simp)
 first
   | exact HQ.out _ _ _ _ _ _ _ _ _ _ _ _ _ _ _ _ _ _ _ _ _ _ _ _ _ _ _ _ _ _ _ _ hbox HKEY.out HBx115
   | (go_wp2_with fail; exact HQ.out _ _ _ _ _ _ _ _ _ _ _ _ _ _ _ _ _ _ _ _ _ _ _ _ _ _ _ _ _ _ _ _ hbox HKEY.out HBx115)
 }
 exact AllReadyH.nil
 }
 exact AllReadyH.nil
  }
end Go.Proofs.YtnpfdelklolchaaGreatDoor
