/- The reference's Changes: the rest of a round. Printed by gen_r10chg2.py. -/
import Derived.Test.YtnpfdelklolchaaGreatDoorG41
namespace Go.Proofs.YtnpfdelklolchaaGreatDoor
open Go Go.RowKit Go.Proofs

noncomputable def chgB : Code := (Tryz.f11.body.bind (findT 20)).getD .skip
set_option maxHeartbeats 8000000 in
set_option maxRecDepth 100000 in
theorem chgB_any (bk o c g i k : Nat) (l : List Int) (pen : Int) (AD AE : Option Addr) (cD cE : Nat) (lD lE : List Nat) (T : Nat → Nat × List Nat) (D : Nat) (wk : World) (Q : Exit → Act → World → Prop)
    (hRL : ∀ X, Below wk.heap.size wk X → Rd X 0 X.heap.size 1 (some ⟨bk, o, none⟩) l.length (ints l)) (h2 : okZ l = true) (hp : 0 ≤ pen ∧ pen ≤ 1000000000000000) (hl3 : l.length ≤ 300) (hcap : l.length ≤ c) (hik0 : i < k) (hlt : k < l.length)
    (hDD : D = cmn l.length) (hDN : RNatR wk AD cD lD D) (hNE : RNatR wk AE cE lE (chE l pen)) (hLE : lE.length ≤ 1000000)
    (hRT : RT wk g (l.length + 1) (fun q => if q = i then f3 (runF (chc l) (chE l pen) T l.length i (k - i - 1)) else if i + 1 ≤ q ∧ q < l.length then f3 (T q) else (0, 0, [])))
    (hTM : ∀ k, i + 1 ≤ k → k < l.length → IsMin (chc l) (chE l pen) k l.length (T k))
    (wd w4 : World) (bd : Nat) (y' : Tv) (hty : TvB wd bd g y') (hyk0 : y'.k = f3 (chc l i k + chE l pen + (T k).1, k :: (T k).2)) (hbd : Below wk.heap.size wk wd) (hbk : Below w4.heap.size w4 wk) (hg : w4.heap.size ≤ g)
    (u0 u1 u2 u3 u4 u5 u6 u7 u8 u9 u14 u15 u16 u17 u18 u19 u20 u21 u22 u23 u24 u25 u26 u27 u28 u29 u30 u31 u32 u33 u34 u35 u36 u37 u38 u39 u40 u41 u42 u43 u44 u45 u46 u47 u48 u49 u50 u51 u52 u53 u54 u55 u56 u57 u58 u59 u60 u61 u62 u63 u64 u65 u66 u67 u68 u69 u70 u71 u72 u73 u74 u75 u76 u77 u78 u79 u80 u81 u82 u83 u84 u85 u86 u87 u88 u89 u90 u91 u92 u93 u94 u95 u96 u97 u98 u99 u100 u101 u102 u103 u104 u105 u106 u107 u108 u109 u110 u111 u112 u113 u114 u115 u116 u117 u118 u119 u120 u121 u122 u123 u124 u125 u126 u127 u128 u129 u130 u131 u132 u133 u134 u135 u136 u137 u138 u139 u140 u141 u142 u143 u144 u145 u146 u147 u148 u149 u150 u151 u152 u153 u154 u155 u156 u157 u158 u159 u160 u161 u162 u163 u164 u165 u166 u167 u168 : Value)
    (hQ : ∀ (v102 v103 v104 v105 v106 v107 v108 v109 v110 v111 v112 v113 v114 v115 v116 v117 v118 v119 v120 v121 v122 v123 v124 v125 v126 v127 v128 v129 v130 v131 v132 v133 v134 v135 v136 v137 v138 v139 v140 v141 v142 v143 v144 v145 v146 v147 v148 v149 v14 : Value) (W' : World), RT W' g (l.length + 1) (fun q => if q = i then f3 (runF (chc l) (chE l pen) T l.length i (k + 1 - i - 1)) else if i + 1 ≤ q ∧ q < l.length then f3 (T q) else (0, 0, [])) → Below w4.heap.size w4 W' → Q .normal { tmps := #[u0, u1, u2, u3, u4, u5, u6, u7, u8, u9, (.slice (some ⟨g, 0, none⟩) (l.length + 1) (l.length + 1)), (.int .i64 (i : Int)), (.int .i64 (k : Int)), (.pointer (some ⟨bd, 0, none⟩)), v14, u15, u16, u17, u18, u19, u20, u21, u22, u23, u24, u25, u26, u27, u28, u29, u30, u31, u32, u33, u34, u35, u36, u37, u38, u39, u40, u41, u42, u43, u44, u45, u46, u47, u48, u49, u50, u51, u52, u53, u54, u55, u56, u57, u58, u59, u60, u61, u62, u63, u64, u65, u66, u67, u68, u69, u70, u71, u72, u73, u74, u75, u76, u77, u78, u79, u80, u81, u82, u83, u84, u85, u86, u87, u88, u89, u90, u91, u92, u93, u94, u95, u96, u97, u98, u99, u100, u101, v102, v103, v104, v105, v106, v107, v108, v109, v110, v111, v112, v113, v114, v115, v116, v117, v118, v119, v120, v121, v122, v123, v124, v125, v126, v127, v128, v129, v130, v131, v132, v133, v134, v135, v136, v137, v138, v139, v140, v141, v142, v143, v144, v145, v146, v147, v148, v149, u150, u151, u152, u153, u154, u155, u156, u157, u158, u159, u160, u161, u162, u163, u164, u165, u166, u167, u168], defers := [] } W') :
    Code.wp Tryz.prog chgB Q { tmps := #[u0, u1, u2, u3, u4, u5, u6, u7, u8, u9, (.slice (some ⟨g, 0, none⟩) (l.length + 1) (l.length + 1)), (.int .i64 (i : Int)), (.int .i64 (k : Int)), (.pointer (some ⟨bd, 0, none⟩)), u14, u15, u16, u17, u18, u19, u20, u21, u22, u23, u24, u25, u26, u27, u28, u29, u30, u31, u32, u33, u34, u35, u36, u37, u38, u39, u40, u41, u42, u43, u44, u45, u46, u47, u48, u49, u50, u51, u52, u53, u54, u55, u56, u57, u58, u59, u60, u61, u62, u63, u64, u65, u66, u67, u68, u69, u70, u71, u72, u73, u74, u75, u76, u77, u78, u79, u80, u81, u82, u83, u84, u85, u86, u87, u88, u89, u90, u91, u92, u93, u94, u95, u96, u97, u98, u99, u100, u101, u102, u103, u104, u105, u106, u107, u108, u109, u110, u111, u112, u113, u114, u115, u116, u117, u118, u119, u120, u121, u122, u123, u124, u125, u126, u127, u128, u129, u130, u131, u132, u133, u134, u135, u136, u137, u138, u139, u140, u141, u142, u143, u144, u145, u146, u147, u148, u149, u150, u151, u152, u153, u154, u155, u156, u157, u158, u159, u160, u161, u162, u163, u164, u165, u166, u167, u168], defers := [] } wd := by
  conv => arg 2; unfold chgB; whnf
  have HQ := Lib.hid hQ
  clear hQ
  have HRL := Lib.hid hRL
  have HTM := Lib.hid hTM
  have HRK := Lib.hid hRT
  have HDN := Lib.hid hDN
  have HNE := Lib.hid hNE
  have HLE := Lib.hid hLE
  have HDD := Lib.hid hDD
  have hin : i < l.length := by omega
  have hic : i ≤ c := by omega
  have hine : ¬ c = i := by omega
  have hinz : (i : Int) < (l.length : Int) + 1 := by omega
  have hil : i ≤ l.length := by omega
  have hi0' : (0 : Int) ≤ (i : Int) := by omega
  have hk1 : i + 1 ≤ k := by omega
  have hk2 : k ≤ l.length := by omega
  clear hRL hTM hRT hDN hNE hLE hDD
  obtain ⟨y, hyk, hyr, hyc⟩ := HRK.out.get (k := k) (by omega)
  have hyk' : y.k = f3 (T k) := by
    rw [hyk]
    show (if k = i then _ else if i + 1 ≤ k ∧ k < l.length then f3 (T k) else _) = _
    rw [if_neg (by omega), if_pos ⟨by omega, hlt⟩]
  have hx : y.x = (T k).1 := congrArg Prod.fst hyk'
  have hyp : y.p = (T k).2.length + 1 := congrArg (fun z => z.2.1) hyk'
  have hyz : y.zs = (T k).2 := congrArg (fun z => z.2.2) hyk'
  have hmin := HTM.out k (by omega) hlt
  have hm1' := min_le h2 hl3 hmin
  have hck := chc_le (i := i) h2 hl3 hk2
  have hce' := chE_le (l := l) hp.2
  have hs4 := fun x (hx : x ≤ cmn l.length * 4000000000000000) => (show x < T4 ^ 38 from ch_small4 hl3 hx)
  have HZZ := Lib.hid (show chc l i k < T4 ^ 38 ∧ chc l i k + chE l pen < T4 ^ 38 ∧ y.x < T4 ^ 38 ∧ chc l i k + chE l pen + y.x < T4 ^ 38 from ⟨hs4 _ (up_bd hck (by omega)), hs4 _ (add_bd hck hce' (by omega)), by rw [hx]; exact hs4 _ (up_bd hm1' (by omega)), by rw [hx]; exact hs4 _ (add_bd (add_bd hck hce' (Nat.le_refl _)) hm1' (by omega))⟩)
  have HLN := Lib.hid (fun X A c (l : List Nat) x (h : RNatR X A c l x) (hx : x < T4 ^ 38) => (show l.length ≤ 1000000 from by have := h.len hx; omega))
  have HKEY := Lib.hid (show (chc l i k + chE l pen + y.x, y.p + 1, k :: y.zs) = f3 (chc l i k + chE l pen + (T k).1, k :: (T k).2) by rw [hx, hyp, hyz]; rfl)
  have HBK := Lib.hid hbk
  have HG := Lib.hid hg
  have hltz : (k : Int) < (l.length : Int) := by omega
  have hltz2 : (k : Int) < (l.length : Int) + 1 := by omega
  clear hyk hyr hyc hyk' hx hyp hyz hmin hm1' hck hce' hs4 hbk hg
  have hyk := hyk0
  clear hyk0
  obtain ⟨y0, hk0, hr0, hc0⟩ := HRK.out.get (k := i) (by omega)
  have hk0' : y0.k = f3 (runF (chc l) (chE l pen) T l.length i (k - i - 1)) := by
    rw [hk0]
    show (if i = i then _ else _) = _
    rw [if_pos rfl]
  have HTY := Lib.hid hty
  have HYK := Lib.hid hyk
  have HBD := Lib.hid hbd
  have HK0' := Lib.hid hk0'
  have HR0 := Lib.hid (hr0.on hbd)
  have HKS21 := Lib.hid (show ∀ X, Below wd.heap.size wd X → (fun X => Below wd.heap.size wd X ∧ X.cell? ⟨bd, 0, none⟩ = some (.slice y'.A1 y'.l1.length y'.c1) ∧ X.cell? ⟨bd, 1, none⟩ = some (.int .i64 (y'.p : Int)) ∧ X.cell? ⟨bd, 2, none⟩ = some (.slice y'.A2 y'.zs.length y'.c2) ∧ X.cell? ⟨g, i * 3, none⟩ = some (.slice y0.A1 y0.l1.length y0.c1) ∧ X.cell? ⟨g, i * 3 + 1, none⟩ = some (.int .i64 (y0.p : Int)) ∧ X.cell? ⟨g, i * 3 + 2, none⟩ = some (.slice y0.A2 y0.zs.length y0.c2)) X from fun X hX => by
    obtain ⟨a0, a1, a2⟩ := (HTY.out.on hX).cells
    obtain ⟨b0, b1, b2⟩ := hc0 X (below_next hbd hX)
    exact ⟨hX, a0, a1, a2, b0, b1, b2⟩)
  obtain ⟨K1, hK1⟩ : ∃ z, z = (chc l i k + chE l pen + (T k).1, k :: (T k).2) := ⟨_, rfl⟩
  obtain ⟨K2, hK2⟩ : ∃ z, z = runF (chc l) (chE l pen) T l.length i (k - i - 1) := ⟨_, rfl⟩
  have hnx : runF (chc l) (chE l pen) T l.length i (k + 1 - i - 1) = pickK K1 K2 := by
    rw [show k + 1 - i - 1 = (k - i - 1) + 1 by omega, runF, show i + (k - i - 1 + 1) = k by omega, hK1, hK2]
  have HTAK := Lib.hid (show betK K1 K2 = true → f3 (runF (chc l) (chE l pen) T l.length i (k + 1 - i - 1)) = y'.k from fun hb => by
    rw [hnx, HYK.out, ← hK1]; unfold pickK; rw [if_pos hb])
  have HLEF := Lib.hid (show betK K1 K2 = false → f3 (runF (chc l) (chE l pen) T l.length i (k + 1 - i - 1)) = f3 (runF (chc l) (chE l pen) T l.length i (k - i - 1)) from fun hb => by
    rw [hnx, ← hK2]; unfold pickK; rw [hb]; rfl)
  have HY1 := Lib.hid (show y'.k = f3 K1 by rw [HYK.out, hK1])
  have HY2 := Lib.hid (show y0.k = f3 K2 by rw [HK0'.out, hK2])
  have HDO := Lib.hid (below_next HBK.out HBD.out)
  have HYS := Lib.hid (show y'.x < T4 ^ 38 by
    have h3 : y'.x = chc l i k + chE l pen + y.x := congrArg Prod.fst (HYK.out.trans HKEY.out.symm)
    rw [h3]; exact HZZ.out.2.2.2)
  have HOS := Lib.hid (show y0.x < T4 ^ 38 by
    have h3 : y0.x = (runF (chc l) (chE l pen) T l.length i (k - i - 1)).1 := congrArg Prod.fst HK0'.out
    rw [h3]
    exact ch_small4 (by omega) (up_bd (Nat.le_trans (runF_le _) (chc_le (i := i) h2 (show l.length ≤ 300 from hl3) (Nat.le_refl _))) (by omega)))
  have htl := fun q (h3 : i < q) (h4 : q < l.length) => (show (T q).2.length ≤ l.length by have h5 := Val.length_le (HTM.out q h3 h4).1 h4; omega)
  have HYL := Lib.hid (show y'.zs.length ≤ 1000000 by
    have h3 : y'.zs = k :: (T k).2 := congrArg (fun u => u.2.2) HYK.out
    have h4 := htl k (by omega) hlt
    rw [h3]; simp only [List.length_cons]; omega)
  have HOL := Lib.hid (show y0.zs.length ≤ 1000000 by
    have h3 : y0.zs = (runF (chc l) (chE l pen) T l.length i (k - i - 1)).2 := congrArg (fun u => u.2.2) HK0'.out
    have h4 := runF_len (c := chc l) (E := chE l pen) htl (k - i - 1) (by omega)
    rw [h3]; omega)
  clear htl
  have hcm := fun X (hX : Below wd.heap.size wd X) => rnatCmp_any y'.A1 y0.A1 y'.c1 y0.c1 y'.l1 y0.l1 _ _ X (HTY.out.2.1.1.on hX) (HR0.out.1.1.on hX) (HLN.out _ _ _ _ _ HTY.out.2.1.1 HYS.out) (HLN.out _ _ _ _ _ HR0.out.1.1 HOS.out)
  obtain ⟨cv, hcv⟩ : ∃ z, z = cmpN y'.x y0.x := ⟨_, rfl⟩
  rw [← hcv] at hcm
  have HCM := Lib.hid (show ∀ X, Below wd.heap.size wd X → Calls Tryz.prog 50 #[.slice y'.A1 y'.l1.length y'.c1, .slice y0.A1 y0.l1.length y0.c1] X fun e w' => e = .returned (.int .i64 cv) ∧ Below X.heap.size X w' from fun X hX => (hcm X hX).mono fun e w' ⟨h1, q, h2⟩ => ⟨h1, by rw [h2]; exact below_drewN (Below.refl _ _) q⟩)
  have HCV := Lib.hid hcv
  clear hty hyk hbd hk0 hk0' hr0 hc0 hK1 hK2 hnx hcv hcm
  go_wp2_with fail
  {
 refine wp_region_noPanic ?_
 refine wp_region_held_drew (S := (fun X => Below wd.heap.size wd X ∧ X.cell? ⟨bd, 0, none⟩ = some (.slice y'.A1 y'.l1.length y'.c1) ∧ X.cell? ⟨bd, 1, none⟩ = some (.int .i64 (y'.p : Int)) ∧ X.cell? ⟨bd, 2, none⟩ = some (.slice y'.A2 y'.zs.length y'.c2) ∧ X.cell? ⟨g, i * 3, none⟩ = some (.slice y0.A1 y0.l1.length y0.c1) ∧ X.cell? ⟨g, i * 3 + 1, none⟩ = some (.int .i64 (y0.p : Int)) ∧ X.cell? ⟨g, i * 3 + 2, none⟩ = some (.slice y0.A2 y0.zs.length y0.c2))) (by kernel_rfl) (HKS21.out _ (Below.refl _ wd).drew) (fun HS0 => ?_)
 have hbx0 : Below wd.heap.size wd wd.drew := (Below.refl _ _).drew
 obtain ⟨Xx0, hXx0⟩ : ∃ X, X = wd.drew := ⟨_, rfl⟩
 rw [← hXx0] at hbx0 HS0 ⊢
 have HBx0 := Lib.hid hbx0
 clear hbx0 hXx0
 refine wpAnyH_take (i := 0) (v := ?_) rfl (by kernel_rfl) (by kernel_rfl) (by kernel_rfl) (fun _ _ _ h => h) (Or.inl ⟨by kernel_rfl, ?_⟩) HS0 ?_
 rotate_left
 · intro W hW; (try dsimp only at hW); go_simp; try (with_reducible rfl)
 refine wpAnyH_take (i := 1) (v := ?_) rfl (by kernel_rfl) (by kernel_rfl) (by kernel_rfl) (fun _ _ _ h => h) (Or.inl ⟨by kernel_rfl, ?_⟩) HS0 ?_
 rotate_left
 · intro W hW; (try dsimp only at hW); go_simp; try (with_reducible rfl)
 refine wpAnyH_take (i := 2) (v := ?_) rfl (by kernel_rfl) (by kernel_rfl) (by kernel_rfl) (fun _ _ _ h => h) (Or.inl ⟨by kernel_rfl, ?_⟩) HS0 ?_
 rotate_left
 · intro W hW; (try dsimp only at hW); go_simp; try (with_reducible rfl)
 refine wpAnyH_take (i := 3) (v := ?_) rfl (by kernel_rfl) (by kernel_rfl) (by kernel_rfl) (fun _ _ _ h => h) (Or.inl ⟨by kernel_rfl, ?_⟩) HS0 ?_
 rotate_left
 · intro W hW; (try dsimp only at hW); go_simp; try (with_reducible rfl)
 refine wpAnyH_take (i := 4) (v := ?_) rfl (by kernel_rfl) (by kernel_rfl) (by kernel_rfl) (fun _ _ _ h => h) (Or.inl ⟨by kernel_rfl, ?_⟩) HS0 ?_
 rotate_left
 · intro W hW; (try dsimp only at hW); go_simp; try (with_reducible rfl)
 refine wpAnyH_take (i := 5) (v := ?_) rfl (by kernel_rfl) (by kernel_rfl) (by kernel_rfl) (fun _ _ _ h => h) (Or.inl ⟨by kernel_rfl, ?_⟩) HS0 ?_
 rotate_left
 · intro W hW; (try dsimp only at hW); go_simp; try (with_reducible rfl)
 refine wpAnyH_take (i := 6) (v := ?_) rfl (by kernel_rfl) (by kernel_rfl) (by kernel_rfl) (fun _ _ _ h => h) (Or.inl ⟨by kernel_rfl, ?_⟩) HS0 ?_
 rotate_left
 · intro W hW; (try dsimp only at hW); go_simp; try (with_reducible rfl)
 clear HS0
 refine run_one (i := 7) (by kernel_rfl) rfl rfl ?_
 intro K hK
 go_simp
 (with_reducible refine (HCM.out Xx0 (HBx0.out)).mono ?_)
 rintro e Xx1 ⟨rfl, hbx1⟩
 have HBx1 := Lib.hid (below_next (HBx0.out) hbx1)
 refine hK.out _ _ (HKS21.out _ HBx1.out) ?_
 clear hK K
 intro _
 have HS0 := HKS21.out _ (HBx1.out)
 refine wpAnyH_take (i := 8) (v := ?_) rfl (by kernel_rfl) (by kernel_rfl) (by kernel_rfl) (fun _ _ _ h => h) (Or.inl ⟨by kernel_rfl, ?_⟩) HS0 ?_
 rotate_left
 · intro W hW; (try dsimp only at hW); go_simp; try (with_reducible rfl)
 clear HS0
 refine wpAnyH_done (by kernel_rfl) ?_ _
 refine NoPanic.normal ?_
 (try go_simp)
 go_wp2_with fail
 obtain ⟨we, rfl⟩ : ∃ W : World, W = Xx1 := ⟨_, rfl⟩
 have HBE := Lib.hid (show Below wd.heap.size wd we from HBx1.out)
 have HKS22 := Lib.hid (fun X (hX : Below we.heap.size we X) => HKS21.out X (below_next HBE.out hX))
 rcases Nat.lt_trichotomy y'.x y0.x with hx | hx | hx
 · have hbt := bet_lt HY1.out HY2.out hx
   obtain rfl : cv = -1 := HCV.out.trans (cmpN_lt hx).symm
   clear hx
   skip
   {
  refine wp_region_noPanic ?_
  refine wp_region_held_drew (S := (fun X => Below wd.heap.size wd X ∧ X.cell? ⟨bd, 0, none⟩ = some (.slice y'.A1 y'.l1.length y'.c1) ∧ X.cell? ⟨bd, 1, none⟩ = some (.int .i64 (y'.p : Int)) ∧ X.cell? ⟨bd, 2, none⟩ = some (.slice y'.A2 y'.zs.length y'.c2) ∧ X.cell? ⟨g, i * 3, none⟩ = some (.slice y0.A1 y0.l1.length y0.c1) ∧ X.cell? ⟨g, i * 3 + 1, none⟩ = some (.int .i64 (y0.p : Int)) ∧ X.cell? ⟨g, i * 3 + 2, none⟩ = some (.slice y0.A2 y0.zs.length y0.c2))) (by kernel_rfl) (HKS22.out _ (Below.refl _ we).drew) (fun HS0 => ?_)
  have hbx0 : Below we.heap.size we we.drew := (Below.refl _ _).drew
  obtain ⟨Xx0, hXx0⟩ : ∃ X, X = we.drew := ⟨_, rfl⟩
  rw [← hXx0] at hbx0 HS0 ⊢
  have HBx0 := Lib.hid hbx0
  clear hbx0 hXx0
  refine wpAnyH_take (i := 0) (v := ?_) rfl (by kernel_rfl) (by kernel_rfl) (by kernel_rfl) (fun _ _ _ h => h) (Or.inl ⟨by kernel_rfl, ?_⟩) HS0 ?_
  rotate_left
  · intro W hW; (try dsimp only at hW); go_simp; try (with_reducible rfl)
  refine wpAnyH_take (i := 1) (v := ?_) rfl (by kernel_rfl) (by kernel_rfl) (by kernel_rfl) (fun _ _ _ h => h) (Or.inl ⟨by kernel_rfl, ?_⟩) HS0 ?_
  rotate_left
  · intro W hW; (try dsimp only at hW); go_simp; try (with_reducible rfl)
  refine wpAnyH_take (i := 2) (v := ?_) rfl (by kernel_rfl) (by kernel_rfl) (by kernel_rfl) (fun _ _ _ h => h) (Or.inl ⟨by kernel_rfl, ?_⟩) HS0 ?_
  rotate_left
  · intro W hW; (try dsimp only at hW); go_simp; try (with_reducible rfl)
  clear HS0
  have HS0 := HKS22.out _ (HBx0.out)
  refine wpAnyH_take (i := 3) (v := undef) rfl (by kernel_rfl) (by kernel_rfl) (by kernel_rfl) (fun _ _ _ h => h) (Or.inr ⟨by kernel_rfl, rfl⟩) HS0 ?_
  clear HS0
  have HS0 := HKS22.out _ (HBx0.out)
  refine wpAnyH_take (i := 4) (v := undef) rfl (by kernel_rfl) (by kernel_rfl) (by kernel_rfl) (fun _ _ _ h => h) (Or.inr ⟨by kernel_rfl, rfl⟩) HS0 ?_
  clear HS0
  have HS0 := HKS22.out _ (HBx0.out)
  refine wpAnyH_take (i := 5) (v := undef) rfl (by kernel_rfl) (by kernel_rfl) (by kernel_rfl) (fun _ _ _ h => h) (Or.inr ⟨by kernel_rfl, rfl⟩) HS0 ?_
  clear HS0
  have HS0 := HKS22.out _ (HBx0.out)
  refine wpAnyH_take (i := 6) (v := undef) rfl (by kernel_rfl) (by kernel_rfl) (by kernel_rfl) (fun _ _ _ h => h) (Or.inr ⟨by kernel_rfl, rfl⟩) HS0 ?_
  clear HS0
  have HS0 := HKS22.out _ (HBx0.out)
  refine wpAnyH_take (i := 7) (v := undef) rfl (by kernel_rfl) (by kernel_rfl) (by kernel_rfl) (fun _ _ _ h => h) (Or.inr ⟨by kernel_rfl, rfl⟩) HS0 ?_
  clear HS0
  have HS0 := HKS22.out _ (HBx0.out)
  refine wpAnyH_take (i := 8) (v := undef) rfl (by kernel_rfl) (by kernel_rfl) (by kernel_rfl) (fun _ _ _ h => h) (Or.inr ⟨by kernel_rfl, rfl⟩) HS0 ?_
  clear HS0
  have HS0 := HKS22.out _ (HBx0.out)
  refine wpAnyH_take (i := 9) (v := undef) rfl (by kernel_rfl) (by kernel_rfl) (by kernel_rfl) (fun _ _ _ h => h) (Or.inr ⟨by kernel_rfl, rfl⟩) HS0 ?_
  clear HS0
  have HS0 := HKS22.out _ (HBx0.out)
  refine wpAnyH_take (i := 10) (v := undef) rfl (by kernel_rfl) (by kernel_rfl) (by kernel_rfl) (fun _ _ _ h => h) (Or.inr ⟨by kernel_rfl, rfl⟩) HS0 ?_
  clear HS0
  have HS0 := HKS22.out _ (HBx0.out)
  refine wpAnyH_take (i := 11) (v := undef) rfl (by kernel_rfl) (by kernel_rfl) (by kernel_rfl) (fun _ _ _ h => h) (Or.inr ⟨by kernel_rfl, rfl⟩) HS0 ?_
  clear HS0
  have HS0 := HKS22.out _ (HBx0.out)
  refine wpAnyH_take (i := 12) (v := undef) rfl (by kernel_rfl) (by kernel_rfl) (by kernel_rfl) (fun _ _ _ h => h) (Or.inr ⟨by kernel_rfl, rfl⟩) HS0 ?_
  clear HS0
  have HS0 := HKS22.out _ (HBx0.out)
  refine wpAnyH_take (i := 13) (v := undef) rfl (by kernel_rfl) (by kernel_rfl) (by kernel_rfl) (fun _ _ _ h => h) (Or.inr ⟨by kernel_rfl, rfl⟩) HS0 ?_
  clear HS0
  have HS0 := HKS22.out _ (HBx0.out)
  refine wpAnyH_take (i := 14) (v := undef) rfl (by kernel_rfl) (by kernel_rfl) (by kernel_rfl) (fun _ _ _ h => h) (Or.inr ⟨by kernel_rfl, rfl⟩) HS0 ?_
  clear HS0
  have HS0 := HKS22.out _ (HBx0.out)
  refine wpAnyH_take (i := 15) (v := undef) rfl (by kernel_rfl) (by kernel_rfl) (by kernel_rfl) (fun _ _ _ h => h) (Or.inr ⟨by kernel_rfl, rfl⟩) HS0 ?_
  clear HS0
  have HS0 := HKS22.out _ (HBx0.out)
  refine wpAnyH_take (i := 16) (v := undef) rfl (by kernel_rfl) (by kernel_rfl) (by kernel_rfl) (fun _ _ _ h => h) (Or.inr ⟨by kernel_rfl, rfl⟩) HS0 ?_
  clear HS0
  have HS0 := HKS22.out _ (HBx0.out)
  refine wpAnyH_take (i := 17) (v := undef) rfl (by kernel_rfl) (by kernel_rfl) (by kernel_rfl) (fun _ _ _ h => h) (Or.inr ⟨by kernel_rfl, rfl⟩) HS0 ?_
  clear HS0
  have HS0 := HKS22.out _ (HBx0.out)
  refine wpAnyH_take (i := 18) (v := undef) rfl (by kernel_rfl) (by kernel_rfl) (by kernel_rfl) (fun _ _ _ h => h) (Or.inr ⟨by kernel_rfl, rfl⟩) HS0 ?_
  clear HS0
  have HS0 := HKS22.out _ (HBx0.out)
  refine wpAnyH_take (i := 19) (v := undef) rfl (by kernel_rfl) (by kernel_rfl) (by kernel_rfl) (fun _ _ _ h => h) (Or.inr ⟨by kernel_rfl, rfl⟩) HS0 ?_
  clear HS0
  have HS0 := HKS22.out _ (HBx0.out)
  refine wpAnyH_take (i := 20) (v := undef) rfl (by kernel_rfl) (by kernel_rfl) (by kernel_rfl) (fun _ _ _ h => h) (Or.inr ⟨by kernel_rfl, rfl⟩) HS0 ?_
  clear HS0
  have HS0 := HKS22.out _ (HBx0.out)
  refine wpAnyH_take (i := 21) (v := undef) rfl (by kernel_rfl) (by kernel_rfl) (by kernel_rfl) (fun _ _ _ h => h) (Or.inr ⟨by kernel_rfl, rfl⟩) HS0 ?_
  clear HS0
  have HS0 := HKS22.out _ (HBx0.out)
  refine wpAnyH_take (i := 22) (v := undef) rfl (by kernel_rfl) (by kernel_rfl) (by kernel_rfl) (fun _ _ _ h => h) (Or.inr ⟨by kernel_rfl, rfl⟩) HS0 ?_
  clear HS0
  have HS0 := HKS22.out _ (HBx0.out)
  refine wpAnyH_take (i := 23) (v := undef) rfl (by kernel_rfl) (by kernel_rfl) (by kernel_rfl) (fun _ _ _ h => h) (Or.inr ⟨by kernel_rfl, rfl⟩) HS0 ?_
  clear HS0
  have HS0 := HKS22.out _ (HBx0.out)
  refine wpAnyH_take (i := 24) (v := undef) rfl (by kernel_rfl) (by kernel_rfl) (by kernel_rfl) (fun _ _ _ h => h) (Or.inr ⟨by kernel_rfl, rfl⟩) HS0 ?_
  clear HS0
  have HS0 := HKS22.out _ (HBx0.out)
  refine wpAnyH_take (i := 25) (v := undef) rfl (by kernel_rfl) (by kernel_rfl) (by kernel_rfl) (fun _ _ _ h => h) (Or.inr ⟨by kernel_rfl, rfl⟩) HS0 ?_
  clear HS0
  have HS0 := HKS22.out _ (HBx0.out)
  refine wpAnyH_take (i := 26) (v := undef) rfl (by kernel_rfl) (by kernel_rfl) (by kernel_rfl) (fun _ _ _ h => h) (Or.inr ⟨by kernel_rfl, rfl⟩) HS0 ?_
  clear HS0
  have HS0 := HKS22.out _ (HBx0.out)
  refine wpAnyH_take (i := 27) (v := undef) rfl (by kernel_rfl) (by kernel_rfl) (by kernel_rfl) (fun _ _ _ h => h) (Or.inr ⟨by kernel_rfl, rfl⟩) HS0 ?_
  clear HS0
  have HS0 := HKS22.out _ (HBx0.out)
  refine wpAnyH_take (i := 28) (v := undef) rfl (by kernel_rfl) (by kernel_rfl) (by kernel_rfl) (fun _ _ _ h => h) (Or.inr ⟨by kernel_rfl, rfl⟩) HS0 ?_
  clear HS0
  have HS0 := HKS22.out _ (HBx0.out)
  refine wpAnyH_take (i := 29) (v := undef) rfl (by kernel_rfl) (by kernel_rfl) (by kernel_rfl) (fun _ _ _ h => h) (Or.inr ⟨by kernel_rfl, rfl⟩) HS0 ?_
  clear HS0
  have HS0 := HKS22.out _ (HBx0.out)
  refine wpAnyH_take (i := 30) (v := undef) rfl (by kernel_rfl) (by kernel_rfl) (by kernel_rfl) (fun _ _ _ h => h) (Or.inr ⟨by kernel_rfl, rfl⟩) HS0 ?_
  clear HS0
  have HS0 := HKS22.out _ (HBx0.out)
  refine wpAnyH_take (i := 31) (v := undef) rfl (by kernel_rfl) (by kernel_rfl) (by kernel_rfl) (fun _ _ _ h => h) (Or.inr ⟨by kernel_rfl, rfl⟩) HS0 ?_
  clear HS0
  have HS0 := HKS22.out _ (HBx0.out)
  refine wpAnyH_take (i := 32) (v := undef) rfl (by kernel_rfl) (by kernel_rfl) (by kernel_rfl) (fun _ _ _ h => h) (Or.inr ⟨by kernel_rfl, rfl⟩) HS0 ?_
  clear HS0
  have HS0 := HKS22.out _ (HBx0.out)
  refine wpAnyH_take (i := 33) (v := undef) rfl (by kernel_rfl) (by kernel_rfl) (by kernel_rfl) (fun _ _ _ h => h) (Or.inr ⟨by kernel_rfl, rfl⟩) HS0 ?_
  clear HS0
  have HS0 := HKS22.out _ (HBx0.out)
  refine wpAnyH_take (i := 34) (v := undef) rfl (by kernel_rfl) (by kernel_rfl) (by kernel_rfl) (fun _ _ _ h => h) (Or.inr ⟨by kernel_rfl, rfl⟩) HS0 ?_
  clear HS0
  have HS0 := HKS22.out _ (HBx0.out)
  refine wpAnyH_take (i := 35) (v := ?_) rfl (by kernel_rfl) (by kernel_rfl) (by kernel_rfl) (fun _ _ _ h => h) (Or.inl ⟨by kernel_rfl, ?_⟩) HS0 ?_
  rotate_left
  · intro W hW; (try dsimp only at hW); go_simp; try (with_reducible rfl)
  clear HS0
  refine wpAnyH_done (by kernel_rfl) ?_ _
  refine NoPanic.normal ?_
  (try go_simp)
  obtain ⟨-, t0, t1, t2, k0, k1, k2⟩ := HKS21.out _ (below_next HBE.out (HBx0.out))
  have hty := HTY.out.on (below_next HBE.out (HBx0.out))
  have hrk := HRK.out.on (below_next HBD.out (below_next HBE.out (HBx0.out)))
  have z0 := hrk.frozen (i * 3)
  have z1 := hrk.frozen (i * 3 + 1)
  have z2 := hrk.frozen (i * 3 + 2)
  obtain ⟨W9, hW9⟩ : ∃ W, W = ((Xx0.setCell ⟨g, i * 3, none⟩ (.slice y'.A1 y'.l1.length y'.c1)).setCell ⟨g, i * 3 + 1, none⟩ (.int .i64 (y'.p : Int))).setCell ⟨g, i * 3 + 2, none⟩ (.slice y'.A2 y'.zs.length y'.c2) := ⟨_, rfl⟩
  have HR9 := Lib.hid (show RT W9 g (l.length + 1) (fun q => if q = i then f3 (runF (chc l) (chE l pen) T l.length i (k + 1 - i - 1)) else if i + 1 ≤ q ∧ q < l.length then f3 (T q) else (0, 0, [])) by
    rw [hW9]
    refine (hrk.set (k := i) (by omega) hty.2).congr (fun q _ => ?_)
    by_cases e : q = i
    · simp only [if_pos e]; exact (HTAK.out hbt).symm
    · simp only [if_neg e])
  have HB9 := Lib.hid (show Below w4.heap.size w4 W9 by rw [hW9]; exact (((below_next HDO.out (below_next HBE.out (HBx0.out))).setCell (p := ⟨g, i * 3, none⟩) HG.out _).setCell (p := ⟨g, i * 3 + 1, none⟩) HG.out _).setCell (p := ⟨g, i * 3 + 2, none⟩) HG.out _)
  clear hty hrk
  go_wp2_with fail
  rw [← hW9]
  clear hW9 k0 k1 k2 z0 z1 z2 t0 t1 t2
  first
    | exact HQ.out _ _ _ _ _ _ _ _ _ _ _ _ _ _ _ _ _ _ _ _ _ _ _ _ _ _ _ _ _ _ _ _ _ _ _ _ _ _ _ _ _ _ _ _ _ _ _ _ _ _ HR9.out (HB9.out)
    | (go_wp2_with fail; exact HQ.out _ _ _ _ _ _ _ _ _ _ _ _ _ _ _ _ _ _ _ _ _ _ _ _ _ _ _ _ _ _ _ _ _ _ _ _ _ _ _ _ _ _ _ _ _ _ _ _ _ _ HR9.out (HB9.out))
   }
 · obtain rfl : cv = 0 := HCV.out.trans (cmpN_eq hx).symm
   rcases Nat.lt_trichotomy y'.p y0.p with hp5 | hp5 | hp5
   · have hbt := bet_less HY1.out HY2.out hx hp5
     have hp6 : (y'.p : Int) < (y0.p : Int) := by omega
     clear hx
     skip
     {
    refine wp_region_noPanic ?_
    refine wp_region_held_drew (S := (fun X => Below wd.heap.size wd X ∧ X.cell? ⟨bd, 0, none⟩ = some (.slice y'.A1 y'.l1.length y'.c1) ∧ X.cell? ⟨bd, 1, none⟩ = some (.int .i64 (y'.p : Int)) ∧ X.cell? ⟨bd, 2, none⟩ = some (.slice y'.A2 y'.zs.length y'.c2) ∧ X.cell? ⟨g, i * 3, none⟩ = some (.slice y0.A1 y0.l1.length y0.c1) ∧ X.cell? ⟨g, i * 3 + 1, none⟩ = some (.int .i64 (y0.p : Int)) ∧ X.cell? ⟨g, i * 3 + 2, none⟩ = some (.slice y0.A2 y0.zs.length y0.c2))) (by kernel_rfl) (HKS22.out _ (Below.refl _ we).drew) (fun HS0 => ?_)
    have hbx0 : Below we.heap.size we we.drew := (Below.refl _ _).drew
    obtain ⟨Xx0, hXx0⟩ : ∃ X, X = we.drew := ⟨_, rfl⟩
    rw [← hXx0] at hbx0 HS0 ⊢
    have HBx0 := Lib.hid hbx0
    clear hbx0 hXx0
    refine wpAnyH_take (i := 0) (v := ?_) rfl (by kernel_rfl) (by kernel_rfl) (by kernel_rfl) (fun _ _ _ h => h) (Or.inl ⟨by kernel_rfl, ?_⟩) HS0 ?_
    rotate_left
    · intro W hW; (try dsimp only at hW); go_simp; try (with_reducible rfl)
    refine wpAnyH_take (i := 1) (v := ?_) rfl (by kernel_rfl) (by kernel_rfl) (by kernel_rfl) (fun _ _ _ h => h) (Or.inl ⟨by kernel_rfl, ?_⟩) HS0 ?_
    rotate_left
    · intro W hW; (try dsimp only at hW); go_simp; try (with_reducible rfl)
    refine wpAnyH_take (i := 2) (v := ?_) rfl (by kernel_rfl) (by kernel_rfl) (by kernel_rfl) (fun _ _ _ h => h) (Or.inl ⟨by kernel_rfl, ?_⟩) HS0 ?_
    rotate_left
    · intro W hW; (try dsimp only at hW); go_simp; try (with_reducible rfl)
    refine wpAnyH_take (i := 3) (v := ?_) rfl (by kernel_rfl) (by kernel_rfl) (by kernel_rfl) (fun _ _ _ h => h) (Or.inl ⟨by kernel_rfl, ?_⟩) HS0 ?_
    rotate_left
    · intro W hW; (try dsimp only at hW); go_simp; try (with_reducible rfl)
    refine wpAnyH_take (i := 4) (v := ?_) rfl (by kernel_rfl) (by kernel_rfl) (by kernel_rfl) (fun _ _ _ h => h) (Or.inl ⟨by kernel_rfl, ?_⟩) HS0 ?_
    rotate_left
    · intro W hW; (try dsimp only at hW); go_simp; try (with_reducible rfl)
    refine wpAnyH_take (i := 5) (v := ?_) rfl (by kernel_rfl) (by kernel_rfl) (by kernel_rfl) (fun _ _ _ h => h) (Or.inl ⟨by kernel_rfl, ?_⟩) HS0 ?_
    rotate_left
    · intro W hW; (try dsimp only at hW); go_simp; try (with_reducible rfl)
    refine wpAnyH_take (i := 6) (v := ?_) rfl (by kernel_rfl) (by kernel_rfl) (by kernel_rfl) (fun _ _ _ h => h) (Or.inl ⟨by kernel_rfl, ?_⟩) HS0 ?_
    rotate_left
    · intro W hW; (try dsimp only at hW); go_simp; try (with_reducible rfl)
    refine wpAnyH_take (i := 7) (v := ?_) rfl (by kernel_rfl) (by kernel_rfl) (by kernel_rfl) (fun _ _ _ h => h) (Or.inl ⟨by kernel_rfl, ?_⟩) HS0 ?_
    rotate_left
    · intro W hW; (try dsimp only at hW); go_simp; try (with_reducible rfl)
    refine wpAnyH_take (i := 8) (v := ?_) rfl (by kernel_rfl) (by kernel_rfl) (by kernel_rfl) (fun _ _ _ h => h) (Or.inl ⟨by kernel_rfl, ?_⟩) HS0 ?_
    rotate_left
    · intro W hW; (try dsimp only at hW); go_simp; try (with_reducible rfl)
    refine wpAnyH_take (i := 9) (v := ?_) rfl (by kernel_rfl) (by kernel_rfl) (by kernel_rfl) (fun _ _ _ h => h) (Or.inl ⟨by kernel_rfl, ?_⟩) HS0 ?_
    rotate_left
    · intro W hW; (try dsimp only at hW); go_simp; try (with_reducible rfl)
    refine wpAnyH_take (i := 10) (v := ?_) rfl (by kernel_rfl) (by kernel_rfl) (by kernel_rfl) (fun _ _ _ h => h) (Or.inl ⟨by kernel_rfl, ?_⟩) HS0 ?_
    rotate_left
    · intro W hW; (try dsimp only at hW); go_simp; try (with_reducible rfl)
    refine wpAnyH_take (i := 11) (v := ?_) rfl (by kernel_rfl) (by kernel_rfl) (by kernel_rfl) (fun _ _ _ h => h) (Or.inl ⟨by kernel_rfl, ?_⟩) HS0 ?_
    rotate_left
    · intro W hW; (try dsimp only at hW); go_simp; try (with_reducible rfl)
    refine wpAnyH_take (i := 12) (v := ?_) rfl (by kernel_rfl) (by kernel_rfl) (by kernel_rfl) (fun _ _ _ h => h) (Or.inl ⟨by kernel_rfl, ?_⟩) HS0 ?_
    rotate_left
    · intro W hW; (try dsimp only at hW); go_simp; try (with_reducible rfl)
    refine wpAnyH_take (i := 13) (v := ?_) rfl (by kernel_rfl) (by kernel_rfl) (by kernel_rfl) (fun _ _ _ h => h) (Or.inl ⟨by kernel_rfl, ?_⟩) HS0 ?_
    rotate_left
    · intro W hW; (try dsimp only at hW); go_simp; try (with_reducible rfl)
    refine wpAnyH_take (i := 14) (v := ?_) rfl (by kernel_rfl) (by kernel_rfl) (by kernel_rfl) (fun _ _ _ h => h) (Or.inl ⟨by kernel_rfl, ?_⟩) HS0 ?_
    rotate_left
    · intro W hW; (try dsimp only at hW); go_simp; try (with_reducible rfl)
    clear HS0
    have HS0 := HKS22.out _ (HBx0.out)
    refine wpAnyH_take (i := 15) (v := undef) rfl (by kernel_rfl) (by kernel_rfl) (by kernel_rfl) (fun _ _ _ h => h) (Or.inr ⟨by kernel_rfl, rfl⟩) HS0 ?_
    clear HS0
    have HS0 := HKS22.out _ (HBx0.out)
    refine wpAnyH_take (i := 16) (v := undef) rfl (by kernel_rfl) (by kernel_rfl) (by kernel_rfl) (fun _ _ _ h => h) (Or.inr ⟨by kernel_rfl, rfl⟩) HS0 ?_
    clear HS0
    have HS0 := HKS22.out _ (HBx0.out)
    refine wpAnyH_take (i := 17) (v := undef) rfl (by kernel_rfl) (by kernel_rfl) (by kernel_rfl) (fun _ _ _ h => h) (Or.inr ⟨by kernel_rfl, rfl⟩) HS0 ?_
    clear HS0
    have HS0 := HKS22.out _ (HBx0.out)
    refine wpAnyH_take (i := 18) (v := undef) rfl (by kernel_rfl) (by kernel_rfl) (by kernel_rfl) (fun _ _ _ h => h) (Or.inr ⟨by kernel_rfl, rfl⟩) HS0 ?_
    clear HS0
    have HS0 := HKS22.out _ (HBx0.out)
    refine wpAnyH_take (i := 19) (v := undef) rfl (by kernel_rfl) (by kernel_rfl) (by kernel_rfl) (fun _ _ _ h => h) (Or.inr ⟨by kernel_rfl, rfl⟩) HS0 ?_
    clear HS0
    have HS0 := HKS22.out _ (HBx0.out)
    refine wpAnyH_take (i := 20) (v := undef) rfl (by kernel_rfl) (by kernel_rfl) (by kernel_rfl) (fun _ _ _ h => h) (Or.inr ⟨by kernel_rfl, rfl⟩) HS0 ?_
    clear HS0
    have HS0 := HKS22.out _ (HBx0.out)
    refine wpAnyH_take (i := 21) (v := undef) rfl (by kernel_rfl) (by kernel_rfl) (by kernel_rfl) (fun _ _ _ h => h) (Or.inr ⟨by kernel_rfl, rfl⟩) HS0 ?_
    clear HS0
    have HS0 := HKS22.out _ (HBx0.out)
    refine wpAnyH_take (i := 22) (v := undef) rfl (by kernel_rfl) (by kernel_rfl) (by kernel_rfl) (fun _ _ _ h => h) (Or.inr ⟨by kernel_rfl, rfl⟩) HS0 ?_
    clear HS0
    have HS0 := HKS22.out _ (HBx0.out)
    refine wpAnyH_take (i := 23) (v := undef) rfl (by kernel_rfl) (by kernel_rfl) (by kernel_rfl) (fun _ _ _ h => h) (Or.inr ⟨by kernel_rfl, rfl⟩) HS0 ?_
    clear HS0
    have HS0 := HKS22.out _ (HBx0.out)
    refine wpAnyH_take (i := 24) (v := undef) rfl (by kernel_rfl) (by kernel_rfl) (by kernel_rfl) (fun _ _ _ h => h) (Or.inr ⟨by kernel_rfl, rfl⟩) HS0 ?_
    clear HS0
    have HS0 := HKS22.out _ (HBx0.out)
    refine wpAnyH_take (i := 25) (v := undef) rfl (by kernel_rfl) (by kernel_rfl) (by kernel_rfl) (fun _ _ _ h => h) (Or.inr ⟨by kernel_rfl, rfl⟩) HS0 ?_
    clear HS0
    have HS0 := HKS22.out _ (HBx0.out)
    refine wpAnyH_take (i := 26) (v := undef) rfl (by kernel_rfl) (by kernel_rfl) (by kernel_rfl) (fun _ _ _ h => h) (Or.inr ⟨by kernel_rfl, rfl⟩) HS0 ?_
    clear HS0
    have HS0 := HKS22.out _ (HBx0.out)
    refine wpAnyH_take (i := 27) (v := undef) rfl (by kernel_rfl) (by kernel_rfl) (by kernel_rfl) (fun _ _ _ h => h) (Or.inr ⟨by kernel_rfl, rfl⟩) HS0 ?_
    clear HS0
    have HS0 := HKS22.out _ (HBx0.out)
    refine wpAnyH_take (i := 28) (v := undef) rfl (by kernel_rfl) (by kernel_rfl) (by kernel_rfl) (fun _ _ _ h => h) (Or.inr ⟨by kernel_rfl, rfl⟩) HS0 ?_
    clear HS0
    have HS0 := HKS22.out _ (HBx0.out)
    refine wpAnyH_take (i := 29) (v := undef) rfl (by kernel_rfl) (by kernel_rfl) (by kernel_rfl) (fun _ _ _ h => h) (Or.inr ⟨by kernel_rfl, rfl⟩) HS0 ?_
    clear HS0
    have HS0 := HKS22.out _ (HBx0.out)
    refine wpAnyH_take (i := 30) (v := undef) rfl (by kernel_rfl) (by kernel_rfl) (by kernel_rfl) (fun _ _ _ h => h) (Or.inr ⟨by kernel_rfl, rfl⟩) HS0 ?_
    clear HS0
    have HS0 := HKS22.out _ (HBx0.out)
    refine wpAnyH_take (i := 31) (v := undef) rfl (by kernel_rfl) (by kernel_rfl) (by kernel_rfl) (fun _ _ _ h => h) (Or.inr ⟨by kernel_rfl, rfl⟩) HS0 ?_
    clear HS0
    have HS0 := HKS22.out _ (HBx0.out)
    refine wpAnyH_take (i := 32) (v := undef) rfl (by kernel_rfl) (by kernel_rfl) (by kernel_rfl) (fun _ _ _ h => h) (Or.inr ⟨by kernel_rfl, rfl⟩) HS0 ?_
    clear HS0
    have HS0 := HKS22.out _ (HBx0.out)
    refine wpAnyH_take (i := 33) (v := ?_) rfl (by kernel_rfl) (by kernel_rfl) (by kernel_rfl) (fun _ _ _ h => h) (Or.inl ⟨by kernel_rfl, ?_⟩) HS0 ?_
    rotate_left
    · intro W hW; (try dsimp only at hW); go_simp; try (with_reducible rfl)
    clear HS0
    have HS0 := HKS22.out _ (HBx0.out)
    refine wpAnyH_take (i := 34) (v := ?_) rfl (by kernel_rfl) (by kernel_rfl) (by kernel_rfl) (fun _ _ _ h => h) (Or.inl ⟨by kernel_rfl, ?_⟩) HS0 ?_
    rotate_left
    · intro W hW; (try dsimp only at hW); go_simp; try (with_reducible rfl)
    clear HS0
    have HS0 := HKS22.out _ (HBx0.out)
    refine wpAnyH_take (i := 35) (v := ?_) rfl (by kernel_rfl) (by kernel_rfl) (by kernel_rfl) (fun _ _ _ h => h) (Or.inl ⟨by kernel_rfl, ?_⟩) HS0 ?_
    rotate_left
    · intro W hW; (try dsimp only at hW); go_simp; try (with_reducible rfl)
    clear HS0
    refine wpAnyH_done (by kernel_rfl) ?_ _
    refine NoPanic.normal ?_
    (try go_simp)
    obtain ⟨-, t0, t1, t2, k0, k1, k2⟩ := HKS21.out _ (below_next HBE.out (HBx0.out))
    have hty := HTY.out.on (below_next HBE.out (HBx0.out))
    have hrk := HRK.out.on (below_next HBD.out (below_next HBE.out (HBx0.out)))
    have z0 := hrk.frozen (i * 3)
    have z1 := hrk.frozen (i * 3 + 1)
    have z2 := hrk.frozen (i * 3 + 2)
    obtain ⟨W9, hW9⟩ : ∃ W, W = ((Xx0.setCell ⟨g, i * 3, none⟩ (.slice y'.A1 y'.l1.length y'.c1)).setCell ⟨g, i * 3 + 1, none⟩ (.int .i64 (y'.p : Int))).setCell ⟨g, i * 3 + 2, none⟩ (.slice y'.A2 y'.zs.length y'.c2) := ⟨_, rfl⟩
    have HR9 := Lib.hid (show RT W9 g (l.length + 1) (fun q => if q = i then f3 (runF (chc l) (chE l pen) T l.length i (k + 1 - i - 1)) else if i + 1 ≤ q ∧ q < l.length then f3 (T q) else (0, 0, [])) by
      rw [hW9]
      refine (hrk.set (k := i) (by omega) hty.2).congr (fun q _ => ?_)
      by_cases e : q = i
      · simp only [if_pos e]; exact (HTAK.out hbt).symm
      · simp only [if_neg e])
    have HB9 := Lib.hid (show Below w4.heap.size w4 W9 by rw [hW9]; exact (((below_next HDO.out (below_next HBE.out (HBx0.out))).setCell (p := ⟨g, i * 3, none⟩) HG.out _).setCell (p := ⟨g, i * 3 + 1, none⟩) HG.out _).setCell (p := ⟨g, i * 3 + 2, none⟩) HG.out _)
    clear hty hrk
    go_wp2_with fail
    rw [← hW9]
    clear hW9 k0 k1 k2 z0 z1 z2 t0 t1 t2
    first
      | exact HQ.out _ _ _ _ _ _ _ _ _ _ _ _ _ _ _ _ _ _ _ _ _ _ _ _ _ _ _ _ _ _ _ _ _ _ _ _ _ _ _ _ _ _ _ _ _ _ _ _ _ _ HR9.out (HB9.out)
      | (go_wp2_with fail; exact HQ.out _ _ _ _ _ _ _ _ _ _ _ _ _ _ _ _ _ _ _ _ _ _ _ _ _ _ _ _ _ _ _ _ _ _ _ _ _ _ _ _ _ _ _ _ _ _ _ _ _ _ HR9.out (HB9.out))
     }
   · have hbs := bet_same HY1.out HY2.out hx hp5
     have hp6 : ¬ (y'.p : Int) < (y0.p : Int) := by omega
     have hp8 : ¬ y'.p < y0.p := by omega
     have hp7 : ((y'.p : Int) == (y0.p : Int)) = true := by rw [beq_iff_eq]; omega
     have hp9 : (y'.p == y0.p) = true := by rw [beq_iff_eq]; omega
     have HBF := Lib.hid (show ∀ X, Below we.heap.size we X → Calls Tryz.prog 51 #[.slice y'.A2 y'.zs.length y'.c2, .slice y0.A2 y0.zs.length y0.c2] X fun e w' => e = .returned (.bool (befL y'.zs y0.zs)) ∧ Below X.heap.size X w' from fun X hX => before_any y'.A2 y0.A2 y'.c2 y0.c2 y'.zs y0.zs X (HTY.out.2.2.1.on (below_next HBE.out hX)) (HR0.out.2.1.on (below_next HBE.out hX)) HYL.out HOL.out)
     clear hx hp5
     skip
     {
    refine wp_region_noPanic ?_
    refine wp_region_held_drew (S := (fun X => Below wd.heap.size wd X ∧ X.cell? ⟨bd, 0, none⟩ = some (.slice y'.A1 y'.l1.length y'.c1) ∧ X.cell? ⟨bd, 1, none⟩ = some (.int .i64 (y'.p : Int)) ∧ X.cell? ⟨bd, 2, none⟩ = some (.slice y'.A2 y'.zs.length y'.c2) ∧ X.cell? ⟨g, i * 3, none⟩ = some (.slice y0.A1 y0.l1.length y0.c1) ∧ X.cell? ⟨g, i * 3 + 1, none⟩ = some (.int .i64 (y0.p : Int)) ∧ X.cell? ⟨g, i * 3 + 2, none⟩ = some (.slice y0.A2 y0.zs.length y0.c2))) (by kernel_rfl) (HKS22.out _ (Below.refl _ we).drew) (fun HS0 => ?_)
    have hbx0 : Below we.heap.size we we.drew := (Below.refl _ _).drew
    obtain ⟨Xx0, hXx0⟩ : ∃ X, X = we.drew := ⟨_, rfl⟩
    rw [← hXx0] at hbx0 HS0 ⊢
    have HBx0 := Lib.hid hbx0
    clear hbx0 hXx0
    refine wpAnyH_take (i := 0) (v := ?_) rfl (by kernel_rfl) (by kernel_rfl) (by kernel_rfl) (fun _ _ _ h => h) (Or.inl ⟨by kernel_rfl, ?_⟩) HS0 ?_
    rotate_left
    · intro W hW; (try dsimp only at hW); go_simp; try (with_reducible rfl)
    refine wpAnyH_take (i := 1) (v := ?_) rfl (by kernel_rfl) (by kernel_rfl) (by kernel_rfl) (fun _ _ _ h => h) (Or.inl ⟨by kernel_rfl, ?_⟩) HS0 ?_
    rotate_left
    · intro W hW; (try dsimp only at hW); go_simp; try (with_reducible rfl)
    refine wpAnyH_take (i := 2) (v := ?_) rfl (by kernel_rfl) (by kernel_rfl) (by kernel_rfl) (fun _ _ _ h => h) (Or.inl ⟨by kernel_rfl, ?_⟩) HS0 ?_
    rotate_left
    · intro W hW; (try dsimp only at hW); go_simp; try (with_reducible rfl)
    refine wpAnyH_take (i := 3) (v := ?_) rfl (by kernel_rfl) (by kernel_rfl) (by kernel_rfl) (fun _ _ _ h => h) (Or.inl ⟨by kernel_rfl, ?_⟩) HS0 ?_
    rotate_left
    · intro W hW; (try dsimp only at hW); go_simp; try (with_reducible rfl)
    refine wpAnyH_take (i := 4) (v := ?_) rfl (by kernel_rfl) (by kernel_rfl) (by kernel_rfl) (fun _ _ _ h => h) (Or.inl ⟨by kernel_rfl, ?_⟩) HS0 ?_
    rotate_left
    · intro W hW; (try dsimp only at hW); go_simp; try (with_reducible rfl)
    refine wpAnyH_take (i := 5) (v := ?_) rfl (by kernel_rfl) (by kernel_rfl) (by kernel_rfl) (fun _ _ _ h => h) (Or.inl ⟨by kernel_rfl, ?_⟩) HS0 ?_
    rotate_left
    · intro W hW; (try dsimp only at hW); go_simp; try (with_reducible rfl)
    refine wpAnyH_take (i := 6) (v := ?_) rfl (by kernel_rfl) (by kernel_rfl) (by kernel_rfl) (fun _ _ _ h => h) (Or.inl ⟨by kernel_rfl, ?_⟩) HS0 ?_
    rotate_left
    · intro W hW; (try dsimp only at hW); go_simp; try (with_reducible rfl)
    refine wpAnyH_take (i := 7) (v := ?_) rfl (by kernel_rfl) (by kernel_rfl) (by kernel_rfl) (fun _ _ _ h => h) (Or.inl ⟨by kernel_rfl, ?_⟩) HS0 ?_
    rotate_left
    · intro W hW; (try dsimp only at hW); go_simp; try (with_reducible rfl)
    refine wpAnyH_take (i := 8) (v := ?_) rfl (by kernel_rfl) (by kernel_rfl) (by kernel_rfl) (fun _ _ _ h => h) (Or.inl ⟨by kernel_rfl, ?_⟩) HS0 ?_
    rotate_left
    · intro W hW; (try dsimp only at hW); go_simp; try (with_reducible rfl)
    refine wpAnyH_take (i := 9) (v := ?_) rfl (by kernel_rfl) (by kernel_rfl) (by kernel_rfl) (fun _ _ _ h => h) (Or.inl ⟨by kernel_rfl, ?_⟩) HS0 ?_
    rotate_left
    · intro W hW; (try dsimp only at hW); go_simp; try (with_reducible rfl)
    refine wpAnyH_take (i := 10) (v := ?_) rfl (by kernel_rfl) (by kernel_rfl) (by kernel_rfl) (fun _ _ _ h => h) (Or.inl ⟨by kernel_rfl, ?_⟩) HS0 ?_
    rotate_left
    · intro W hW; (try dsimp only at hW); go_simp; try (with_reducible rfl)
    refine wpAnyH_take (i := 11) (v := ?_) rfl (by kernel_rfl) (by kernel_rfl) (by kernel_rfl) (fun _ _ _ h => h) (Or.inl ⟨by kernel_rfl, ?_⟩) HS0 ?_
    rotate_left
    · intro W hW; (try dsimp only at hW); go_simp; try (with_reducible rfl)
    refine wpAnyH_take (i := 12) (v := ?_) rfl (by kernel_rfl) (by kernel_rfl) (by kernel_rfl) (fun _ _ _ h => h) (Or.inl ⟨by kernel_rfl, ?_⟩) HS0 ?_
    rotate_left
    · intro W hW; (try dsimp only at hW); go_simp; try (with_reducible rfl)
    refine wpAnyH_take (i := 13) (v := ?_) rfl (by kernel_rfl) (by kernel_rfl) (by kernel_rfl) (fun _ _ _ h => h) (Or.inl ⟨by kernel_rfl, ?_⟩) HS0 ?_
    rotate_left
    · intro W hW; (try dsimp only at hW); go_simp; try (with_reducible rfl)
    refine wpAnyH_take (i := 14) (v := ?_) rfl (by kernel_rfl) (by kernel_rfl) (by kernel_rfl) (fun _ _ _ h => h) (Or.inl ⟨by kernel_rfl, ?_⟩) HS0 ?_
    rotate_left
    · intro W hW; (try dsimp only at hW); go_simp; try (with_reducible rfl)
    refine wpAnyH_take (i := 15) (v := ?_) rfl (by kernel_rfl) (by kernel_rfl) (by kernel_rfl) (fun _ _ _ h => h) (Or.inl ⟨by kernel_rfl, ?_⟩) HS0 ?_
    rotate_left
    · intro W hW; (try dsimp only at hW); go_simp; try (with_reducible rfl)
    refine wpAnyH_take (i := 16) (v := ?_) rfl (by kernel_rfl) (by kernel_rfl) (by kernel_rfl) (fun _ _ _ h => h) (Or.inl ⟨by kernel_rfl, ?_⟩) HS0 ?_
    rotate_left
    · intro W hW; (try dsimp only at hW); go_simp; try (with_reducible rfl)
    refine wpAnyH_take (i := 17) (v := ?_) rfl (by kernel_rfl) (by kernel_rfl) (by kernel_rfl) (fun _ _ _ h => h) (Or.inl ⟨by kernel_rfl, ?_⟩) HS0 ?_
    rotate_left
    · intro W hW; (try dsimp only at hW); go_simp; try (with_reducible rfl)
    refine wpAnyH_take (i := 18) (v := ?_) rfl (by kernel_rfl) (by kernel_rfl) (by kernel_rfl) (fun _ _ _ h => h) (Or.inl ⟨by kernel_rfl, ?_⟩) HS0 ?_
    rotate_left
    · intro W hW; (try dsimp only at hW); go_simp; try (with_reducible rfl)
    refine wpAnyH_take (i := 19) (v := ?_) rfl (by kernel_rfl) (by kernel_rfl) (by kernel_rfl) (fun _ _ _ h => h) (Or.inl ⟨by kernel_rfl, ?_⟩) HS0 ?_
    rotate_left
    · intro W hW; (try dsimp only at hW); go_simp; try (with_reducible rfl)
    refine wpAnyH_take (i := 20) (v := ?_) rfl (by kernel_rfl) (by kernel_rfl) (by kernel_rfl) (fun _ _ _ h => h) (Or.inl ⟨by kernel_rfl, ?_⟩) HS0 ?_
    rotate_left
    · intro W hW; (try dsimp only at hW); go_simp; try (with_reducible rfl)
    refine wpAnyH_take (i := 21) (v := ?_) rfl (by kernel_rfl) (by kernel_rfl) (by kernel_rfl) (fun _ _ _ h => h) (Or.inl ⟨by kernel_rfl, ?_⟩) HS0 ?_
    rotate_left
    · intro W hW; (try dsimp only at hW); go_simp; try (with_reducible rfl)
    refine wpAnyH_take (i := 22) (v := ?_) rfl (by kernel_rfl) (by kernel_rfl) (by kernel_rfl) (fun _ _ _ h => h) (Or.inl ⟨by kernel_rfl, ?_⟩) HS0 ?_
    rotate_left
    · intro W hW; (try dsimp only at hW); go_simp; try (with_reducible rfl)
    refine wpAnyH_take (i := 23) (v := ?_) rfl (by kernel_rfl) (by kernel_rfl) (by kernel_rfl) (fun _ _ _ h => h) (Or.inl ⟨by kernel_rfl, ?_⟩) HS0 ?_
    rotate_left
    · intro W hW; (try dsimp only at hW); go_simp; try (with_reducible rfl)
    refine wpAnyH_take (i := 24) (v := ?_) rfl (by kernel_rfl) (by kernel_rfl) (by kernel_rfl) (fun _ _ _ h => h) (Or.inl ⟨by kernel_rfl, ?_⟩) HS0 ?_
    rotate_left
    · intro W hW; (try dsimp only at hW); go_simp; try (with_reducible rfl)
    refine wpAnyH_take (i := 25) (v := ?_) rfl (by kernel_rfl) (by kernel_rfl) (by kernel_rfl) (fun _ _ _ h => h) (Or.inl ⟨by kernel_rfl, ?_⟩) HS0 ?_
    rotate_left
    · intro W hW; (try dsimp only at hW); go_simp; try (with_reducible rfl)
    refine wpAnyH_take (i := 26) (v := ?_) rfl (by kernel_rfl) (by kernel_rfl) (by kernel_rfl) (fun _ _ _ h => h) (Or.inl ⟨by kernel_rfl, ?_⟩) HS0 ?_
    rotate_left
    · intro W hW; (try dsimp only at hW); go_simp; try (with_reducible rfl)
    refine wpAnyH_take (i := 27) (v := ?_) rfl (by kernel_rfl) (by kernel_rfl) (by kernel_rfl) (fun _ _ _ h => h) (Or.inl ⟨by kernel_rfl, ?_⟩) HS0 ?_
    rotate_left
    · intro W hW; (try dsimp only at hW); go_simp; try (with_reducible rfl)
    refine wpAnyH_take (i := 28) (v := ?_) rfl (by kernel_rfl) (by kernel_rfl) (by kernel_rfl) (fun _ _ _ h => h) (Or.inl ⟨by kernel_rfl, ?_⟩) HS0 ?_
    rotate_left
    · intro W hW; (try dsimp only at hW); go_simp; try (with_reducible rfl)
    refine wpAnyH_take (i := 29) (v := ?_) rfl (by kernel_rfl) (by kernel_rfl) (by kernel_rfl) (fun _ _ _ h => h) (Or.inl ⟨by kernel_rfl, ?_⟩) HS0 ?_
    rotate_left
    · intro W hW; (try dsimp only at hW); go_simp; try (with_reducible rfl)
    refine wpAnyH_take (i := 30) (v := ?_) rfl (by kernel_rfl) (by kernel_rfl) (by kernel_rfl) (fun _ _ _ h => h) (Or.inl ⟨by kernel_rfl, ?_⟩) HS0 ?_
    rotate_left
    · intro W hW; (try dsimp only at hW); go_simp; try (with_reducible rfl)
    clear HS0
    refine run_oneG (i := 31) (by kernel_rfl) rfl (by kernel_rfl) ?_
    intro K hK
    go_simp
    (with_reducible refine (HBF.out Xx0 (HBx0.out)).mono ?_)
    rintro e Xx1 ⟨rfl, hbx1⟩
    have HBx1 := Lib.hid (below_next (HBx0.out) hbx1)
    refine hK.out _ _ (HKS22.out _ HBx1.out) ?_
    clear hK K
    intro _
    have HS0 := HKS22.out _ (HBx1.out)
    refine wpAnyH_take (i := 32) (v := ?_) rfl (by kernel_rfl) (by kernel_rfl) (by kernel_rfl) (fun _ _ _ h => h) (Or.inl ⟨by kernel_rfl, ?_⟩) HS0 ?_
    rotate_left
    · intro W hW; (try dsimp only at hW); go_simp; try (with_reducible rfl)
    clear HS0
    have HS0 := HKS22.out _ (HBx1.out)
    refine wpAnyH_take (i := 33) (v := ?_) rfl (by kernel_rfl) (by kernel_rfl) (by kernel_rfl) (fun _ _ _ h => h) (Or.inl ⟨by kernel_rfl, ?_⟩) HS0 ?_
    rotate_left
    · intro W hW; (try dsimp only at hW); go_simp; try (with_reducible rfl)
    clear HS0
    have HS0 := HKS22.out _ (HBx1.out)
    refine wpAnyH_take (i := 34) (v := ?_) rfl (by kernel_rfl) (by kernel_rfl) (by kernel_rfl) (fun _ _ _ h => h) (Or.inl ⟨by kernel_rfl, ?_⟩) HS0 ?_
    rotate_left
    · intro W hW; (try dsimp only at hW); go_simp; try (with_reducible rfl)
    clear HS0
    have HS0 := HKS22.out _ (HBx1.out)
    refine wpAnyH_take (i := 35) (v := ?_) rfl (by kernel_rfl) (by kernel_rfl) (by kernel_rfl) (fun _ _ _ h => h) (Or.inl ⟨by kernel_rfl, ?_⟩) HS0 ?_
    rotate_left
    · intro W hW; (try dsimp only at hW); go_simp; try (with_reducible rfl)
    clear HS0
    refine wpAnyH_done (by kernel_rfl) ?_ _
    refine NoPanic.normal ?_
    (try go_simp)
    obtain ⟨bz, hbz⟩ : ∃ z, z = befL y'.zs y0.zs := ⟨_, rfl⟩
    rw [← hbz] at hbs ⊢
    clear hbz
    cases bz with
    | true =>
      have hbt := hbs
      clear hbs
      {
     obtain ⟨-, t0, t1, t2, k0, k1, k2⟩ := HKS21.out _ (below_next HBE.out (HBx1.out))
     have hty := HTY.out.on (below_next HBE.out (HBx1.out))
     have hrk := HRK.out.on (below_next HBD.out (below_next HBE.out (HBx1.out)))
     have z0 := hrk.frozen (i * 3)
     have z1 := hrk.frozen (i * 3 + 1)
     have z2 := hrk.frozen (i * 3 + 2)
     obtain ⟨W9, hW9⟩ : ∃ W, W = ((Xx1.setCell ⟨g, i * 3, none⟩ (.slice y'.A1 y'.l1.length y'.c1)).setCell ⟨g, i * 3 + 1, none⟩ (.int .i64 (y'.p : Int))).setCell ⟨g, i * 3 + 2, none⟩ (.slice y'.A2 y'.zs.length y'.c2) := ⟨_, rfl⟩
     have HR9 := Lib.hid (show RT W9 g (l.length + 1) (fun q => if q = i then f3 (runF (chc l) (chE l pen) T l.length i (k + 1 - i - 1)) else if i + 1 ≤ q ∧ q < l.length then f3 (T q) else (0, 0, [])) by
       rw [hW9]
       refine (hrk.set (k := i) (by omega) hty.2).congr (fun q _ => ?_)
       by_cases e : q = i
       · simp only [if_pos e]; exact (HTAK.out hbt).symm
       · simp only [if_neg e])
     have HB9 := Lib.hid (show Below w4.heap.size w4 W9 by rw [hW9]; exact (((below_next HDO.out (below_next HBE.out (HBx1.out))).setCell (p := ⟨g, i * 3, none⟩) HG.out _).setCell (p := ⟨g, i * 3 + 1, none⟩) HG.out _).setCell (p := ⟨g, i * 3 + 2, none⟩) HG.out _)
     clear hty hrk
     go_wp2_with fail
     rw [← hW9]
     clear hW9 k0 k1 k2 z0 z1 z2 t0 t1 t2
     first
       | exact HQ.out _ _ _ _ _ _ _ _ _ _ _ _ _ _ _ _ _ _ _ _ _ _ _ _ _ _ _ _ _ _ _ _ _ _ _ _ _ _ _ _ _ _ _ _ _ _ _ _ _ _ HR9.out (HB9.out)
       | (go_wp2_with fail; exact HQ.out _ _ _ _ _ _ _ _ _ _ _ _ _ _ _ _ _ _ _ _ _ _ _ _ _ _ _ _ _ _ _ _ _ _ _ _ _ _ _ _ _ _ _ _ _ _ _ _ _ _ HR9.out (HB9.out))
      }
    | false =>
      have hbt := hbs
      clear hbs
      {
     have HR9 := Lib.hid (show RT Xx1 g (l.length + 1) (fun q => if q = i then f3 (runF (chc l) (chE l pen) T l.length i (k + 1 - i - 1)) else if i + 1 ≤ q ∧ q < l.length then f3 (T q) else (0, 0, [])) by
       refine (HRK.out.on (below_next HBD.out (below_next HBE.out (HBx1.out)))).congr (fun q _ => ?_)
       by_cases e : q = i
       · simp only [if_pos e]; exact (HLEF.out hbt).symm
       · simp only [if_neg e])
     first
       | exact HQ.out _ _ _ _ _ _ _ _ _ _ _ _ _ _ _ _ _ _ _ _ _ _ _ _ _ _ _ _ _ _ _ _ _ _ _ _ _ _ _ _ _ _ _ _ _ _ _ _ _ _ HR9.out (below_next HDO.out (below_next HBE.out (HBx1.out)))
       | (go_wp2_with fail; exact HQ.out _ _ _ _ _ _ _ _ _ _ _ _ _ _ _ _ _ _ _ _ _ _ _ _ _ _ _ _ _ _ _ _ _ _ _ _ _ _ _ _ _ _ _ _ _ _ _ _ _ _ HR9.out (below_next HDO.out (below_next HBE.out (HBx1.out))))
      }
     }
   · have hbt := bet_more HY1.out HY2.out hx hp5
     have hp6 : ¬ (y'.p : Int) < (y0.p : Int) := by omega
     have hp8 : ¬ y'.p < y0.p := by omega
     have hp7 : ((y'.p : Int) == (y0.p : Int)) = false := by rw [beq_eq_false_iff_ne]; omega
     have hp9 : (y'.p == y0.p) = false := by rw [beq_eq_false_iff_ne]; omega
     clear hx hp5
     skip
     {
    refine wp_region_noPanic ?_
    refine wp_region_held_drew (S := (fun X => Below wd.heap.size wd X ∧ X.cell? ⟨bd, 0, none⟩ = some (.slice y'.A1 y'.l1.length y'.c1) ∧ X.cell? ⟨bd, 1, none⟩ = some (.int .i64 (y'.p : Int)) ∧ X.cell? ⟨bd, 2, none⟩ = some (.slice y'.A2 y'.zs.length y'.c2) ∧ X.cell? ⟨g, i * 3, none⟩ = some (.slice y0.A1 y0.l1.length y0.c1) ∧ X.cell? ⟨g, i * 3 + 1, none⟩ = some (.int .i64 (y0.p : Int)) ∧ X.cell? ⟨g, i * 3 + 2, none⟩ = some (.slice y0.A2 y0.zs.length y0.c2))) (by kernel_rfl) (HKS22.out _ (Below.refl _ we).drew) (fun HS0 => ?_)
    have hbx0 : Below we.heap.size we we.drew := (Below.refl _ _).drew
    obtain ⟨Xx0, hXx0⟩ : ∃ X, X = we.drew := ⟨_, rfl⟩
    rw [← hXx0] at hbx0 HS0 ⊢
    have HBx0 := Lib.hid hbx0
    clear hbx0 hXx0
    refine wpAnyH_take (i := 0) (v := ?_) rfl (by kernel_rfl) (by kernel_rfl) (by kernel_rfl) (fun _ _ _ h => h) (Or.inl ⟨by kernel_rfl, ?_⟩) HS0 ?_
    rotate_left
    · intro W hW; (try dsimp only at hW); go_simp; try (with_reducible rfl)
    refine wpAnyH_take (i := 1) (v := ?_) rfl (by kernel_rfl) (by kernel_rfl) (by kernel_rfl) (fun _ _ _ h => h) (Or.inl ⟨by kernel_rfl, ?_⟩) HS0 ?_
    rotate_left
    · intro W hW; (try dsimp only at hW); go_simp; try (with_reducible rfl)
    refine wpAnyH_take (i := 2) (v := ?_) rfl (by kernel_rfl) (by kernel_rfl) (by kernel_rfl) (fun _ _ _ h => h) (Or.inl ⟨by kernel_rfl, ?_⟩) HS0 ?_
    rotate_left
    · intro W hW; (try dsimp only at hW); go_simp; try (with_reducible rfl)
    refine wpAnyH_take (i := 3) (v := ?_) rfl (by kernel_rfl) (by kernel_rfl) (by kernel_rfl) (fun _ _ _ h => h) (Or.inl ⟨by kernel_rfl, ?_⟩) HS0 ?_
    rotate_left
    · intro W hW; (try dsimp only at hW); go_simp; try (with_reducible rfl)
    refine wpAnyH_take (i := 4) (v := ?_) rfl (by kernel_rfl) (by kernel_rfl) (by kernel_rfl) (fun _ _ _ h => h) (Or.inl ⟨by kernel_rfl, ?_⟩) HS0 ?_
    rotate_left
    · intro W hW; (try dsimp only at hW); go_simp; try (with_reducible rfl)
    refine wpAnyH_take (i := 5) (v := ?_) rfl (by kernel_rfl) (by kernel_rfl) (by kernel_rfl) (fun _ _ _ h => h) (Or.inl ⟨by kernel_rfl, ?_⟩) HS0 ?_
    rotate_left
    · intro W hW; (try dsimp only at hW); go_simp; try (with_reducible rfl)
    refine wpAnyH_take (i := 6) (v := ?_) rfl (by kernel_rfl) (by kernel_rfl) (by kernel_rfl) (fun _ _ _ h => h) (Or.inl ⟨by kernel_rfl, ?_⟩) HS0 ?_
    rotate_left
    · intro W hW; (try dsimp only at hW); go_simp; try (with_reducible rfl)
    refine wpAnyH_take (i := 7) (v := ?_) rfl (by kernel_rfl) (by kernel_rfl) (by kernel_rfl) (fun _ _ _ h => h) (Or.inl ⟨by kernel_rfl, ?_⟩) HS0 ?_
    rotate_left
    · intro W hW; (try dsimp only at hW); go_simp; try (with_reducible rfl)
    refine wpAnyH_take (i := 8) (v := ?_) rfl (by kernel_rfl) (by kernel_rfl) (by kernel_rfl) (fun _ _ _ h => h) (Or.inl ⟨by kernel_rfl, ?_⟩) HS0 ?_
    rotate_left
    · intro W hW; (try dsimp only at hW); go_simp; try (with_reducible rfl)
    refine wpAnyH_take (i := 9) (v := ?_) rfl (by kernel_rfl) (by kernel_rfl) (by kernel_rfl) (fun _ _ _ h => h) (Or.inl ⟨by kernel_rfl, ?_⟩) HS0 ?_
    rotate_left
    · intro W hW; (try dsimp only at hW); go_simp; try (with_reducible rfl)
    refine wpAnyH_take (i := 10) (v := ?_) rfl (by kernel_rfl) (by kernel_rfl) (by kernel_rfl) (fun _ _ _ h => h) (Or.inl ⟨by kernel_rfl, ?_⟩) HS0 ?_
    rotate_left
    · intro W hW; (try dsimp only at hW); go_simp; try (with_reducible rfl)
    refine wpAnyH_take (i := 11) (v := ?_) rfl (by kernel_rfl) (by kernel_rfl) (by kernel_rfl) (fun _ _ _ h => h) (Or.inl ⟨by kernel_rfl, ?_⟩) HS0 ?_
    rotate_left
    · intro W hW; (try dsimp only at hW); go_simp; try (with_reducible rfl)
    refine wpAnyH_take (i := 12) (v := ?_) rfl (by kernel_rfl) (by kernel_rfl) (by kernel_rfl) (fun _ _ _ h => h) (Or.inl ⟨by kernel_rfl, ?_⟩) HS0 ?_
    rotate_left
    · intro W hW; (try dsimp only at hW); go_simp; try (with_reducible rfl)
    refine wpAnyH_take (i := 13) (v := ?_) rfl (by kernel_rfl) (by kernel_rfl) (by kernel_rfl) (fun _ _ _ h => h) (Or.inl ⟨by kernel_rfl, ?_⟩) HS0 ?_
    rotate_left
    · intro W hW; (try dsimp only at hW); go_simp; try (with_reducible rfl)
    refine wpAnyH_take (i := 14) (v := ?_) rfl (by kernel_rfl) (by kernel_rfl) (by kernel_rfl) (fun _ _ _ h => h) (Or.inl ⟨by kernel_rfl, ?_⟩) HS0 ?_
    rotate_left
    · intro W hW; (try dsimp only at hW); go_simp; try (with_reducible rfl)
    refine wpAnyH_take (i := 15) (v := ?_) rfl (by kernel_rfl) (by kernel_rfl) (by kernel_rfl) (fun _ _ _ h => h) (Or.inl ⟨by kernel_rfl, ?_⟩) HS0 ?_
    rotate_left
    · intro W hW; (try dsimp only at hW); go_simp; try (with_reducible rfl)
    refine wpAnyH_take (i := 16) (v := ?_) rfl (by kernel_rfl) (by kernel_rfl) (by kernel_rfl) (fun _ _ _ h => h) (Or.inl ⟨by kernel_rfl, ?_⟩) HS0 ?_
    rotate_left
    · intro W hW; (try dsimp only at hW); go_simp; try (with_reducible rfl)
    refine wpAnyH_take (i := 17) (v := ?_) rfl (by kernel_rfl) (by kernel_rfl) (by kernel_rfl) (fun _ _ _ h => h) (Or.inl ⟨by kernel_rfl, ?_⟩) HS0 ?_
    rotate_left
    · intro W hW; (try dsimp only at hW); go_simp; try (with_reducible rfl)
    refine wpAnyH_take (i := 18) (v := ?_) rfl (by kernel_rfl) (by kernel_rfl) (by kernel_rfl) (fun _ _ _ h => h) (Or.inl ⟨by kernel_rfl, ?_⟩) HS0 ?_
    rotate_left
    · intro W hW; (try dsimp only at hW); go_simp; try (with_reducible rfl)
    refine wpAnyH_take (i := 19) (v := ?_) rfl (by kernel_rfl) (by kernel_rfl) (by kernel_rfl) (fun _ _ _ h => h) (Or.inl ⟨by kernel_rfl, ?_⟩) HS0 ?_
    rotate_left
    · intro W hW; (try dsimp only at hW); go_simp; try (with_reducible rfl)
    refine wpAnyH_take (i := 20) (v := ?_) rfl (by kernel_rfl) (by kernel_rfl) (by kernel_rfl) (fun _ _ _ h => h) (Or.inl ⟨by kernel_rfl, ?_⟩) HS0 ?_
    rotate_left
    · intro W hW; (try dsimp only at hW); go_simp; try (with_reducible rfl)
    refine wpAnyH_take (i := 21) (v := ?_) rfl (by kernel_rfl) (by kernel_rfl) (by kernel_rfl) (fun _ _ _ h => h) (Or.inl ⟨by kernel_rfl, ?_⟩) HS0 ?_
    rotate_left
    · intro W hW; (try dsimp only at hW); go_simp; try (with_reducible rfl)
    refine wpAnyH_take (i := 22) (v := ?_) rfl (by kernel_rfl) (by kernel_rfl) (by kernel_rfl) (fun _ _ _ h => h) (Or.inl ⟨by kernel_rfl, ?_⟩) HS0 ?_
    rotate_left
    · intro W hW; (try dsimp only at hW); go_simp; try (with_reducible rfl)
    refine wpAnyH_take (i := 23) (v := ?_) rfl (by kernel_rfl) (by kernel_rfl) (by kernel_rfl) (fun _ _ _ h => h) (Or.inl ⟨by kernel_rfl, ?_⟩) HS0 ?_
    rotate_left
    · intro W hW; (try dsimp only at hW); go_simp; try (with_reducible rfl)
    clear HS0
    have HS0 := HKS22.out _ (HBx0.out)
    refine wpAnyH_take (i := 24) (v := undef) rfl (by kernel_rfl) (by kernel_rfl) (by kernel_rfl) (fun _ _ _ h => h) (Or.inr ⟨by kernel_rfl, rfl⟩) HS0 ?_
    clear HS0
    have HS0 := HKS22.out _ (HBx0.out)
    refine wpAnyH_take (i := 25) (v := undef) rfl (by kernel_rfl) (by kernel_rfl) (by kernel_rfl) (fun _ _ _ h => h) (Or.inr ⟨by kernel_rfl, rfl⟩) HS0 ?_
    clear HS0
    have HS0 := HKS22.out _ (HBx0.out)
    refine wpAnyH_take (i := 26) (v := undef) rfl (by kernel_rfl) (by kernel_rfl) (by kernel_rfl) (fun _ _ _ h => h) (Or.inr ⟨by kernel_rfl, rfl⟩) HS0 ?_
    clear HS0
    have HS0 := HKS22.out _ (HBx0.out)
    refine wpAnyH_take (i := 27) (v := undef) rfl (by kernel_rfl) (by kernel_rfl) (by kernel_rfl) (fun _ _ _ h => h) (Or.inr ⟨by kernel_rfl, rfl⟩) HS0 ?_
    clear HS0
    have HS0 := HKS22.out _ (HBx0.out)
    refine wpAnyH_take (i := 28) (v := undef) rfl (by kernel_rfl) (by kernel_rfl) (by kernel_rfl) (fun _ _ _ h => h) (Or.inr ⟨by kernel_rfl, rfl⟩) HS0 ?_
    clear HS0
    have HS0 := HKS22.out _ (HBx0.out)
    refine wpAnyH_take (i := 29) (v := undef) rfl (by kernel_rfl) (by kernel_rfl) (by kernel_rfl) (fun _ _ _ h => h) (Or.inr ⟨by kernel_rfl, rfl⟩) HS0 ?_
    clear HS0
    have HS0 := HKS22.out _ (HBx0.out)
    refine wpAnyH_take (i := 30) (v := undef) rfl (by kernel_rfl) (by kernel_rfl) (by kernel_rfl) (fun _ _ _ h => h) (Or.inr ⟨by kernel_rfl, rfl⟩) HS0 ?_
    clear HS0
    have HS0 := HKS22.out _ (HBx0.out)
    refine wpAnyH_take (i := 31) (v := undef) rfl (by kernel_rfl) (by kernel_rfl) (by kernel_rfl) (fun _ _ _ h => h) (Or.inr ⟨by kernel_rfl, rfl⟩) HS0 ?_
    clear HS0
    have HS0 := HKS22.out _ (HBx0.out)
    refine wpAnyH_take (i := 32) (v := ?_) rfl (by kernel_rfl) (by kernel_rfl) (by kernel_rfl) (fun _ _ _ h => h) (Or.inl ⟨by kernel_rfl, ?_⟩) HS0 ?_
    rotate_left
    · intro W hW; (try dsimp only at hW); go_simp; try (with_reducible rfl)
    clear HS0
    have HS0 := HKS22.out _ (HBx0.out)
    refine wpAnyH_take (i := 33) (v := ?_) rfl (by kernel_rfl) (by kernel_rfl) (by kernel_rfl) (fun _ _ _ h => h) (Or.inl ⟨by kernel_rfl, ?_⟩) HS0 ?_
    rotate_left
    · intro W hW; (try dsimp only at hW); go_simp; try (with_reducible rfl)
    clear HS0
    have HS0 := HKS22.out _ (HBx0.out)
    refine wpAnyH_take (i := 34) (v := ?_) rfl (by kernel_rfl) (by kernel_rfl) (by kernel_rfl) (fun _ _ _ h => h) (Or.inl ⟨by kernel_rfl, ?_⟩) HS0 ?_
    rotate_left
    · intro W hW; (try dsimp only at hW); go_simp; try (with_reducible rfl)
    clear HS0
    have HS0 := HKS22.out _ (HBx0.out)
    refine wpAnyH_take (i := 35) (v := ?_) rfl (by kernel_rfl) (by kernel_rfl) (by kernel_rfl) (fun _ _ _ h => h) (Or.inl ⟨by kernel_rfl, ?_⟩) HS0 ?_
    rotate_left
    · intro W hW; (try dsimp only at hW); go_simp; try (with_reducible rfl)
    clear HS0
    refine wpAnyH_done (by kernel_rfl) ?_ _
    refine NoPanic.normal ?_
    (try go_simp)
    have HR9 := Lib.hid (show RT Xx0 g (l.length + 1) (fun q => if q = i then f3 (runF (chc l) (chE l pen) T l.length i (k + 1 - i - 1)) else if i + 1 ≤ q ∧ q < l.length then f3 (T q) else (0, 0, [])) by
      refine (HRK.out.on (below_next HBD.out (below_next HBE.out (HBx0.out)))).congr (fun q _ => ?_)
      by_cases e : q = i
      · simp only [if_pos e]; exact (HLEF.out hbt).symm
      · simp only [if_neg e])
    first
      | exact HQ.out _ _ _ _ _ _ _ _ _ _ _ _ _ _ _ _ _ _ _ _ _ _ _ _ _ _ _ _ _ _ _ _ _ _ _ _ _ _ _ _ _ _ _ _ _ _ _ _ _ _ HR9.out (below_next HDO.out (below_next HBE.out (HBx0.out)))
      | (go_wp2_with fail; exact HQ.out _ _ _ _ _ _ _ _ _ _ _ _ _ _ _ _ _ _ _ _ _ _ _ _ _ _ _ _ _ _ _ _ _ _ _ _ _ _ _ _ _ _ _ _ _ _ _ _ _ _ HR9.out (below_next HDO.out (below_next HBE.out (HBx0.out))))
     }
 · have hbt := bet_gt HY1.out HY2.out hx
   obtain rfl : cv = 1 := HCV.out.trans (cmpN_gt hx).symm
   clear hx
   skip
   {
  refine wp_region_noPanic ?_
  refine wp_region_held_drew (S := (fun X => Below wd.heap.size wd X ∧ X.cell? ⟨bd, 0, none⟩ = some (.slice y'.A1 y'.l1.length y'.c1) ∧ X.cell? ⟨bd, 1, none⟩ = some (.int .i64 (y'.p : Int)) ∧ X.cell? ⟨bd, 2, none⟩ = some (.slice y'.A2 y'.zs.length y'.c2) ∧ X.cell? ⟨g, i * 3, none⟩ = some (.slice y0.A1 y0.l1.length y0.c1) ∧ X.cell? ⟨g, i * 3 + 1, none⟩ = some (.int .i64 (y0.p : Int)) ∧ X.cell? ⟨g, i * 3 + 2, none⟩ = some (.slice y0.A2 y0.zs.length y0.c2))) (by kernel_rfl) (HKS22.out _ (Below.refl _ we).drew) (fun HS0 => ?_)
  have hbx0 : Below we.heap.size we we.drew := (Below.refl _ _).drew
  obtain ⟨Xx0, hXx0⟩ : ∃ X, X = we.drew := ⟨_, rfl⟩
  rw [← hXx0] at hbx0 HS0 ⊢
  have HBx0 := Lib.hid hbx0
  clear hbx0 hXx0
  refine wpAnyH_take (i := 0) (v := ?_) rfl (by kernel_rfl) (by kernel_rfl) (by kernel_rfl) (fun _ _ _ h => h) (Or.inl ⟨by kernel_rfl, ?_⟩) HS0 ?_
  rotate_left
  · intro W hW; (try dsimp only at hW); go_simp; try (with_reducible rfl)
  refine wpAnyH_take (i := 1) (v := ?_) rfl (by kernel_rfl) (by kernel_rfl) (by kernel_rfl) (fun _ _ _ h => h) (Or.inl ⟨by kernel_rfl, ?_⟩) HS0 ?_
  rotate_left
  · intro W hW; (try dsimp only at hW); go_simp; try (with_reducible rfl)
  refine wpAnyH_take (i := 2) (v := ?_) rfl (by kernel_rfl) (by kernel_rfl) (by kernel_rfl) (fun _ _ _ h => h) (Or.inl ⟨by kernel_rfl, ?_⟩) HS0 ?_
  rotate_left
  · intro W hW; (try dsimp only at hW); go_simp; try (with_reducible rfl)
  refine wpAnyH_take (i := 3) (v := ?_) rfl (by kernel_rfl) (by kernel_rfl) (by kernel_rfl) (fun _ _ _ h => h) (Or.inl ⟨by kernel_rfl, ?_⟩) HS0 ?_
  rotate_left
  · intro W hW; (try dsimp only at hW); go_simp; try (with_reducible rfl)
  refine wpAnyH_take (i := 4) (v := ?_) rfl (by kernel_rfl) (by kernel_rfl) (by kernel_rfl) (fun _ _ _ h => h) (Or.inl ⟨by kernel_rfl, ?_⟩) HS0 ?_
  rotate_left
  · intro W hW; (try dsimp only at hW); go_simp; try (with_reducible rfl)
  refine wpAnyH_take (i := 5) (v := ?_) rfl (by kernel_rfl) (by kernel_rfl) (by kernel_rfl) (fun _ _ _ h => h) (Or.inl ⟨by kernel_rfl, ?_⟩) HS0 ?_
  rotate_left
  · intro W hW; (try dsimp only at hW); go_simp; try (with_reducible rfl)
  clear HS0
  have HS0 := HKS22.out _ (HBx0.out)
  refine wpAnyH_take (i := 6) (v := undef) rfl (by kernel_rfl) (by kernel_rfl) (by kernel_rfl) (fun _ _ _ h => h) (Or.inr ⟨by kernel_rfl, rfl⟩) HS0 ?_
  clear HS0
  have HS0 := HKS22.out _ (HBx0.out)
  refine wpAnyH_take (i := 7) (v := undef) rfl (by kernel_rfl) (by kernel_rfl) (by kernel_rfl) (fun _ _ _ h => h) (Or.inr ⟨by kernel_rfl, rfl⟩) HS0 ?_
  clear HS0
  have HS0 := HKS22.out _ (HBx0.out)
  refine wpAnyH_take (i := 8) (v := undef) rfl (by kernel_rfl) (by kernel_rfl) (by kernel_rfl) (fun _ _ _ h => h) (Or.inr ⟨by kernel_rfl, rfl⟩) HS0 ?_
  clear HS0
  have HS0 := HKS22.out _ (HBx0.out)
  refine wpAnyH_take (i := 9) (v := undef) rfl (by kernel_rfl) (by kernel_rfl) (by kernel_rfl) (fun _ _ _ h => h) (Or.inr ⟨by kernel_rfl, rfl⟩) HS0 ?_
  clear HS0
  have HS0 := HKS22.out _ (HBx0.out)
  refine wpAnyH_take (i := 10) (v := undef) rfl (by kernel_rfl) (by kernel_rfl) (by kernel_rfl) (fun _ _ _ h => h) (Or.inr ⟨by kernel_rfl, rfl⟩) HS0 ?_
  clear HS0
  have HS0 := HKS22.out _ (HBx0.out)
  refine wpAnyH_take (i := 11) (v := undef) rfl (by kernel_rfl) (by kernel_rfl) (by kernel_rfl) (fun _ _ _ h => h) (Or.inr ⟨by kernel_rfl, rfl⟩) HS0 ?_
  clear HS0
  have HS0 := HKS22.out _ (HBx0.out)
  refine wpAnyH_take (i := 12) (v := undef) rfl (by kernel_rfl) (by kernel_rfl) (by kernel_rfl) (fun _ _ _ h => h) (Or.inr ⟨by kernel_rfl, rfl⟩) HS0 ?_
  clear HS0
  have HS0 := HKS22.out _ (HBx0.out)
  refine wpAnyH_take (i := 13) (v := undef) rfl (by kernel_rfl) (by kernel_rfl) (by kernel_rfl) (fun _ _ _ h => h) (Or.inr ⟨by kernel_rfl, rfl⟩) HS0 ?_
  clear HS0
  have HS0 := HKS22.out _ (HBx0.out)
  refine wpAnyH_take (i := 14) (v := undef) rfl (by kernel_rfl) (by kernel_rfl) (by kernel_rfl) (fun _ _ _ h => h) (Or.inr ⟨by kernel_rfl, rfl⟩) HS0 ?_
  clear HS0
  have HS0 := HKS22.out _ (HBx0.out)
  refine wpAnyH_take (i := 15) (v := undef) rfl (by kernel_rfl) (by kernel_rfl) (by kernel_rfl) (fun _ _ _ h => h) (Or.inr ⟨by kernel_rfl, rfl⟩) HS0 ?_
  clear HS0
  have HS0 := HKS22.out _ (HBx0.out)
  refine wpAnyH_take (i := 16) (v := undef) rfl (by kernel_rfl) (by kernel_rfl) (by kernel_rfl) (fun _ _ _ h => h) (Or.inr ⟨by kernel_rfl, rfl⟩) HS0 ?_
  clear HS0
  have HS0 := HKS22.out _ (HBx0.out)
  refine wpAnyH_take (i := 17) (v := undef) rfl (by kernel_rfl) (by kernel_rfl) (by kernel_rfl) (fun _ _ _ h => h) (Or.inr ⟨by kernel_rfl, rfl⟩) HS0 ?_
  clear HS0
  have HS0 := HKS22.out _ (HBx0.out)
  refine wpAnyH_take (i := 18) (v := undef) rfl (by kernel_rfl) (by kernel_rfl) (by kernel_rfl) (fun _ _ _ h => h) (Or.inr ⟨by kernel_rfl, rfl⟩) HS0 ?_
  clear HS0
  have HS0 := HKS22.out _ (HBx0.out)
  refine wpAnyH_take (i := 19) (v := undef) rfl (by kernel_rfl) (by kernel_rfl) (by kernel_rfl) (fun _ _ _ h => h) (Or.inr ⟨by kernel_rfl, rfl⟩) HS0 ?_
  clear HS0
  have HS0 := HKS22.out _ (HBx0.out)
  refine wpAnyH_take (i := 20) (v := undef) rfl (by kernel_rfl) (by kernel_rfl) (by kernel_rfl) (fun _ _ _ h => h) (Or.inr ⟨by kernel_rfl, rfl⟩) HS0 ?_
  clear HS0
  have HS0 := HKS22.out _ (HBx0.out)
  refine wpAnyH_take (i := 21) (v := undef) rfl (by kernel_rfl) (by kernel_rfl) (by kernel_rfl) (fun _ _ _ h => h) (Or.inr ⟨by kernel_rfl, rfl⟩) HS0 ?_
  clear HS0
  have HS0 := HKS22.out _ (HBx0.out)
  refine wpAnyH_take (i := 22) (v := undef) rfl (by kernel_rfl) (by kernel_rfl) (by kernel_rfl) (fun _ _ _ h => h) (Or.inr ⟨by kernel_rfl, rfl⟩) HS0 ?_
  clear HS0
  have HS0 := HKS22.out _ (HBx0.out)
  refine wpAnyH_take (i := 23) (v := undef) rfl (by kernel_rfl) (by kernel_rfl) (by kernel_rfl) (fun _ _ _ h => h) (Or.inr ⟨by kernel_rfl, rfl⟩) HS0 ?_
  clear HS0
  have HS0 := HKS22.out _ (HBx0.out)
  refine wpAnyH_take (i := 24) (v := undef) rfl (by kernel_rfl) (by kernel_rfl) (by kernel_rfl) (fun _ _ _ h => h) (Or.inr ⟨by kernel_rfl, rfl⟩) HS0 ?_
  clear HS0
  have HS0 := HKS22.out _ (HBx0.out)
  refine wpAnyH_take (i := 25) (v := undef) rfl (by kernel_rfl) (by kernel_rfl) (by kernel_rfl) (fun _ _ _ h => h) (Or.inr ⟨by kernel_rfl, rfl⟩) HS0 ?_
  clear HS0
  have HS0 := HKS22.out _ (HBx0.out)
  refine wpAnyH_take (i := 26) (v := undef) rfl (by kernel_rfl) (by kernel_rfl) (by kernel_rfl) (fun _ _ _ h => h) (Or.inr ⟨by kernel_rfl, rfl⟩) HS0 ?_
  clear HS0
  have HS0 := HKS22.out _ (HBx0.out)
  refine wpAnyH_take (i := 27) (v := undef) rfl (by kernel_rfl) (by kernel_rfl) (by kernel_rfl) (fun _ _ _ h => h) (Or.inr ⟨by kernel_rfl, rfl⟩) HS0 ?_
  clear HS0
  have HS0 := HKS22.out _ (HBx0.out)
  refine wpAnyH_take (i := 28) (v := undef) rfl (by kernel_rfl) (by kernel_rfl) (by kernel_rfl) (fun _ _ _ h => h) (Or.inr ⟨by kernel_rfl, rfl⟩) HS0 ?_
  clear HS0
  have HS0 := HKS22.out _ (HBx0.out)
  refine wpAnyH_take (i := 29) (v := undef) rfl (by kernel_rfl) (by kernel_rfl) (by kernel_rfl) (fun _ _ _ h => h) (Or.inr ⟨by kernel_rfl, rfl⟩) HS0 ?_
  clear HS0
  have HS0 := HKS22.out _ (HBx0.out)
  refine wpAnyH_take (i := 30) (v := undef) rfl (by kernel_rfl) (by kernel_rfl) (by kernel_rfl) (fun _ _ _ h => h) (Or.inr ⟨by kernel_rfl, rfl⟩) HS0 ?_
  clear HS0
  have HS0 := HKS22.out _ (HBx0.out)
  refine wpAnyH_take (i := 31) (v := undef) rfl (by kernel_rfl) (by kernel_rfl) (by kernel_rfl) (fun _ _ _ h => h) (Or.inr ⟨by kernel_rfl, rfl⟩) HS0 ?_
  clear HS0
  have HS0 := HKS22.out _ (HBx0.out)
  refine wpAnyH_take (i := 32) (v := undef) rfl (by kernel_rfl) (by kernel_rfl) (by kernel_rfl) (fun _ _ _ h => h) (Or.inr ⟨by kernel_rfl, rfl⟩) HS0 ?_
  clear HS0
  have HS0 := HKS22.out _ (HBx0.out)
  refine wpAnyH_take (i := 33) (v := undef) rfl (by kernel_rfl) (by kernel_rfl) (by kernel_rfl) (fun _ _ _ h => h) (Or.inr ⟨by kernel_rfl, rfl⟩) HS0 ?_
  clear HS0
  have HS0 := HKS22.out _ (HBx0.out)
  refine wpAnyH_take (i := 34) (v := ?_) rfl (by kernel_rfl) (by kernel_rfl) (by kernel_rfl) (fun _ _ _ h => h) (Or.inl ⟨by kernel_rfl, ?_⟩) HS0 ?_
  rotate_left
  · intro W hW; (try dsimp only at hW); go_simp; try (with_reducible rfl)
  clear HS0
  have HS0 := HKS22.out _ (HBx0.out)
  refine wpAnyH_take (i := 35) (v := ?_) rfl (by kernel_rfl) (by kernel_rfl) (by kernel_rfl) (fun _ _ _ h => h) (Or.inl ⟨by kernel_rfl, ?_⟩) HS0 ?_
  rotate_left
  · intro W hW; (try dsimp only at hW); go_simp; try (with_reducible rfl)
  clear HS0
  refine wpAnyH_done (by kernel_rfl) ?_ _
  refine NoPanic.normal ?_
  (try go_simp)
  have HR9 := Lib.hid (show RT Xx0 g (l.length + 1) (fun q => if q = i then f3 (runF (chc l) (chE l pen) T l.length i (k + 1 - i - 1)) else if i + 1 ≤ q ∧ q < l.length then f3 (T q) else (0, 0, [])) by
    refine (HRK.out.on (below_next HBD.out (below_next HBE.out (HBx0.out)))).congr (fun q _ => ?_)
    by_cases e : q = i
    · simp only [if_pos e]; exact (HLEF.out hbt).symm
    · simp only [if_neg e])
  first
    | exact HQ.out _ _ _ _ _ _ _ _ _ _ _ _ _ _ _ _ _ _ _ _ _ _ _ _ _ _ _ _ _ _ _ _ _ _ _ _ _ _ _ _ _ _ _ _ _ _ _ _ _ _ HR9.out (below_next HDO.out (below_next HBE.out (HBx0.out)))
    | (go_wp2_with fail; exact HQ.out _ _ _ _ _ _ _ _ _ _ _ _ _ _ _ _ _ _ _ _ _ _ _ _ _ _ _ _ _ _ _ _ _ _ _ _ _ _ _ _ _ _ _ _ _ _ _ _ _ _ HR9.out (below_next HDO.out (below_next HBE.out (HBx0.out))))
   }
  }
end Go.Proofs.YtnpfdelklolchaaGreatDoor
