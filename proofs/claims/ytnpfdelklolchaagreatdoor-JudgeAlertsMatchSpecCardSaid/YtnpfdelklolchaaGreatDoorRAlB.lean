/- The reference's Alerts: the alerts are made. Printed by gen_ral.py out of ralb.txt. -/
import Derived.Test.YtnpfdelklolchaaGreatDoorG43
import Derived.Test.YtnpfdelklolchaaGreatDoorG42
import Derived.Test.YtnpfdelklolchaaGreatDoorPartN
import Derived.Deep.DeepCutAuto
import Derived.Deep.CutBlock
namespace Go.Proofs.YtnpfdelklolchaaGreatDoor
open Go Go.RowKit Go.Proofs

theorem setTo_snoc (out : List (Int × Int × Int)) (k a z t : Int) : setTo (out ++ [(k, a, z)]) t = out ++ [(k, a, t)] := by
  have h : (out ++ [(k, a, z)])[(out ++ [(k, a, z)]).length - 1]? = some (k, a, z) := by simp
  rw [setTo_eq t h]
  simp
/-- the code from 'var out' on -/
noncomputable def ralB : Code := match Tryz.f20.body with
  | some (.seq _ (.seq _ (.seq _ (.seq _ (.seq _ (.seq _ t)))))) => t
  | _ => .skip
set_option maxHeartbeats 8000000 in
set_option maxRecDepth 100000 in
theorem ralB_any (g o : Int) (A B : Option Addr) (c d : Nat) (l : List Pt) (rs : List Ru) (V : Int) (w w2 : World) (hr : Rd w 0 w.heap.size 3 A l.length (al3 l)) (hr2 : Rd w 0 w.heap.size 4 B rs.length (ru4 rs)) (hv : V = 0) (hb2 : Below w.heap.size w w2)
    (hx2 : w2.heap[w.heap.size]? = some (.cells #[.int .i64 g, .int .i64 o] 48 (0, 0))) (hop : OkPts l) (hor : OkRus rs) (hok : OkO g o)
    (u0 u4 u5 u6 u7 u8 u9 u10 u11 u12 u13 u14 u15 u16 u17 u18 u19 u20 u21 u22 u23 u24 u25 u26 u27 u28 u29 u30 u31 u32 u33 u34 u35 u36 u37 u38 u39 u40 u41 u42 u43 u44 u45 u46 u47 u48 u49 u50 u51 u52 u53 u54 u55 u56 u57 u58 u59 u60 u61 u62 u63 u64 u65 u66 u67 u68 u69 u70 u71 u72 u73 u74 u75 u76 u77 u78 u79 u80 u81 u82 u83 u84 u85 u86 u87 u88 u89 u90 u91 u92 u93 u94 u95 u96 u97 u98 u99 u100 u101 u102 u103 u104 u105 u106 u107 u108 u109 u110 u111 u112 u113 u114 u115 u116 u117 u118 u119 u120 u121 u122 u123 u124 u125 u126 u127 u128 u129 u130 u131 u132 u133 u134 u135 u136 u137 u138 u139 u140 u141 u142 u143 u144 u145 u146 u147 u148 u149 u150 u151 u152 u153 u154 u155 u156 u157 u158 u159 u160 u161 u162 u163 u164 u165 u166 u167 u168 u169 u170 u171 u172 u173 u174 u175 u176 u177 u178 u179 u180 u181 u182 u183 u184 u185 u186 u187 u188 u189 u190 u191 u192 u193 u194 u195 u196 u197 u198 u199 u200 u201 u202 u203 u204 u205 u206 u207 u208 u209 u210 u211 u212 u213 u214 u215 u216 u217 u218 u219 u220 u221 u222 u223 u224 u225 u226 u227 u228 u229 u230 u231 u232 u233 u234 u235 u236 u237 u238 u239 u240 u241 u242 u243 u244 u245 u246 u247 u248 u249 u250 u251 u252 u253 u254 u255 u256 u257 u258 u259 u260 u261 u262 u263 u264 u265 u266 u267 u268 u269 u270 u271 u272 u273 u274 u275 u276 u277 u278 u279 u280 u281 u282 u283 u284 u285 u286 u287 u288 : Value) :
    Code.wp Tryz.prog ralB (bodyPost Tryz.prog Tryz.f20 (AlP V (alRus g o l rs rs.length) w)) { tmps := #[u0, (.slice A l.length c), (.slice B rs.length d), (.pointer (some ⟨w.heap.size, 0, none⟩)), u4, u5, u6, u7, u8, u9, u10, u11, u12, u13, u14, u15, u16, u17, u18, u19, u20, u21, u22, u23, u24, u25, u26, u27, u28, u29, u30, u31, u32, u33, u34, u35, u36, u37, u38, u39, u40, u41, u42, u43, u44, u45, u46, u47, u48, u49, u50, u51, u52, u53, u54, u55, u56, u57, u58, u59, u60, u61, u62, u63, u64, u65, u66, u67, u68, u69, u70, u71, u72, u73, u74, u75, u76, u77, u78, u79, u80, u81, u82, u83, u84, u85, u86, u87, u88, u89, u90, u91, u92, u93, u94, u95, u96, u97, u98, u99, u100, u101, u102, u103, u104, u105, u106, u107, u108, u109, u110, u111, u112, u113, u114, u115, u116, u117, u118, u119, u120, u121, u122, u123, u124, u125, u126, u127, u128, u129, u130, u131, u132, u133, u134, u135, u136, u137, u138, u139, u140, u141, u142, u143, u144, u145, u146, u147, u148, u149, u150, u151, u152, u153, u154, u155, u156, u157, u158, u159, u160, u161, u162, u163, u164, u165, u166, u167, u168, u169, u170, u171, u172, u173, u174, u175, u176, u177, u178, u179, u180, u181, u182, u183, u184, u185, u186, u187, u188, u189, u190, u191, u192, u193, u194, u195, u196, u197, u198, u199, u200, u201, u202, u203, u204, u205, u206, u207, u208, u209, u210, u211, u212, u213, u214, u215, u216, u217, u218, u219, u220, u221, u222, u223, u224, u225, u226, u227, u228, u229, u230, u231, u232, u233, u234, u235, u236, u237, u238, u239, u240, u241, u242, u243, u244, u245, u246, u247, u248, u249, u250, u251, u252, u253, u254, u255, u256, u257, u258, u259, u260, u261, u262, u263, u264, u265, u266, u267, u268, u269, u270, u271, u272, u273, u274, u275, u276, u277, u278, u279, u280, u281, u282, u283, u284, u285, u286, u287, u288], defers := [] } w2 := by
  generalize hQ : bodyPost Tryz.prog Tryz.f20 _ = Q
  unfold ralB
  dsimp only [Tryz.f20]
  subst hQ
  obtain ⟨ii, hii, hiz0, hiz1, hiz2⟩ := info_parts infoAl
  have HR := Lib.hid hr
  have HR2 := Lib.hid hr2
  have HB2 := Lib.hid hb2
  have HX2 := Lib.hid hx2
  have HOP := Lib.hid hop
  have HOR := Lib.hid hor
  have HOK := Lib.hid hok
  have HVZ := Lib.hid hv
  have hle := hop.le
  have hle2 := hor.le
  clear hr hr2 hb2 hx2 hop hor hok hv
  go_upto_block 4 with fail
  go_cut [12] (fun ov wc => ∃ v : Value, v = ov ∧ OwA wc w2.heap.size v (alRus g o l rs rs.length) ∧ Below w2.heap.size w2 wc)
  case first =>
    go_wp2_with fail
    go_loopw [12, 13] (fun ov kv wr => ∃ (v : Value) (k : Nat), v = ov ∧ kv = .int .i64 (k : Int) ∧ k ≤ rs.length ∧ OwA wr w2.heap.size ov (alRus g o l rs k) ∧ Below w2.heap.size w2 wr) (fun _ kv _ => rs.length - (intOf kv).toNat)
    case atStart => exact ⟨_, 0, rfl, rfl, Nat.zero_le _, OwA.nil _ _, Below.refl _ _⟩
    case round =>
      obtain ⟨ov, k, rfl, rfl, hk, hown, hbw⟩ := hrel
      obtain ⟨wk, rfl⟩ : ∃ W : World, W = wr := ⟨_, rfl⟩
      have HOW := Lib.hid hown
      have HBK := Lib.hid hbw
      have HDN := Lib.hid (AlDone.rus (g := g) (o := o) (rs := rs) HOP.out k hk)
      clear hown hbw
      by_cases hlt : k < rs.length
      · obtain ⟨b2, o2, r, rfl, -, -, hrr, t0, t1, t2, t3⟩ := (HR2.out.old (below_next HB2.out HBK.out)).atR hlt
        have hkz : (k : Int) < (rs.length : Int) := by omega
        have hk1 : IntKind.i64.wrap ((k : Int) + 1) = (k : Int) + 1 := IntWalk.i64_in _ (by omega)
        have HRU := Lib.hid (HOR.out.ok k r hrr)
        have HSTEP := Lib.hid (alRus_step (g := g) (o := o) (l := l) hrr)
        have HIN := Lib.hid (AlInv.pts HOP.out (Int.natCast_nonneg k) (hld g o l r) HDN.out)
        obtain ⟨s0, hs0⟩ : ∃ z, z = alRus g o l rs k := ⟨_, rfl⟩
        rw [← hs0] at HOW HSTEP HIN
        obtain ⟨W5, hW5⟩ : ∃ W, W = wk.alloc (.cells #[.int .i64 r.1, .int .i64 r.2.1, .int .i64 r.2.2.1, .int .i64 r.2.2.2] 99) := ⟨_, rfl⟩
        obtain ⟨lo, hlo⟩ : ∃ b, b = wk.heap.size := ⟨_, rfl⟩
        have HRB0 := Lib.hid (show W5.heap[lo]? = some (.cells #[.int .i64 r.1, .int .i64 r.2.1, .int .i64 r.2.2.1, .int .i64 r.2.2.2] 99 (0, 0)) by rw [hW5, hlo]; exact alloc_at _ _ _ rfl)
        have hb5 : Below wk.heap.size wk W5 := by rw [hW5]; exact (Below.refl _ wk).alloc (Nat.le_refl _) _
        have HB5 := Lib.hid hb5
        have hru := HRU.out
        unfold OkRu at hru
        have HPT := Lib.hid (rPartN_any r.2.2.1 r.2.2.2 W5 hru.2.2.2.1 (by omega) hru.2.2.2.2.2.1 (by omega))
        obtain ⟨r0, r1, r2, r3⟩ := ru_cells HRB0.out
        rw [hW5] at r0 r1 r2 r3
        have HLOW := Lib.hid (show lo ≤ W5.heap.size by rw [hlo]; exact hb5.size)
        have HLO := Lib.hid hlo
        rw [hlo] at r0 r1 r2 r3
        clear hb5 hrr hs0 hru
        go_wp2_with fail
        rw [← hW5, ← hlo]
        clear hW5 hlo t0 t1 t2 t3 r0 r1 r2 r3
        (with_reducible refine (HPT.out).mono ?_)
        rintro e w6 ⟨vr, rfl, hvr, hb6, hnw⟩
        obtain ⟨br, Ar, cr, lr, Dr, dr, mr, rfl⟩ := hvr.shape
        obtain ⟨W7, hW7⟩ : ∃ W, W = w6.alloc (.cells #[.bool br, .slice Ar lr.length cr, .slice Dr mr.length dr] 31) := ⟨_, rfl⟩
        obtain ⟨tb, htb⟩ : ∃ b, b = w6.heap.size := ⟨_, rfl⟩
        have hb7 : Below w6.heap.size w6 W7 := by rw [hW7]; exact (Below.refl _ w6).alloc (Nat.le_refl _) _
        have HTB := Lib.hid (show W7.heap[tb]? = some (.cells #[.bool br, .slice Ar lr.length cr, .slice Dr mr.length dr] 31 (0, 0)) by rw [hW7, htb]; exact alloc_at _ _ _ rfl)
        have HTL := Lib.hid (show lo ≤ tb by rw [htb]; exact Nat.le_trans HLOW.out hb6.size)
        have HVR := Lib.hid (hvr.on hb7)
        have HNW := Lib.hid (show FrNew lo (.agg #[.bool br, .slice Ar lr.length cr, .slice Dr mr.length dr]) from by
          obtain ⟨b', A1', n1', c1', A2', n2', c2', e, g1, g2⟩ := hnw
          exact ⟨b', A1', n1', c1', A2', n2', c2', e, fun b o h => Nat.le_trans HLOW.out (g1 b o h), fun b o h => Nat.le_trans HLOW.out (g2 b o h)⟩)
        have HRB7 := Lib.hid (((below_next hb6 hb7).block _ (heap_lt HRB0.out)).trans HRB0.out)
        have HB57 := Lib.hid (below_next HB5.out (below_next hb6 hb7))
        have HB7 := Lib.hid (below_next HBK.out HB57.out)
        have HOW7 := Lib.hid (HOW.out.on HB57.out)
        have HQ7 := Lib.hid (show ∀ z, ov.ownBlock = some z → z < lo ∨ W7.heap.size ≤ z from fun z e => .inl (by rw [HLO.out]; exact (ownsRow_block HOW.out e.symm).2))
        clear hvr hb6 hnw hb7
        go_wp2_with fail
        rw [← hW7, ← htb]
        clear hW7 htb
        go_loopw [12, 16, 17] (fun ov hv iv wr => ∃ (v : Value) (i : Nat) (hd : Bool) (out : List Al), v = ov ∧ iv = .int .i64 (i : Int) ∧ hv = .bool hd ∧ i ≤ l.length ∧ alPts (k : Int) l (hld g o l r) s0 i = (hd, out) ∧ OwA wr w2.heap.size ov out ∧ (∀ z, ov.ownBlock = some z → z < lo ∨ W7.heap.size ≤ z) ∧ Band lo W7 wr ∧ Below w2.heap.size w2 wr) (fun _ _ iv _ => l.length - (intOf iv).toNat)
        case atStart => exact ⟨_, 0, false, s0, rfl, rfl, rfl, Nat.zero_le _, rfl, HOW7.out, HQ7.out, Band.refl _ _, HB7.out⟩
        case round =>
          obtain ⟨ov, i, hd, out, rfl, rfl, rfl, hi, hst, hown, hqb, hbn, hbw⟩ := hrel
          obtain ⟨wi, rfl⟩ : ∃ W : World, W = wr := ⟨_, rfl⟩
          have HST := Lib.hid hst
          have HOI := Lib.hid hown
          have HQB := Lib.hid hqb
          have HBN := Lib.hid hbn
          have HBI := Lib.hid hbw
          have hbI := HIN.out i hi
          rw [hst] at hbI
          have HLEN := Lib.hid (show out.length ≤ 1000000 by have := hbI.len; simp only at this; omega)
          have HNE := Lib.hid (show hd = true → 0 < out.length from hbI.ne)
          clear hst hown hqb hbn hbw hbI HOW HOW7 HQ7 HB7 HB5 HB57 HBK HPT
          by_cases hil : i < l.length
          · obtain ⟨b3, o3, p, rfl, -, -, hp, q0, q1, q2⟩ := (HR.out.old (below_next HB2.out HBI.out)).atP hil
            have hiz : (i : Int) < (l.length : Int) := by omega
            have hi1 : IntKind.i64.wrap ((i : Int) + 1) = (i : Int) + 1 := IntWalk.i64_in _ (by omega)
            have HNX := Lib.hid ((alPts_step (k := (k : Int)) (b := hld g o l r) (s := s0) hp).trans (by rw [HST.out]))
            have HPB := Lib.hid hp
            have HPC := Lib.hid (show ∀ W, Below w2.heap.size w2 W → W.cell? ⟨b3, o3 + i * 3, none⟩ = some (.int .i64 p.1) from fun W hW => by
              obtain ⟨b', o', e, _, _, hc⟩ := (HR.out.old (below_next HB2.out hW)).2 (by omega)
              simp only [Option.some.injEq, Addr.mk.injEq, and_true] at e
              obtain ⟨rfl, rfl⟩ := e
              exact hc _ _ (al3_get HPB.out).1)
            have hlim : (0 ≤ r.1 ∧ r.1 ≤ 1000000000000) ∧ (0 ≤ r.2.1 ∧ r.2.1 ≤ 1000000000000) ∧ (0 ≤ r.2.2.1 ∧ r.2.2.1 ≤ 1000000) ∧ (1 ≤ r.2.2.2 ∧ r.2.2.2 ≤ 1000000) := by have h := HRU.out; unfold OkRu at h; omega
            obtain ⟨⟨m0, m1⟩, ⟨m2, m3⟩, ⟨m4, m5⟩, m6, m7⟩ := hlim
            have HIN1 := Lib.hid (fun W (hW : Below wi.heap.size wi W) => rIn_any g o (some ⟨b3, o3, none⟩) c l i r.1 p.1 W (HR.out.old (below_next HB2.out (below_next HBI.out hW))) HOP.out HOK.out ⟨p, HPB.out, rfl⟩ m0 m1)
            have HIN2 := Lib.hid (fun W (hW : Below wi.heap.size wi W) => rIn_any g o (some ⟨b3, o3, none⟩) c l i r.2.1 p.1 W (HR.out.old (below_next HB2.out (below_next HBI.out hW))) HOP.out HOK.out ⟨p, HPB.out, rfl⟩ m2 m3)
            have hwn1 := wn_bd HOP.out i r.1
            have hwn2 := wn_bd HOP.out i r.2.1
            have HSZ1 := Lib.hid (sz_brn (g := g) (o := o) HOK.out hwn1.1 hwn1.2.1 (by omega))
            have HSZ2 := Lib.hid (sz_brn (g := g) (o := o) HOK.out hwn2.1 hwn2.2.1 (by omega))
            have hna : r.2.2.1.natAbs ≤ 10000000000000000 := by omega
            have hda : r.2.2.2.toNat ≤ 10000000000000000 := by omega
            have HSZR := Lib.hid (sz_mono (n := 5) (m := 100000) (sz_part (n := 5) (z := r.2.2.1) (d := r.2.2.2.toNat) (by omega) (t4_5 hna) (t4_5 hda)) (by omega))
            have hv1 := brn_ord (g := g) (o := o) HOK.out hwn1.1 hwn1.2.1 m4 m6
            have hv2 := brn_ord (g := g) (o := o) HOK.out hwn2.1 hwn2.2.1 m4 m6
            rw [← brnAt_wn hp] at hv1 hv2
            have hhl : hld g o l r i = (brnAt g o l i r.1 r.2.2.1 r.2.2.2 && brnAt g o l i r.2.1 r.2.2.1 r.2.2.2) := rfl
            rw [← hv1, ← hv2] at hhl
            rw [hhl] at HNX
            have HRW := Lib.hid (fun W (hW : Below wi.heap.size wi W) => HVR.out.band HNW.out (HBN.out.on hW))
            have HOR1 := Lib.hid (fun X u v h1 h2 => rOrder_any 100000 u v _ _ X (by omega) h1 h2 HSZ1.out HSZR.out)
            have HOR2 := Lib.hid (fun X u v h1 h2 => rOrder_any 100000 u v _ _ X (by omega) h1 h2 HSZ2.out HSZR.out)
            obtain ⟨Q1, hQ1⟩ : ∃ z, z = brnQ g o (wnB l i r.1) (wnA l i r.1) := ⟨_, rfl⟩
            obtain ⟨Q2, hQ2⟩ : ∃ z, z = brnQ g o (wnB l i r.2.1) (wnA l i r.2.1) := ⟨_, rfl⟩
            obtain ⟨QR, hQR⟩ : ∃ z, z = mkRat r.2.2.1 r.2.2.2.toNat := ⟨_, rfl⟩
            rw [← hQ1] at HIN1 HOR1 HNX
            rw [← hQ2] at HIN2 HOR2 HNX
            rw [← hQR] at HOR1 HOR2 HNX HRW
            obtain ⟨cv1, hc1⟩ : ∃ z, z = ordQ Q1 QR := ⟨_, rfl⟩
            obtain ⟨cv2, hc2⟩ : ∃ z, z = ordQ Q2 QR := ⟨_, rfl⟩
            rw [← hc1] at HOR1 HNX
            rw [← hc2] at HOR2 HNX
            have HKS31 := Lib.hid (show ∀ X, Below wi.heap.size wi X → (fun X => Below wi.heap.size wi X ∧ X.cell? ⟨w.heap.size, 0, none⟩ = some (.int .i64 g) ∧ X.cell? ⟨w.heap.size, 1, none⟩ = some (.int .i64 o) ∧ X.cell? ⟨b3, o3 + i * 3, none⟩ = some (.int .i64 p.1) ∧ X.cell? ⟨lo, 0, none⟩ = some (.int .i64 r.1) ∧ X.cell? ⟨lo, 1, none⟩ = some (.int .i64 r.2.1) ∧ X.cell? ⟨tb, 0, none⟩ = some (.bool br) ∧ X.cell? ⟨tb, 1, none⟩ = some (.slice Ar lr.length cr) ∧ X.cell? ⟨tb, 2, none⟩ = some (.slice Dr mr.length dr)) X from fun X hX => by
              have hb := below_next HBI.out hX
              obtain ⟨x0, x1⟩ := obj_cells ((hb.block _ (heap_lt HX2.out)).trans HX2.out)
              have hbd := HBN.out.on hX
              obtain ⟨y0, y1, -, -⟩ := ru_cells ((hbd.2 lo (Nat.le_refl _) (heap_lt HRB7.out)).trans HRB7.out)
              have hz := (hbd.2 tb HTL.out (heap_lt HTB.out)).trans HTB.out
              exact ⟨hX, x0, x1, HPC.out X hb, y0, y1, by rw [cellsAt hz]; rfl, by rw [cellsAt hz]; rfl, by rw [cellsAt hz]; rfl⟩)
            clear hp hwn1 hwn2 hna hda hv1 hv2 hhl hQ1 hQ2 hQR hc1 hc2 q0 q1 q2 m0 m1 m2 m3 m4 m5 m6 m7 HSZ1 HSZ2 HSZR
            by_cases c1 : 0 ≤ cv1
            · have d1 := decide_eq_true c1
              by_cases c2 : 0 ≤ cv2
              · have d2 := decide_eq_true c2
                rw [decide_eq_true c1, decide_eq_true c2] at HNX
                go_wp2_with fail
                skip
                {
 refine wp_region_noPanic ?_
 refine wp_region_held_drew (S := (fun X => Below wi.heap.size wi X ∧ X.cell? ⟨w.heap.size, 0, none⟩ = some (.int .i64 g) ∧ X.cell? ⟨w.heap.size, 1, none⟩ = some (.int .i64 o) ∧ X.cell? ⟨b3, o3 + i * 3, none⟩ = some (.int .i64 p.1) ∧ X.cell? ⟨lo, 0, none⟩ = some (.int .i64 r.1) ∧ X.cell? ⟨lo, 1, none⟩ = some (.int .i64 r.2.1) ∧ X.cell? ⟨tb, 0, none⟩ = some (.bool br) ∧ X.cell? ⟨tb, 1, none⟩ = some (.slice Ar lr.length cr) ∧ X.cell? ⟨tb, 2, none⟩ = some (.slice Dr mr.length dr))) (by kernel_rfl) (HKS31.out _ (Below.refl _ wi).drew) (fun HS0 => ?_)
 have hbx0 : Below wi.heap.size wi wi.drew := (Below.refl _ _).drew
 obtain ⟨Xx0, hXx0⟩ : ∃ X, X = wi.drew := ⟨_, rfl⟩
 rw [← hXx0] at hbx0 HS0 ⊢
 have HBx0 := Lib.hid hbx0
 clear hbx0 hXx0
 refine wpAnyH_take (i := 0) (v := ?_) rfl (by kernel_rfl) (by kernel_rfl) (by kernel_rfl) (fun _ _ _ h => h) (Or.inl ⟨by kernel_rfl, ?_⟩) HS0 ?_
 rotate_left
 · intro W hW; (try dsimp only at hW); go_simp; try (with_reducible rfl)
 refine wpAnyH_take (i := 1) (v := ?_) rfl (by kernel_rfl) (by kernel_rfl) (by kernel_rfl) (fun _ _ _ h => h) (Or.inl ⟨by kernel_rfl, ?_⟩) HS0 ?_
 rotate_left
 · intro W hW; (try dsimp only at hW); go_simp; try (with_reducible rfl)
 refine wpAnyH_take (i := 2) (v := ?_) rfl (by kernel_rfl) (by kernel_rfl) (by kernel_rfl) (fun _ _ _ h => h) (Or.inl ⟨by kernel_rfl, ?_⟩) HS0 ?_
 rotate_left
 · intro W hW; (try dsimp only at hW); go_simp; try (with_reducible rfl)
 refine wpAnyH_take (i := 3) (v := ?_) rfl (by kernel_rfl) (by kernel_rfl) (by kernel_rfl) (fun _ _ _ h => h) (Or.inl ⟨by kernel_rfl, ?_⟩) HS0 ?_
 rotate_left
 · intro W hW; (try dsimp only at hW); go_simp; try (with_reducible rfl)
 refine wpAnyH_take (i := 4) (v := ?_) rfl (by kernel_rfl) (by kernel_rfl) (by kernel_rfl) (fun _ _ _ h => h) (Or.inl ⟨by kernel_rfl, ?_⟩) HS0 ?_
 rotate_left
 · intro W hW; (try dsimp only at hW); go_simp; try (with_reducible rfl)
 refine wpAnyH_take (i := 5) (v := ?_) rfl (by kernel_rfl) (by kernel_rfl) (by kernel_rfl) (fun _ _ _ h => h) (Or.inl ⟨by kernel_rfl, ?_⟩) HS0 ?_
 rotate_left
 · intro W hW; (try dsimp only at hW); go_simp; try (with_reducible rfl)
 refine wpAnyH_take (i := 6) (v := ?_) rfl (by kernel_rfl) (by kernel_rfl) (by kernel_rfl) (fun _ _ _ h => h) (Or.inl ⟨by kernel_rfl, ?_⟩) HS0 ?_
 rotate_left
 · intro W hW; (try dsimp only at hW); go_simp; try (with_reducible rfl)
 refine wpAnyH_take (i := 7) (v := ?_) rfl (by kernel_rfl) (by kernel_rfl) (by kernel_rfl) (fun _ _ _ h => h) (Or.inl ⟨by kernel_rfl, ?_⟩) HS0 ?_
 rotate_left
 · intro W hW; (try dsimp only at hW); go_simp; try (with_reducible rfl)
 refine wpAnyH_take (i := 8) (v := ?_) rfl (by kernel_rfl) (by kernel_rfl) (by kernel_rfl) (fun _ _ _ h => h) (Or.inl ⟨by kernel_rfl, ?_⟩) HS0 ?_
 rotate_left
 · intro W hW; (try dsimp only at hW); go_simp; try (with_reducible rfl)
 refine wpAnyH_take (i := 10) (v := ?_) rfl (by kernel_rfl) (by kernel_rfl) (by kernel_rfl) (fun _ _ _ h => h) (Or.inl ⟨by kernel_rfl, ?_⟩) HS0 ?_
 rotate_left
 · intro W hW; (try dsimp only at hW); go_simp; try (with_reducible rfl)
 clear HS0
 refine run_one (i := 9) (by kernel_rfl) rfl rfl ?_
 intro K hK
 go_simp
 (with_reducible refine (HIN1.out Xx0 (HBx0.out)).mono ?_)
 rintro e Xx1 ⟨v1, rfl, hvx1, hbx1⟩
 have HBx1 := Lib.hid (below_next (HBx0.out) hbx1)
 refine hK.out _ _ (HKS31.out _ HBx1.out) ?_
 clear hK K
 intro _
 obtain ⟨bp, Ap, cp, lp, Dp, dp, mp, rfl⟩ := hvx1.shape
 refine run_one (i := 11) (by kernel_rfl) rfl rfl ?_
 intro K hK
 go_simp
 (with_reducible refine (HOR1.out Xx1 _ _ (hvx1) (HRW.out Xx1 (HBx1.out))).mono ?_)
 rintro e Xx2 ⟨rfl, hbx2⟩
 have HBx2 := Lib.hid (below_next (HBx1.out) hbx2)
 refine hK.out _ _ (HKS31.out _ HBx2.out) ?_
 clear hK K
 intro _
 have HS0 := HKS31.out _ (HBx2.out)
 refine wpAnyH_take (i := 12) (v := ?_) rfl (by kernel_rfl) (by kernel_rfl) (by kernel_rfl) (fun _ _ _ h => h) (Or.inl ⟨by kernel_rfl, ?_⟩) HS0 ?_
 rotate_left
 · intro W hW; (try dsimp only at hW); go_simp; try (with_reducible rfl)
 clear HS0
 have HS0 := HKS31.out _ (HBx2.out)
 refine wpAnyH_take (i := 13) (v := ?_) rfl (by kernel_rfl) (by kernel_rfl) (by kernel_rfl) (fun _ _ _ h => h) (Or.inl ⟨by kernel_rfl, ?_⟩) HS0 ?_
 rotate_left
 · intro W hW; (try dsimp only at hW); go_simp; try (with_reducible rfl)
 clear HS0
 have HS0 := HKS31.out _ (HBx2.out)
 refine wpAnyH_take (i := 14) (v := ?_) rfl (by kernel_rfl) (by kernel_rfl) (by kernel_rfl) (fun _ _ _ h => h) (Or.inl ⟨by kernel_rfl, ?_⟩) HS0 ?_
 rotate_left
 · intro W hW; (try dsimp only at hW); go_simp; try (with_reducible rfl)
 clear HS0
 have HS0 := HKS31.out _ (HBx2.out)
 refine wpAnyH_take (i := 15) (v := ?_) rfl (by kernel_rfl) (by kernel_rfl) (by kernel_rfl) (fun _ _ _ h => h) (Or.inl ⟨by kernel_rfl, ?_⟩) HS0 ?_
 rotate_left
 · intro W hW; (try dsimp only at hW); go_simp; try (with_reducible rfl)
 clear HS0
 have HS0 := HKS31.out _ (HBx2.out)
 refine wpAnyH_take (i := 16) (v := ?_) rfl (by kernel_rfl) (by kernel_rfl) (by kernel_rfl) (fun _ _ _ h => h) (Or.inl ⟨by kernel_rfl, ?_⟩) HS0 ?_
 rotate_left
 · intro W hW; (try dsimp only at hW); go_simp; try (with_reducible rfl)
 clear HS0
 have HS0 := HKS31.out _ (HBx2.out)
 refine wpAnyH_take (i := 17) (v := ?_) rfl (by kernel_rfl) (by kernel_rfl) (by kernel_rfl) (fun _ _ _ h => h) (Or.inl ⟨by kernel_rfl, ?_⟩) HS0 ?_
 rotate_left
 · intro W hW; (try dsimp only at hW); go_simp; try (with_reducible rfl)
 clear HS0
 have HS0 := HKS31.out _ (HBx2.out)
 refine wpAnyH_take (i := 18) (v := ?_) rfl (by kernel_rfl) (by kernel_rfl) (by kernel_rfl) (fun _ _ _ h => h) (Or.inl ⟨by kernel_rfl, ?_⟩) HS0 ?_
 rotate_left
 · intro W hW; (try dsimp only at hW); go_simp; try (with_reducible rfl)
 clear HS0
 have HS0 := HKS31.out _ (HBx2.out)
 refine wpAnyH_take (i := 19) (v := ?_) rfl (by kernel_rfl) (by kernel_rfl) (by kernel_rfl) (fun _ _ _ h => h) (Or.inl ⟨by kernel_rfl, ?_⟩) HS0 ?_
 rotate_left
 · intro W hW; (try dsimp only at hW); go_simp; try (with_reducible rfl)
 clear HS0
 have HS0 := HKS31.out _ (HBx2.out)
 refine wpAnyH_take (i := 20) (v := ?_) rfl (by kernel_rfl) (by kernel_rfl) (by kernel_rfl) (fun _ _ _ h => h) (Or.inl ⟨by kernel_rfl, ?_⟩) HS0 ?_
 rotate_left
 · intro W hW; (try dsimp only at hW); go_simp; try (with_reducible rfl)
 clear HS0
 have HS0 := HKS31.out _ (HBx2.out)
 refine wpAnyH_take (i := 21) (v := ?_) rfl (by kernel_rfl) (by kernel_rfl) (by kernel_rfl) (fun _ _ _ h => h) (Or.inl ⟨by kernel_rfl, ?_⟩) HS0 ?_
 rotate_left
 · intro W hW; (try dsimp only at hW); go_simp; try (with_reducible rfl)
 clear HS0
 have HS0 := HKS31.out _ (HBx2.out)
 refine wpAnyH_take (i := 22) (v := ?_) rfl (by kernel_rfl) (by kernel_rfl) (by kernel_rfl) (fun _ _ _ h => h) (Or.inl ⟨by kernel_rfl, ?_⟩) HS0 ?_
 rotate_left
 · intro W hW; (try dsimp only at hW); go_simp; try (with_reducible rfl)
 clear HS0
 have HS0 := HKS31.out _ (HBx2.out)
 refine wpAnyH_take (i := 24) (v := ?_) rfl (by kernel_rfl) (by kernel_rfl) (by kernel_rfl) (fun _ _ _ h => h) (Or.inl ⟨by kernel_rfl, ?_⟩) HS0 ?_
 rotate_left
 · intro W hW; (try dsimp only at hW); go_simp; try (with_reducible rfl)
 clear HS0
 refine run_oneG (i := 23) (by kernel_rfl) rfl (by kernel_rfl) ?_
 intro K hK
 go_simp
 (with_reducible refine (HIN2.out Xx2 (HBx2.out)).mono ?_)
 rintro e Xx3 ⟨v3, rfl, hvx3, hbx3⟩
 have HBx3 := Lib.hid (below_next (HBx2.out) hbx3)
 refine hK.out _ _ (HKS31.out _ HBx3.out) ?_
 clear hK K
 intro _
 obtain ⟨bq, Aq, cq, lq, Dq, dq, mq, rfl⟩ := hvx3.shape
 refine run_oneG (i := 25) (by kernel_rfl) rfl (by kernel_rfl) ?_
 intro K hK
 go_simp
 (with_reducible refine (HOR2.out Xx3 _ _ (hvx3) (HRW.out Xx3 (HBx3.out))).mono ?_)
 rintro e Xx4 ⟨rfl, hbx4⟩
 have HBx4 := Lib.hid (below_next (HBx3.out) hbx4)
 refine hK.out _ _ (HKS31.out _ HBx4.out) ?_
 clear hK K
 intro _
 have HS0 := HKS31.out _ (HBx4.out)
 refine wpAnyH_take (i := 26) (v := ?_) rfl (by kernel_rfl) (by kernel_rfl) (by kernel_rfl) (fun _ _ _ h => h) (Or.inl ⟨by kernel_rfl, ?_⟩) HS0 ?_
 rotate_left
 · intro W hW; (try dsimp only at hW); go_simp; try (with_reducible rfl)
 clear HS0
 have HS0 := HKS31.out _ (HBx4.out)
 refine wpAnyH_take (i := 27) (v := ?_) rfl (by kernel_rfl) (by kernel_rfl) (by kernel_rfl) (fun _ _ _ h => h) (Or.inl ⟨by kernel_rfl, ?_⟩) HS0 ?_
 rotate_left
 · intro W hW; (try dsimp only at hW); go_simp; try (with_reducible rfl)
 clear HS0
 have HS0 := HKS31.out _ (HBx4.out)
 refine wpAnyH_take (i := 28) (v := ?_) rfl (by kernel_rfl) (by kernel_rfl) (by kernel_rfl) (fun _ _ _ h => h) (Or.inl ⟨by kernel_rfl, ?_⟩) HS0 ?_
 rotate_left
 · intro W hW; (try dsimp only at hW); go_simp; try (with_reducible rfl)
 clear HS0
 refine wpAnyH_done (by kernel_rfl) ?_ _
 refine NoPanic.normal ?_
 (try go_simp)
 obtain ⟨wx, rfl⟩ : ∃ W : World, W = Xx4 := ⟨_, rfl⟩
 have HBx := Lib.hid (show Below wi.heap.size wi wx from HBx4.out)
 have q3 : wx.cell? ⟨b3, o3 + i * 3, none⟩ = some (.int .i64 p.1) := (HKS31.out _ HBx.out).2.2.2.1
 cases hd with
 | true =>
   have hpos := HNE.out rfl
   have hlen2 : out.length ≤ 2000000 := by have := HLEN.out; omega
   have HOs := Lib.hid (HOI.out.on HBx.out)
   have HQs := HQB
   have HNs := Lib.hid (HBN.out.on HBx.out)
   have HBs := Lib.hid (below_next HBI.out HBx.out)
   go_upto_region 35 with fail
   obtain ⟨q, cap, hov, hq, hnc, hcm, hrow⟩ := HOs.out.row hpos
   have HO8' := HOs.out
   rw [hov] at HO8'
   obtain ⟨x, hx⟩ : ∃ x, (out)[(out).length - 1]? = some x := ⟨_, List.getElem?_eq_getElem (by omega)⟩
   have HSET := Lib.hid (HO8'.setTo hx hpos p.1)
   have hqb := HQs.out q (by rw [hov]; rfl)
   have HN9 := Lib.hid (HNs.out.fr ((Fr.refl (fun b => b = q) wx).setCell (p := ⟨q, ((out).length - 1) * 3 + 2, none⟩) (fun _ => rfl) (.int .i64 p.1)) (fun b h1 h2 e => by rcases hqb with h | h <;> omega))
   have HB9 := Lib.hid (HBs.out.setCell (p := ⟨q, ((out).length - 1) * 3 + 2, none⟩) hq (.int .i64 p.1))
   obtain ⟨-, -, c2⟩ := hrow.at hx
   have f2 := hrow.frozen (((out).length - 1) * 3 + 2)
   obtain ⟨n, hn⟩ : ∃ n, n = (out).length := ⟨_, rfl⟩
   have hlen : n ≤ 2000000 := by rw [hn]; exact hlen2
   have hn0 : (0 : Int) ≤ ((n - 1 : Nat) : Int) := by omega
   have hn1 : ((n - 1 : Nat) : Int) < (n : Int) := by omega
   have hn2 : IntKind.i64.wrap ((n : Int) - 1) = ((n - 1 : Nat) : Int) := by rw [IntWalk.i64_in _ (by omega)]; omega
   have hn3 : n - 1 < n := by omega
   rw [← hn] at hov HSET HN9 HB9 c2 f2
   obtain ⟨n1, hnn⟩ : ∃ z, z = n - 1 := ⟨_, rfl⟩
   rw [← hnn] at hn0 hn1 hn2 hn3 HSET HN9 HB9 c2 f2
   have HQ9 := Lib.hid (show ∀ z, Value.ownBlock (.slice (some ⟨q, 0, none⟩) n cap) = some z → z < lo ∨ W7.heap.size ≤ z from fun z e => by
     simp only [Value.ownBlock, Option.some.injEq] at e
     subst e
     exact hqb)
   subst hov
   clear hrow HO8' hx hn hnn hqb hlen2
   go_wp2
   go_roundw
   case rel => exact ⟨_, i + 1, true, _, rfl, by go_num, rfl, by omega, HNX.out, HSET.out, HQ9.out, HN9.out, HB9.out⟩
   case measure => simp [intOf]; omega
 | false =>
   have hlen := HLEN.out
   have hsz := HBx.out.size
   have hsz2 := HBI.out.size
   have hsz3 := HBN.out.1
   go_wp2_with (at_builtin; refine wpList_append_blk rfl (.tmp 196) (.tmp 204) 53 rfl w2.heap.size 104 ii _ 3 24 Tryz.underlying53 hii hiz0 hiz1 hiz2 rfl (by decide) _ out.length (al3 out) rfl (World.ownsRow.alloc (HOI.out.on HBx.out) _) ⟨wx.heap.size, 0, none⟩ 1 1 [.int .i64 (k : Int), .int .i64 p.1, .int .i64 0] rfl rfl (cell_three_al _ _ _ _ _) (by simp [Value.oneCell']) (by unfold maxLen; omega) (by omega) (by simp; omega) (by decide) ?_)
   intro v' w9 hown9 hgr9 hbk9
   have hb89 : Below wx.heap.size wx (wx.alloc (.cells #[.int .i64 (k : Int), .int .i64 p.1, .int .i64 0] 104)) := (Below.refl _ wx).alloc (Nat.le_refl _) _
   have hqo : ∀ z, ov.ownBlock = some z → z < lo ∨ W7.heap.size ≤ z := HQB.out
   have HOs := Lib.hid (OwA.snoc (x := ((k : Int), p.1, 0)) hown9)
   have HQs := Lib.hid (show ∀ z, v'.ownBlock = some z → z < lo ∨ W7.heap.size ≤ z from fun z e => by
     rcases hbk9 with h | h
     · exact hqo z (h.symm.trans e)
     · rw [h] at e
       simp at e
       omega)
   have HNs := Lib.hid ((HBN.out.on (below_next HBx.out hb89)).fr (Fr.of_grown hgr9) (fun b h1 h2 e => by rcases hqo b e.symm with h | h <;> omega))
   have HBs := Lib.hid (show Below w2.heap.size w2 w9 from (below_next HBI.out (below_next HBx.out hb89)).trans ((Fr.of_grown hgr9).below (B := w2.heap.size) (by simp; omega) (fun z h1 hm => by have := (ownsRow_block (HOI.out.on HBx.out) hm).1; omega)))
   have q4 : w9.cell? ⟨b3, o3 + i * 3, none⟩ = some (.int .i64 p.1) := HPC.out w9 HBs.out
   have hpos : 0 < (out ++ [((k : Int), p.1, (0 : Int))]).length := by simp
   have hlen2 : (out ++ [((k : Int), p.1, (0 : Int))]).length ≤ 2000000 := by simp; omega
   have hst : alStep (k : Int) p.1 (true && true) (false, out) = (true, setTo (out ++ [((k : Int), p.1, (0 : Int))]) p.1) := by
     rw [setTo_snoc]; rfl
   have HNX := Lib.hid (HNX.out.trans hst)
   obtain ⟨o2, ho2⟩ : ∃ z, z = out ++ [((k : Int), p.1, (0 : Int))] := ⟨_, rfl⟩
   rw [← ho2] at HOs HNX hpos hlen2
   clear hown9 hgr9 hbk9 hb89 hqo hst ho2 q3
   go_upto_region 35 with fail
   obtain ⟨q, cap, hov, hq, hnc, hcm, hrow⟩ := HOs.out.row hpos
   have HO8' := HOs.out
   rw [hov] at HO8'
   obtain ⟨x, hx⟩ : ∃ x, (o2)[(o2).length - 1]? = some x := ⟨_, List.getElem?_eq_getElem (by omega)⟩
   have HSET := Lib.hid (HO8'.setTo hx hpos p.1)
   have hqb := HQs.out q (by rw [hov]; rfl)
   have HN9 := Lib.hid (HNs.out.fr ((Fr.refl (fun b => b = q) w9).setCell (p := ⟨q, ((o2).length - 1) * 3 + 2, none⟩) (fun _ => rfl) (.int .i64 p.1)) (fun b h1 h2 e => by rcases hqb with h | h <;> omega))
   have HB9 := Lib.hid (HBs.out.setCell (p := ⟨q, ((o2).length - 1) * 3 + 2, none⟩) hq (.int .i64 p.1))
   obtain ⟨-, -, c2⟩ := hrow.at hx
   have f2 := hrow.frozen (((o2).length - 1) * 3 + 2)
   obtain ⟨n, hn⟩ : ∃ n, n = (o2).length := ⟨_, rfl⟩
   have hlen : n ≤ 2000000 := by rw [hn]; exact hlen2
   have hn0 : (0 : Int) ≤ ((n - 1 : Nat) : Int) := by omega
   have hn1 : ((n - 1 : Nat) : Int) < (n : Int) := by omega
   have hn2 : IntKind.i64.wrap ((n : Int) - 1) = ((n - 1 : Nat) : Int) := by rw [IntWalk.i64_in _ (by omega)]; omega
   have hn3 : n - 1 < n := by omega
   rw [← hn] at hov HSET HN9 HB9 c2 f2
   obtain ⟨n1, hnn⟩ : ∃ z, z = n - 1 := ⟨_, rfl⟩
   rw [← hnn] at hn0 hn1 hn2 hn3 HSET HN9 HB9 c2 f2
   have HQ9 := Lib.hid (show ∀ z, Value.ownBlock (.slice (some ⟨q, 0, none⟩) n cap) = some z → z < lo ∨ W7.heap.size ≤ z from fun z e => by
     simp only [Value.ownBlock, Option.some.injEq] at e
     subst e
     exact hqb)
   subst hov
   clear hrow HO8' hx hn hnn hqb hlen2
   go_wp2
   go_roundw
   case rel => exact ⟨_, i + 1, true, _, rfl, by go_num, rfl, by omega, HNX.out, HSET.out, HQ9.out, HN9.out, HB9.out⟩
   case measure => simp [intOf]; omega
                }
              · have d2 := decide_eq_false c2
                rw [decide_eq_true c1, decide_eq_false c2] at HNX
                go_wp2_with fail
                skip
                {
 refine wp_region_noPanic ?_
 refine wp_region_held_drew (S := (fun X => Below wi.heap.size wi X ∧ X.cell? ⟨w.heap.size, 0, none⟩ = some (.int .i64 g) ∧ X.cell? ⟨w.heap.size, 1, none⟩ = some (.int .i64 o) ∧ X.cell? ⟨b3, o3 + i * 3, none⟩ = some (.int .i64 p.1) ∧ X.cell? ⟨lo, 0, none⟩ = some (.int .i64 r.1) ∧ X.cell? ⟨lo, 1, none⟩ = some (.int .i64 r.2.1) ∧ X.cell? ⟨tb, 0, none⟩ = some (.bool br) ∧ X.cell? ⟨tb, 1, none⟩ = some (.slice Ar lr.length cr) ∧ X.cell? ⟨tb, 2, none⟩ = some (.slice Dr mr.length dr))) (by kernel_rfl) (HKS31.out _ (Below.refl _ wi).drew) (fun HS0 => ?_)
 have hbx0 : Below wi.heap.size wi wi.drew := (Below.refl _ _).drew
 obtain ⟨Xx0, hXx0⟩ : ∃ X, X = wi.drew := ⟨_, rfl⟩
 rw [← hXx0] at hbx0 HS0 ⊢
 have HBx0 := Lib.hid hbx0
 clear hbx0 hXx0
 refine wpAnyH_take (i := 0) (v := ?_) rfl (by kernel_rfl) (by kernel_rfl) (by kernel_rfl) (fun _ _ _ h => h) (Or.inl ⟨by kernel_rfl, ?_⟩) HS0 ?_
 rotate_left
 · intro W hW; (try dsimp only at hW); go_simp; try (with_reducible rfl)
 refine wpAnyH_take (i := 1) (v := ?_) rfl (by kernel_rfl) (by kernel_rfl) (by kernel_rfl) (fun _ _ _ h => h) (Or.inl ⟨by kernel_rfl, ?_⟩) HS0 ?_
 rotate_left
 · intro W hW; (try dsimp only at hW); go_simp; try (with_reducible rfl)
 refine wpAnyH_take (i := 2) (v := ?_) rfl (by kernel_rfl) (by kernel_rfl) (by kernel_rfl) (fun _ _ _ h => h) (Or.inl ⟨by kernel_rfl, ?_⟩) HS0 ?_
 rotate_left
 · intro W hW; (try dsimp only at hW); go_simp; try (with_reducible rfl)
 refine wpAnyH_take (i := 3) (v := ?_) rfl (by kernel_rfl) (by kernel_rfl) (by kernel_rfl) (fun _ _ _ h => h) (Or.inl ⟨by kernel_rfl, ?_⟩) HS0 ?_
 rotate_left
 · intro W hW; (try dsimp only at hW); go_simp; try (with_reducible rfl)
 refine wpAnyH_take (i := 4) (v := ?_) rfl (by kernel_rfl) (by kernel_rfl) (by kernel_rfl) (fun _ _ _ h => h) (Or.inl ⟨by kernel_rfl, ?_⟩) HS0 ?_
 rotate_left
 · intro W hW; (try dsimp only at hW); go_simp; try (with_reducible rfl)
 refine wpAnyH_take (i := 5) (v := ?_) rfl (by kernel_rfl) (by kernel_rfl) (by kernel_rfl) (fun _ _ _ h => h) (Or.inl ⟨by kernel_rfl, ?_⟩) HS0 ?_
 rotate_left
 · intro W hW; (try dsimp only at hW); go_simp; try (with_reducible rfl)
 refine wpAnyH_take (i := 6) (v := ?_) rfl (by kernel_rfl) (by kernel_rfl) (by kernel_rfl) (fun _ _ _ h => h) (Or.inl ⟨by kernel_rfl, ?_⟩) HS0 ?_
 rotate_left
 · intro W hW; (try dsimp only at hW); go_simp; try (with_reducible rfl)
 refine wpAnyH_take (i := 7) (v := ?_) rfl (by kernel_rfl) (by kernel_rfl) (by kernel_rfl) (fun _ _ _ h => h) (Or.inl ⟨by kernel_rfl, ?_⟩) HS0 ?_
 rotate_left
 · intro W hW; (try dsimp only at hW); go_simp; try (with_reducible rfl)
 refine wpAnyH_take (i := 8) (v := ?_) rfl (by kernel_rfl) (by kernel_rfl) (by kernel_rfl) (fun _ _ _ h => h) (Or.inl ⟨by kernel_rfl, ?_⟩) HS0 ?_
 rotate_left
 · intro W hW; (try dsimp only at hW); go_simp; try (with_reducible rfl)
 refine wpAnyH_take (i := 10) (v := ?_) rfl (by kernel_rfl) (by kernel_rfl) (by kernel_rfl) (fun _ _ _ h => h) (Or.inl ⟨by kernel_rfl, ?_⟩) HS0 ?_
 rotate_left
 · intro W hW; (try dsimp only at hW); go_simp; try (with_reducible rfl)
 clear HS0
 refine run_one (i := 9) (by kernel_rfl) rfl rfl ?_
 intro K hK
 go_simp
 (with_reducible refine (HIN1.out Xx0 (HBx0.out)).mono ?_)
 rintro e Xx1 ⟨v1, rfl, hvx1, hbx1⟩
 have HBx1 := Lib.hid (below_next (HBx0.out) hbx1)
 refine hK.out _ _ (HKS31.out _ HBx1.out) ?_
 clear hK K
 intro _
 obtain ⟨bp, Ap, cp, lp, Dp, dp, mp, rfl⟩ := hvx1.shape
 refine run_one (i := 11) (by kernel_rfl) rfl rfl ?_
 intro K hK
 go_simp
 (with_reducible refine (HOR1.out Xx1 _ _ (hvx1) (HRW.out Xx1 (HBx1.out))).mono ?_)
 rintro e Xx2 ⟨rfl, hbx2⟩
 have HBx2 := Lib.hid (below_next (HBx1.out) hbx2)
 refine hK.out _ _ (HKS31.out _ HBx2.out) ?_
 clear hK K
 intro _
 have HS0 := HKS31.out _ (HBx2.out)
 refine wpAnyH_take (i := 12) (v := ?_) rfl (by kernel_rfl) (by kernel_rfl) (by kernel_rfl) (fun _ _ _ h => h) (Or.inl ⟨by kernel_rfl, ?_⟩) HS0 ?_
 rotate_left
 · intro W hW; (try dsimp only at hW); go_simp; try (with_reducible rfl)
 clear HS0
 have HS0 := HKS31.out _ (HBx2.out)
 refine wpAnyH_take (i := 13) (v := ?_) rfl (by kernel_rfl) (by kernel_rfl) (by kernel_rfl) (fun _ _ _ h => h) (Or.inl ⟨by kernel_rfl, ?_⟩) HS0 ?_
 rotate_left
 · intro W hW; (try dsimp only at hW); go_simp; try (with_reducible rfl)
 clear HS0
 have HS0 := HKS31.out _ (HBx2.out)
 refine wpAnyH_take (i := 14) (v := ?_) rfl (by kernel_rfl) (by kernel_rfl) (by kernel_rfl) (fun _ _ _ h => h) (Or.inl ⟨by kernel_rfl, ?_⟩) HS0 ?_
 rotate_left
 · intro W hW; (try dsimp only at hW); go_simp; try (with_reducible rfl)
 clear HS0
 have HS0 := HKS31.out _ (HBx2.out)
 refine wpAnyH_take (i := 15) (v := ?_) rfl (by kernel_rfl) (by kernel_rfl) (by kernel_rfl) (fun _ _ _ h => h) (Or.inl ⟨by kernel_rfl, ?_⟩) HS0 ?_
 rotate_left
 · intro W hW; (try dsimp only at hW); go_simp; try (with_reducible rfl)
 clear HS0
 have HS0 := HKS31.out _ (HBx2.out)
 refine wpAnyH_take (i := 16) (v := ?_) rfl (by kernel_rfl) (by kernel_rfl) (by kernel_rfl) (fun _ _ _ h => h) (Or.inl ⟨by kernel_rfl, ?_⟩) HS0 ?_
 rotate_left
 · intro W hW; (try dsimp only at hW); go_simp; try (with_reducible rfl)
 clear HS0
 have HS0 := HKS31.out _ (HBx2.out)
 refine wpAnyH_take (i := 17) (v := ?_) rfl (by kernel_rfl) (by kernel_rfl) (by kernel_rfl) (fun _ _ _ h => h) (Or.inl ⟨by kernel_rfl, ?_⟩) HS0 ?_
 rotate_left
 · intro W hW; (try dsimp only at hW); go_simp; try (with_reducible rfl)
 clear HS0
 have HS0 := HKS31.out _ (HBx2.out)
 refine wpAnyH_take (i := 18) (v := ?_) rfl (by kernel_rfl) (by kernel_rfl) (by kernel_rfl) (fun _ _ _ h => h) (Or.inl ⟨by kernel_rfl, ?_⟩) HS0 ?_
 rotate_left
 · intro W hW; (try dsimp only at hW); go_simp; try (with_reducible rfl)
 clear HS0
 have HS0 := HKS31.out _ (HBx2.out)
 refine wpAnyH_take (i := 19) (v := ?_) rfl (by kernel_rfl) (by kernel_rfl) (by kernel_rfl) (fun _ _ _ h => h) (Or.inl ⟨by kernel_rfl, ?_⟩) HS0 ?_
 rotate_left
 · intro W hW; (try dsimp only at hW); go_simp; try (with_reducible rfl)
 clear HS0
 have HS0 := HKS31.out _ (HBx2.out)
 refine wpAnyH_take (i := 20) (v := ?_) rfl (by kernel_rfl) (by kernel_rfl) (by kernel_rfl) (fun _ _ _ h => h) (Or.inl ⟨by kernel_rfl, ?_⟩) HS0 ?_
 rotate_left
 · intro W hW; (try dsimp only at hW); go_simp; try (with_reducible rfl)
 clear HS0
 have HS0 := HKS31.out _ (HBx2.out)
 refine wpAnyH_take (i := 21) (v := ?_) rfl (by kernel_rfl) (by kernel_rfl) (by kernel_rfl) (fun _ _ _ h => h) (Or.inl ⟨by kernel_rfl, ?_⟩) HS0 ?_
 rotate_left
 · intro W hW; (try dsimp only at hW); go_simp; try (with_reducible rfl)
 clear HS0
 have HS0 := HKS31.out _ (HBx2.out)
 refine wpAnyH_take (i := 22) (v := ?_) rfl (by kernel_rfl) (by kernel_rfl) (by kernel_rfl) (fun _ _ _ h => h) (Or.inl ⟨by kernel_rfl, ?_⟩) HS0 ?_
 rotate_left
 · intro W hW; (try dsimp only at hW); go_simp; try (with_reducible rfl)
 clear HS0
 have HS0 := HKS31.out _ (HBx2.out)
 refine wpAnyH_take (i := 24) (v := ?_) rfl (by kernel_rfl) (by kernel_rfl) (by kernel_rfl) (fun _ _ _ h => h) (Or.inl ⟨by kernel_rfl, ?_⟩) HS0 ?_
 rotate_left
 · intro W hW; (try dsimp only at hW); go_simp; try (with_reducible rfl)
 clear HS0
 refine run_oneG (i := 23) (by kernel_rfl) rfl (by kernel_rfl) ?_
 intro K hK
 go_simp
 (with_reducible refine (HIN2.out Xx2 (HBx2.out)).mono ?_)
 rintro e Xx3 ⟨v3, rfl, hvx3, hbx3⟩
 have HBx3 := Lib.hid (below_next (HBx2.out) hbx3)
 refine hK.out _ _ (HKS31.out _ HBx3.out) ?_
 clear hK K
 intro _
 obtain ⟨bq, Aq, cq, lq, Dq, dq, mq, rfl⟩ := hvx3.shape
 refine run_oneG (i := 25) (by kernel_rfl) rfl (by kernel_rfl) ?_
 intro K hK
 go_simp
 (with_reducible refine (HOR2.out Xx3 _ _ (hvx3) (HRW.out Xx3 (HBx3.out))).mono ?_)
 rintro e Xx4 ⟨rfl, hbx4⟩
 have HBx4 := Lib.hid (below_next (HBx3.out) hbx4)
 refine hK.out _ _ (HKS31.out _ HBx4.out) ?_
 clear hK K
 intro _
 have HS0 := HKS31.out _ (HBx4.out)
 refine wpAnyH_take (i := 26) (v := ?_) rfl (by kernel_rfl) (by kernel_rfl) (by kernel_rfl) (fun _ _ _ h => h) (Or.inl ⟨by kernel_rfl, ?_⟩) HS0 ?_
 rotate_left
 · intro W hW; (try dsimp only at hW); go_simp; try (with_reducible rfl)
 clear HS0
 have HS0 := HKS31.out _ (HBx4.out)
 refine wpAnyH_take (i := 27) (v := ?_) rfl (by kernel_rfl) (by kernel_rfl) (by kernel_rfl) (fun _ _ _ h => h) (Or.inl ⟨by kernel_rfl, ?_⟩) HS0 ?_
 rotate_left
 · intro W hW; (try dsimp only at hW); go_simp; try (with_reducible rfl)
 clear HS0
 have HS0 := HKS31.out _ (HBx4.out)
 refine wpAnyH_take (i := 28) (v := ?_) rfl (by kernel_rfl) (by kernel_rfl) (by kernel_rfl) (fun _ _ _ h => h) (Or.inl ⟨by kernel_rfl, ?_⟩) HS0 ?_
 rotate_left
 · intro W hW; (try dsimp only at hW); go_simp; try (with_reducible rfl)
 clear HS0
 refine wpAnyH_done (by kernel_rfl) ?_ _
 refine NoPanic.normal ?_
 (try go_simp)
 go_wp2
 go_roundw
 case rel => exact ⟨_, i + 1, false, out, rfl, by go_num, rfl, by omega, HNX.out, HOI.out.on (HBx4.out), HQB.out, HBN.out.on (HBx4.out), below_next HBI.out (HBx4.out)⟩
 case measure => simp [intOf]; omega
                }
            · have d1 := decide_eq_false c1
              rw [decide_eq_false c1] at HNX
              go_wp2_with fail
              skip
              {
 refine wp_region_noPanic ?_
 refine wp_region_held_drew (S := (fun X => Below wi.heap.size wi X ∧ X.cell? ⟨w.heap.size, 0, none⟩ = some (.int .i64 g) ∧ X.cell? ⟨w.heap.size, 1, none⟩ = some (.int .i64 o) ∧ X.cell? ⟨b3, o3 + i * 3, none⟩ = some (.int .i64 p.1) ∧ X.cell? ⟨lo, 0, none⟩ = some (.int .i64 r.1) ∧ X.cell? ⟨lo, 1, none⟩ = some (.int .i64 r.2.1) ∧ X.cell? ⟨tb, 0, none⟩ = some (.bool br) ∧ X.cell? ⟨tb, 1, none⟩ = some (.slice Ar lr.length cr) ∧ X.cell? ⟨tb, 2, none⟩ = some (.slice Dr mr.length dr))) (by kernel_rfl) (HKS31.out _ (Below.refl _ wi).drew) (fun HS0 => ?_)
 have hbx0 : Below wi.heap.size wi wi.drew := (Below.refl _ _).drew
 obtain ⟨Xx0, hXx0⟩ : ∃ X, X = wi.drew := ⟨_, rfl⟩
 rw [← hXx0] at hbx0 HS0 ⊢
 have HBx0 := Lib.hid hbx0
 clear hbx0 hXx0
 refine wpAnyH_take (i := 0) (v := ?_) rfl (by kernel_rfl) (by kernel_rfl) (by kernel_rfl) (fun _ _ _ h => h) (Or.inl ⟨by kernel_rfl, ?_⟩) HS0 ?_
 rotate_left
 · intro W hW; (try dsimp only at hW); go_simp; try (with_reducible rfl)
 refine wpAnyH_take (i := 1) (v := ?_) rfl (by kernel_rfl) (by kernel_rfl) (by kernel_rfl) (fun _ _ _ h => h) (Or.inl ⟨by kernel_rfl, ?_⟩) HS0 ?_
 rotate_left
 · intro W hW; (try dsimp only at hW); go_simp; try (with_reducible rfl)
 refine wpAnyH_take (i := 2) (v := ?_) rfl (by kernel_rfl) (by kernel_rfl) (by kernel_rfl) (fun _ _ _ h => h) (Or.inl ⟨by kernel_rfl, ?_⟩) HS0 ?_
 rotate_left
 · intro W hW; (try dsimp only at hW); go_simp; try (with_reducible rfl)
 refine wpAnyH_take (i := 3) (v := ?_) rfl (by kernel_rfl) (by kernel_rfl) (by kernel_rfl) (fun _ _ _ h => h) (Or.inl ⟨by kernel_rfl, ?_⟩) HS0 ?_
 rotate_left
 · intro W hW; (try dsimp only at hW); go_simp; try (with_reducible rfl)
 refine wpAnyH_take (i := 4) (v := ?_) rfl (by kernel_rfl) (by kernel_rfl) (by kernel_rfl) (fun _ _ _ h => h) (Or.inl ⟨by kernel_rfl, ?_⟩) HS0 ?_
 rotate_left
 · intro W hW; (try dsimp only at hW); go_simp; try (with_reducible rfl)
 refine wpAnyH_take (i := 5) (v := ?_) rfl (by kernel_rfl) (by kernel_rfl) (by kernel_rfl) (fun _ _ _ h => h) (Or.inl ⟨by kernel_rfl, ?_⟩) HS0 ?_
 rotate_left
 · intro W hW; (try dsimp only at hW); go_simp; try (with_reducible rfl)
 refine wpAnyH_take (i := 6) (v := ?_) rfl (by kernel_rfl) (by kernel_rfl) (by kernel_rfl) (fun _ _ _ h => h) (Or.inl ⟨by kernel_rfl, ?_⟩) HS0 ?_
 rotate_left
 · intro W hW; (try dsimp only at hW); go_simp; try (with_reducible rfl)
 refine wpAnyH_take (i := 7) (v := ?_) rfl (by kernel_rfl) (by kernel_rfl) (by kernel_rfl) (fun _ _ _ h => h) (Or.inl ⟨by kernel_rfl, ?_⟩) HS0 ?_
 rotate_left
 · intro W hW; (try dsimp only at hW); go_simp; try (with_reducible rfl)
 refine wpAnyH_take (i := 8) (v := ?_) rfl (by kernel_rfl) (by kernel_rfl) (by kernel_rfl) (fun _ _ _ h => h) (Or.inl ⟨by kernel_rfl, ?_⟩) HS0 ?_
 rotate_left
 · intro W hW; (try dsimp only at hW); go_simp; try (with_reducible rfl)
 refine wpAnyH_take (i := 10) (v := ?_) rfl (by kernel_rfl) (by kernel_rfl) (by kernel_rfl) (fun _ _ _ h => h) (Or.inl ⟨by kernel_rfl, ?_⟩) HS0 ?_
 rotate_left
 · intro W hW; (try dsimp only at hW); go_simp; try (with_reducible rfl)
 clear HS0
 refine run_one (i := 9) (by kernel_rfl) rfl rfl ?_
 intro K hK
 go_simp
 (with_reducible refine (HIN1.out Xx0 (HBx0.out)).mono ?_)
 rintro e Xx1 ⟨v1, rfl, hvx1, hbx1⟩
 have HBx1 := Lib.hid (below_next (HBx0.out) hbx1)
 refine hK.out _ _ (HKS31.out _ HBx1.out) ?_
 clear hK K
 intro _
 obtain ⟨bp, Ap, cp, lp, Dp, dp, mp, rfl⟩ := hvx1.shape
 refine run_one (i := 11) (by kernel_rfl) rfl rfl ?_
 intro K hK
 go_simp
 (with_reducible refine (HOR1.out Xx1 _ _ (hvx1) (HRW.out Xx1 (HBx1.out))).mono ?_)
 rintro e Xx2 ⟨rfl, hbx2⟩
 have HBx2 := Lib.hid (below_next (HBx1.out) hbx2)
 refine hK.out _ _ (HKS31.out _ HBx2.out) ?_
 clear hK K
 intro _
 have HS0 := HKS31.out _ (HBx2.out)
 refine wpAnyH_take (i := 12) (v := ?_) rfl (by kernel_rfl) (by kernel_rfl) (by kernel_rfl) (fun _ _ _ h => h) (Or.inl ⟨by kernel_rfl, ?_⟩) HS0 ?_
 rotate_left
 · intro W hW; (try dsimp only at hW); go_simp; try (with_reducible rfl)
 clear HS0
 have HS0 := HKS31.out _ (HBx2.out)
 refine wpAnyH_take (i := 13) (v := ?_) rfl (by kernel_rfl) (by kernel_rfl) (by kernel_rfl) (fun _ _ _ h => h) (Or.inl ⟨by kernel_rfl, ?_⟩) HS0 ?_
 rotate_left
 · intro W hW; (try dsimp only at hW); go_simp; try (with_reducible rfl)
 clear HS0
 have HS0 := HKS31.out _ (HBx2.out)
 refine wpAnyH_take (i := 14) (v := undef) rfl (by kernel_rfl) (by kernel_rfl) (by kernel_rfl) (fun _ _ _ h => h) (Or.inr ⟨by kernel_rfl, rfl⟩) HS0 ?_
 clear HS0
 have HS0 := HKS31.out _ (HBx2.out)
 refine wpAnyH_take (i := 15) (v := undef) rfl (by kernel_rfl) (by kernel_rfl) (by kernel_rfl) (fun _ _ _ h => h) (Or.inr ⟨by kernel_rfl, rfl⟩) HS0 ?_
 clear HS0
 have HS0 := HKS31.out _ (HBx2.out)
 refine wpAnyH_take (i := 16) (v := undef) rfl (by kernel_rfl) (by kernel_rfl) (by kernel_rfl) (fun _ _ _ h => h) (Or.inr ⟨by kernel_rfl, rfl⟩) HS0 ?_
 clear HS0
 have HS0 := HKS31.out _ (HBx2.out)
 refine wpAnyH_take (i := 17) (v := undef) rfl (by kernel_rfl) (by kernel_rfl) (by kernel_rfl) (fun _ _ _ h => h) (Or.inr ⟨by kernel_rfl, rfl⟩) HS0 ?_
 clear HS0
 have HS0 := HKS31.out _ (HBx2.out)
 refine wpAnyH_take (i := 18) (v := undef) rfl (by kernel_rfl) (by kernel_rfl) (by kernel_rfl) (fun _ _ _ h => h) (Or.inr ⟨by kernel_rfl, rfl⟩) HS0 ?_
 clear HS0
 have HS0 := HKS31.out _ (HBx2.out)
 refine wpAnyH_take (i := 19) (v := undef) rfl (by kernel_rfl) (by kernel_rfl) (by kernel_rfl) (fun _ _ _ h => h) (Or.inr ⟨by kernel_rfl, rfl⟩) HS0 ?_
 clear HS0
 have HS0 := HKS31.out _ (HBx2.out)
 refine wpAnyH_take (i := 20) (v := undef) rfl (by kernel_rfl) (by kernel_rfl) (by kernel_rfl) (fun _ _ _ h => h) (Or.inr ⟨by kernel_rfl, rfl⟩) HS0 ?_
 clear HS0
 have HS0 := HKS31.out _ (HBx2.out)
 refine wpAnyH_take (i := 21) (v := undef) rfl (by kernel_rfl) (by kernel_rfl) (by kernel_rfl) (fun _ _ _ h => h) (Or.inr ⟨by kernel_rfl, rfl⟩) HS0 ?_
 clear HS0
 have HS0 := HKS31.out _ (HBx2.out)
 refine wpAnyH_take (i := 22) (v := undef) rfl (by kernel_rfl) (by kernel_rfl) (by kernel_rfl) (fun _ _ _ h => h) (Or.inr ⟨by kernel_rfl, rfl⟩) HS0 ?_
 clear HS0
 have HS0 := HKS31.out _ (HBx2.out)
 refine wpAnyH_take (i := 23) (v := undef) rfl (by kernel_rfl) (by kernel_rfl) (by kernel_rfl) (fun _ _ _ h => h) (Or.inr ⟨by kernel_rfl, rfl⟩) HS0 ?_
 clear HS0
 have HS0 := HKS31.out _ (HBx2.out)
 refine wpAnyH_take (i := 24) (v := undef) rfl (by kernel_rfl) (by kernel_rfl) (by kernel_rfl) (fun _ _ _ h => h) (Or.inr ⟨by kernel_rfl, rfl⟩) HS0 ?_
 clear HS0
 have HS0 := HKS31.out _ (HBx2.out)
 refine wpAnyH_take (i := 25) (v := undef) rfl (by kernel_rfl) (by kernel_rfl) (by kernel_rfl) (fun _ _ _ h => h) (Or.inr ⟨by kernel_rfl, rfl⟩) HS0 ?_
 clear HS0
 have HS0 := HKS31.out _ (HBx2.out)
 refine wpAnyH_take (i := 26) (v := undef) rfl (by kernel_rfl) (by kernel_rfl) (by kernel_rfl) (fun _ _ _ h => h) (Or.inr ⟨by kernel_rfl, rfl⟩) HS0 ?_
 clear HS0
 have HS0 := HKS31.out _ (HBx2.out)
 refine wpAnyH_take (i := 27) (v := ?_) rfl (by kernel_rfl) (by kernel_rfl) (by kernel_rfl) (fun _ _ _ h => h) (Or.inl ⟨by kernel_rfl, ?_⟩) HS0 ?_
 rotate_left
 · intro W hW; (try dsimp only at hW); go_simp; try (with_reducible rfl)
 clear HS0
 have HS0 := HKS31.out _ (HBx2.out)
 refine wpAnyH_take (i := 28) (v := ?_) rfl (by kernel_rfl) (by kernel_rfl) (by kernel_rfl) (fun _ _ _ h => h) (Or.inl ⟨by kernel_rfl, ?_⟩) HS0 ?_
 rotate_left
 · intro W hW; (try dsimp only at hW); go_simp; try (with_reducible rfl)
 clear HS0
 refine wpAnyH_done (by kernel_rfl) ?_ _
 refine NoPanic.normal ?_
 (try go_simp)
 go_wp2
 go_roundw
 case rel => exact ⟨_, i + 1, false, out, rfl, by go_num, rfl, by omega, HNX.out, HOI.out.on (HBx2.out), HQB.out, HBN.out.on (HBx2.out), below_next HBI.out (HBx2.out)⟩
 case measure => simp [intOf]; omega
              }
          · obtain rfl : i = l.length := by omega
            have hiz : ¬ ((l.length : Nat) : Int) < (l.length : Int) := by omega
            have HS2 := Lib.hid (show alRus g o l rs (k + 1) = out by rw [HSTEP.out, HST.out])
            go_wp2
            go_roundw
            case rel => exact ⟨_, k + 1, rfl, by go_num, by omega, by rw [HS2.out]; exact HOI.out, HBI.out⟩
            case measure => simp [intOf]; omega
      · obtain rfl : k = rs.length := by omega
        have hkz : ¬ ((rs.length : Nat) : Int) < (rs.length : Int) := by omega
        go_wp2
        go_meet
        exact ⟨_, rfl, HOW.out, HBK.out⟩
  case rest =>
    obtain ⟨ov, rfl, how, hbw⟩ := hcut
    have hdn := AlDone.rus (g := g) (o := o) (rs := rs) HOP.out rs.length (Nat.le_refl _)
    refine at_K (P := Tryz.prog) (code := ?tailC) (Q := ?tailQ) ?tailK ?tailW
    case tailK => assumption
    exact ralS_any ov (alRus g o l rs rs.length) V w wc w2.heap.size HVZ.out (hdn.okA (by omega)) (by have := hdn.len; omega) how HB2.out.size (below_next HB2.out hbw) _ _ _ _ _ _ _ _ _ _ _ _ _ _ _ _ _ _ _ _ _ _ _ _ _ _ _ _ _ _ _ _ _ _ _ _ _ _ _ _ _ _ _ _ _ _ _ _ _ _ _ _ _ _ _ _ _ _ _ _ _ _ _ _ _ _ _ _ _ _ _ _ _ _ _ _ _ _ _ _ _ _ _ _ _ _ _ _ _ _ _ _ _ _ _ _ _ _ _ _ _ _ _ _ _ _ _ _ _ _ _ _ _ _ _ _ _ _ _ _ _ _ _ _ _ _ _ _ _ _ _ _ _ _ _ _ _ _ _ _ _ _ _ _ _ _ _ _ _ _ _ _ _ _ _ _ _ _ _ _ _ _ _ _ _ _ _ _ _ _ _ _ _ _ _ _ _ _ _ _ _ _ _ _ _ _ _ _ _ _ _ _ _ _ _ _ _ _ _ _ _ _ _ _ _ _ _ _ _ _ _ _ _ _ _ _ _ _ _ _ _ _ _ _ _ _ _ _ _ _ _ _ _ _ _ _ _ _ _ _ _ _ _ _ _ _ _ _ _ _ _ _ _ _ _ _ _ _ _ _ _ _ _ _ _ _ _ _ _ _ _ _ _ _ _ _ _ _ _ _ _ _ _ _ _ _ _ _
end Go.Proofs.YtnpfdelklolchaaGreatDoor
