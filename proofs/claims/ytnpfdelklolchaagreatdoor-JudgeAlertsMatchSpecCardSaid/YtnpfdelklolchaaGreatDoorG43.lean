import Derived.Test.YtnpfdelklolchaaGreatDoorG32
import Derived.Test.YtnpfdelklolchaaGreatDoorG41
import Derived.Test.YtnpfdelklolchaaGreatDoorG42
import Derived.Deep.DeepCutAuto
import Derived.Test.YtnpfdelklolchaaGreatDoorG1
import Derived.Test.YtnpfdelklolchaaGreatDoorG29
/- judge.Alerts. -/
namespace Go.Proofs.YtnpfdelklolchaaGreatDoor
open Go Go.RowKit Go.Proofs

set_option maxHeartbeats 8000000 in
set_option maxRecDepth 100000 in
theorem jAlerts_any (g o : Int) (A B : Option Addr) (c d : Nat) (l : List Pt) (rs : List Ru) (w : World) (hr : Rd w 0 w.heap.size 3 A l.length (al3 l)) (hr2 : Rd w 0 w.heap.size 4 B rs.length (ru4 rs)) (hl : l.length ≤ 9223372036854775807) (hl2 : rs.length ≤ 9223372036854775807) :
    Calls Tryz.prog 19 #[.agg #[.int .i64 g, .int .i64 o], .slice A l.length c, .slice B rs.length d] w (AlPost g o l rs w) := by
  unfold AlPost
  have HR := Lib.hid hr
  have HR2 := Lib.hid hr2
  obtain ⟨W0, hW0⟩ : ∃ W0, W0 = w.alloc (.cells #[.int .i64 g, .int .i64 o] 48) := ⟨_, rfl⟩
  have HB0 := Lib.hid (show Below w.heap.size w W0 by rw [hW0]; exact (Below.refl _ w).alloc (Nat.le_refl _) _)
  have HX0 := Lib.hid (show W0.heap[w.heap.size]? = some (.cells #[.int .i64 g, .int .i64 o] 48 (0, 0)) by rw [hW0]; exact alloc_at _ _ _ rfl)
  have HJ := Lib.hid (jObj_any g o W0)
  have HCH := Lib.hid (fun W (hW : Below w.heap.size w W) => jChkAl_any A B c d l rs W (HR.out.old hW) (HR2.out.old hW) hl hl2)
  obtain ⟨kg, kg2⟩ : W0.cell? ⟨w.heap.size, 0, none⟩ = some (.int .i64 g) ∧ W0.cell? ⟨w.heap.size, 1, none⟩ = some (.int .i64 o) := obj_cells HX0.out
  rw [hW0] at kg kg2
  clear hr hr2
  by_cases hok : OkO g o
  · have hco : codeAl g o l rs = codeA l rs := if_pos hok
    have hcz : cdO g o = 0 := if_pos hok
    rw [hco]
    rw [hcz] at HJ
    have HOK := Lib.hid hok
    obtain ⟨V, hV⟩ : ∃ V, V = codeA l rs := ⟨_, rfl⟩
    rw [← hV] at HCH ⊢
    have HV := Lib.hid hV
    clear hco hcz hok hV
    by_cases hc : V = 0
    · have hne : (V != 0) = false := by rw [hc]; rfl
      obtain ⟨hop, hor⟩ := codeA_zero (HV.out.symm.trans hc)
      have HOP := Lib.hid hop
      have HOR := Lib.hid hor
      have hle := hop.le
      have hle2 := hor.le
      obtain ⟨ii, hii, hiz0, hiz1, hiz2⟩ := info_parts infoAl
      clear hop hor
      go_enter Tryz.func19, Tryz.ntmps19
      go_wp2_with fail
      rw [← hW0]
      rw [← hW0] at kg kg2
      clear hW0
      (with_reducible refine (HJ.out).mono ?_)
      rintro e w1 ⟨rfl, hb1⟩
      have HB1 := Lib.hid (below_next HB0.out hb1)
      have HX1 := Lib.hid ((hb1.block _ (heap_lt HX0.out)).trans HX0.out)
      clear hb1 kg kg2
      go_wp2_with fail
      (with_reducible refine (HCH.out w1 HB1.out).mono ?_)
      rintro e w2 ⟨rfl, hb2⟩
      have HB2 := Lib.hid (below_next HB1.out hb2)
      have HX2 := Lib.hid ((hb2.block _ (heap_lt HX1.out)).trans HX1.out)
      clear hb2
      go_wp2_with fail
      go_loopw [10, 30] (fun ov kv wr => ∃ k : Nat, kv = .int .i64 (k : Int) ∧ k ≤ rs.length ∧ OwA wr w2.heap.size ov (alRus g o l rs k) ∧ Below w2.heap.size w2 wr) (fun _ kv _ => rs.length - (intOf kv).toNat)
      case atStart => exact ⟨0, rfl, Nat.zero_le _, OwA.nil _ _, Below.refl _ _⟩
      case round =>
        obtain ⟨k, rfl, hk, hown, hbw⟩ := hrel
        obtain ⟨wk, rfl⟩ : ∃ W : World, W = wr := ⟨_, rfl⟩
        have HOW := Lib.hid hown
        have HBK := Lib.hid hbw
        have HDN := Lib.hid (AlDone.rus (g := g) (o := o) (rs := rs) HOP.out k hk)
        clear hown hbw
        by_cases hlt : k < rs.length
        · obtain ⟨b2, o2, r, rfl, -, -, hrr, t0, t1, t2, t3⟩ := (HR2.out.old (below_next HB2.out HBK.out)).atR hlt
          have hkz : (k : Int) < (rs.length : Int) := by omega
          have HRU := Lib.hid (HOR.out.ok k r hrr)
          have HSTEP := Lib.hid (alRus_step (g := g) (o := o) (l := l) hrr)
          have HIN := Lib.hid (AlInv.pts HOP.out (Int.natCast_nonneg k) (hld g o l r) HDN.out)
          obtain ⟨s0, hs0⟩ : ∃ z, z = alRus g o l rs k := ⟨_, rfl⟩
          rw [← hs0] at HOW HSTEP HIN
          obtain ⟨W5, hW5⟩ : ∃ W, W = wk.alloc (.cells #[.int .i64 r.1, .int .i64 r.2.1, .int .i64 r.2.2.1, .int .i64 r.2.2.2] 99) := ⟨_, rfl⟩
          obtain ⟨rb, hrb⟩ : ∃ b, b = wk.heap.size := ⟨_, rfl⟩
          have HRB0 := Lib.hid (show W5.heap[rb]? = some (.cells #[.int .i64 r.1, .int .i64 r.2.1, .int .i64 r.2.2.1, .int .i64 r.2.2.2] 99 (0, 0)) by rw [hW5, hrb]; exact alloc_at _ _ _ rfl)
          have hb5 : Below wk.heap.size wk W5 := by rw [hW5]; exact (Below.refl _ wk).alloc (Nat.le_refl _) _
          have HB5 := Lib.hid (below_next HBK.out hb5)
          have HOW5 := Lib.hid (HOW.out.on hb5)
          clear hb5 hrr hs0
          go_wp2_with fail
          rw [← hW5, ← hrb]
          clear hW5 hrb t0 t1 t2 t3
          go_loopw [10, 13, 37] (fun ov hv iv wr => ∃ (i : Nat) (hd : Bool) (out : List Al), iv = .int .i64 (i : Int) ∧ hv = .bool hd ∧ i ≤ l.length ∧ alPts (k : Int) l (hld g o l r) s0 i = (hd, out) ∧ OwA wr w2.heap.size ov out ∧ wr.heap[rb]? = some (.cells #[.int .i64 r.1, .int .i64 r.2.1, .int .i64 r.2.2.1, .int .i64 r.2.2.2] 99 (0, 0)) ∧ Below w2.heap.size w2 wr) (fun _ _ iv _ => l.length - (intOf iv).toNat)
          case atStart => exact ⟨0, false, s0, rfl, rfl, Nat.zero_le _, rfl, HOW5.out, HRB0.out, HB5.out⟩
          case round =>
            obtain ⟨i, hd, out, rfl, rfl, hi, hst, hown, hrb, hbw⟩ := hrel
            obtain ⟨wi, rfl⟩ : ∃ W : World, W = wr := ⟨_, rfl⟩
            have HST := Lib.hid hst
            have HOI := Lib.hid hown
            have HRB := Lib.hid hrb
            have HBI := Lib.hid hbw
            have hbI := HIN.out i hi
            rw [hst] at hbI
            have HLEN := Lib.hid (show out.length ≤ 1000000 by have := hbI.len; simp only at this; omega)
            have HNE := Lib.hid (show hd = true → 0 < out.length from hbI.ne)
            clear hst hown hrb hbw hbI HOW HOW5 HB5 HRB0
            by_cases hil : i < l.length
            · obtain ⟨b3, o3, p, rfl, -, -, hp, q0, q1, q2⟩ := (HR.out.old (below_next HB2.out HBI.out)).atP hil
              have hiz : (i : Int) < (l.length : Int) := by omega
              have HNX := Lib.hid ((alPts_step (k := (k : Int)) (b := hld g o l r) (s := s0) hp).trans (by rw [HST.out]))
              have HPB := Lib.hid hp
              have HBU := Lib.hid (fun (t : Int) W (hW : Below w.heap.size w W) (h0 : 0 ≤ t) (h1 : t ≤ 1000000000000) => jBurns_any g o (some ⟨b3, o3, none⟩) c l i t r W (HR.out.old hW) HOP.out HOK.out ⟨p, HPB.out⟩ h0 h1 HRU.out)
              have HLIM := Lib.hid (show (0 ≤ r.1 ∧ r.1 ≤ 1000000000000) ∧ (0 ≤ r.2.1 ∧ r.2.1 ≤ 1000000000000) by have h := HRU.out; unfold OkRu at h; omega)
              obtain ⟨W6, hW6⟩ : ∃ W, W = wi.alloc (.cells #[.int .i64 p.1, .int .i64 p.2.1, .int .i64 p.2.2] 101) := ⟨_, rfl⟩
              obtain ⟨pb, hpb⟩ : ∃ b, b = wi.heap.size := ⟨_, rfl⟩
              have hb6 : Below wi.heap.size wi W6 := by rw [hW6]; exact (Below.refl _ wi).alloc (Nat.le_refl _) _
              have HPX := Lib.hid (show W6.heap[pb]? = some (.cells #[.int .i64 p.1, .int .i64 p.2.1, .int .i64 p.2.2] 101 (0, 0)) by rw [hW6, hpb]; exact alloc_at _ _ _ rfl)
              have HB6 := Lib.hid (below_next HBI.out hb6)
              have HX6 := Lib.hid ((HB6.out.block _ (heap_lt HX2.out)).trans HX2.out)
              have HR6 := Lib.hid ((hb6.block _ (heap_lt HRB.out)).trans HRB.out)
              have HO6 := Lib.hid (HOI.out.on hb6)
              obtain ⟨x0, x1⟩ := obj_cells HX6.out
              obtain ⟨r0, r1, r2, r3⟩ := ru_cells HR6.out
              rw [hW6] at x0 x1 r0 r1 r2 r3
              obtain ⟨v1, hv1⟩ : ∃ z, z = brnAt g o l i r.1 r.2.2.1 r.2.2.2 := ⟨_, rfl⟩
              obtain ⟨v2, hv2⟩ : ∃ z, z = brnAt g o l i r.2.1 r.2.2.1 r.2.2.2 := ⟨_, rfl⟩
              have hbr1 := HBU.out r.1 W6 (below_next HB2.out HB6.out) HLIM.out.1.1 HLIM.out.1.2
              have HBU2 := Lib.hid (fun W hW => HBU.out r.2.1 W hW HLIM.out.2.1 HLIM.out.2.2)
              rw [← hv1] at hbr1
              rw [← hv2] at HBU2
              have hhl : hld g o l r i = (v1 && v2) := by unfold hld; rw [← hv1, ← hv2]
              rw [hhl] at HNX
              have HBR1 := Lib.hid hbr1
              clear hb6 hp hv1 hv2 hbr1 hhl
              go_wp2_with fail
              rw [← hW6, ← hpb]
              rw [← hW6] at x0 x1 r0 r1 r2 r3
              clear hW6 hpb
              (with_reducible refine (HBR1.out).mono ?_)
              rintro e w7 ⟨rfl, hb7⟩
              have HB7 := Lib.hid (below_next HB6.out hb7)
              have HX7 := Lib.hid ((hb7.block _ (heap_lt HX6.out)).trans HX6.out)
              have HR7 := Lib.hid ((hb7.block _ (heap_lt HR6.out)).trans HR6.out)
              have HP7 := Lib.hid ((hb7.block _ (heap_lt HPX.out)).trans HPX.out)
              have HO7 := Lib.hid (HO6.out.on hb7)
              clear hb7 x0 x1 r0 r1 r2 r3
              cases v1 with
              | false =>
                go_wp2
                go_roundw
                case rel => exact ⟨i + 1, false, out, by go_num, rfl, by omega, HNX.out, HO7.out, HR7.out, HB7.out⟩
                case measure => simp [intOf]; omega
              | true =>
                obtain ⟨x0, x1⟩ := obj_cells HX7.out
                obtain ⟨r0, r1, r2, r3⟩ := ru_cells HR7.out
                go_wp2_with fail
                (with_reducible refine (HBU2.out w7 (below_next HB2.out HB7.out)).mono ?_)
                rintro e w8 ⟨rfl, hb8⟩
                have HB8 := Lib.hid (below_next HB7.out hb8)
                have HR8 := Lib.hid ((hb8.block _ (heap_lt HR7.out)).trans HR7.out)
                have HP8 := Lib.hid ((hb8.block _ (heap_lt HP7.out)).trans HP7.out)
                have HO8 := Lib.hid (HO7.out.on hb8)
                clear hb8 x0 x1 r0 r1 r2 r3
                cases v2 with
                | false =>
                  go_wp2
                  go_roundw
                  case rel => exact ⟨i + 1, false, out, by go_num, rfl, by omega, HNX.out, HO8.out, HR8.out, HB8.out⟩
                  case measure => simp [intOf]; omega
                | true =>
                  have p0 := pt_cells HP8.out
                  cases hd with
                  | true =>
                    have hpos := HNE.out rfl
                    obtain ⟨q, cap, hov, hq, hnc, hcm, hrow⟩ := HO8.out.row hpos
                    have HO8' := HO8.out
                    rw [hov] at HO8'
                    obtain ⟨x, hx⟩ : ∃ x, out[out.length - 1]? = some x := ⟨_, List.getElem?_eq_getElem (by omega)⟩
                    have HSET := Lib.hid (HO8'.setTo hx hpos p.1)
                    have hqne : q ≠ rb := fun e => HO8'.ne HR8.out (by decide) (by rw [e]; rfl)
                    have HR9 := Lib.hid (set_keep (q := q) (j := (out.length - 1) * 3 + 2) (u := .int .i64 p.1) HR8.out hqne)
                    have HB9 := Lib.hid (HB8.out.setCell (p := ⟨q, (out.length - 1) * 3 + 2, none⟩) hq (.int .i64 p.1))
                    obtain ⟨-, -, c2⟩ := hrow.at hx
                    have f2 := hrow.frozen ((out.length - 1) * 3 + 2)
                    obtain ⟨n, hn⟩ : ∃ n, n = out.length := ⟨_, rfl⟩
                    have hn0 : (0 : Int) ≤ ((n - 1 : Nat) : Int) := by omega
                    have hn1 : ((n - 1 : Nat) : Int) < (n : Int) := by omega
                    have hlen := HLEN.out
                    have hn2 : IntKind.i64.wrap ((n : Int) - 1) = ((n - 1 : Nat) : Int) := by rw [IntWalk.i64_in _ (by omega)]; omega
                    have hn3 : n - 1 < n := by omega
                    rw [← hn] at hov HSET HR9 HB9 c2 f2
                    obtain ⟨n1, hnn⟩ : ∃ z, z = n - 1 := ⟨_, rfl⟩
                    rw [← hnn] at hn0 hn1 hn2 hn3 HSET HR9 HB9 c2 f2
                    subst hov
                    clear hrow HO8' hx hn hnn
                    go_wp2
                    go_roundw
                    case rel => exact ⟨i + 1, true, _, by go_num, rfl, by omega, HNX.out, HSET.out, HR9.out, HB9.out⟩
                    case measure => simp [intOf]; omega
                  | false =>
                    have hlen := HLEN.out
                    have hsz := HB8.out.size
                    go_wp2_with (at_builtin; refine wpList_append_own _ rfl (.tmp 73) (.tmp 80) 53 rfl w2.heap.size 104 ii _ 3 24 Tryz.underlying53 hii hiz0 hiz1 hiz2 rfl (by decide) _ out.length (al3 out) rfl (World.ownsRow.alloc HO8.out _) ⟨w8.heap.size, 0, none⟩ 1 1 [.int .i64 (k : Int), .int .i64 p.1, .int .i64 p.1] rfl rfl (cell_three_al _ _ _ _ _) (by simp [Value.oneCell']) (by unfold maxLen; omega) (by omega) (by simp; omega) ?_)
                    intro v' w9 hown9 hgr9 _
                    have hb89 : Below w8.heap.size w8 (w8.alloc (.cells #[.int .i64 (k : Int), .int .i64 p.1, .int .i64 p.1] 104)) := (Below.refl _ w8).alloc (Nat.le_refl _) _
                    have HB9 := Lib.hid (show Below w2.heap.size w2 w9 from (below_next HB8.out hb89).trans ((Fr.of_grown hgr9).below (B := w2.heap.size) (by simp; omega) (fun i hi hm => by have := (ownsRow_block HO8.out hm).1; omega)))
                    have HR9 := Lib.hid (grown_keep hgr9 ((hb89.block _ (heap_lt HR8.out)).trans HR8.out) (HO8.out.ne HR8.out (by decide)))
                    have HO9 := Lib.hid (OwA.snoc (x := ((k : Int), p.1, p.1)) hown9)
                    clear hown9 hgr9 hb89
                    go_wp2
                    go_roundw
                    case rel => exact ⟨i + 1, true, _, by go_num, rfl, by omega, HNX.out, HO9.out, HR9.out, HB9.out⟩
                    case measure => simp [intOf]; omega
            · obtain rfl : i = l.length := by omega
              have hiz : ¬ ((l.length : Nat) : Int) < (l.length : Int) := by omega
              have HS2 := Lib.hid (show alRus g o l rs (k + 1) = out by rw [HSTEP.out, HST.out])
              go_wp2
              go_roundw
              case rel => exact ⟨k + 1, by go_num, by omega, by rw [HS2.out]; exact HOI.out, HBI.out⟩
              case measure => simp [intOf]; omega
        · obtain rfl : k = rs.length := by omega
          have hkz : ¬ ((rs.length : Nat) : Int) < (rs.length : Int) := by omega
          obtain ⟨out, hout⟩ : ∃ z, z = alRus g o l rs rs.length := ⟨_, rfl⟩
          rw [← hout] at HOW HDN
          have HOUT := Lib.hid hout
          have HOKA := Lib.hid (HDN.out.okA (by omega))
          have HLEN := Lib.hid (show out.length ≤ 1000000 by have := HDN.out.len; omega)
          have HBF := Lib.hid (below_next HB2.out HBK.out)
          have HVZ := Lib.hid hc
          clear hout
          rcases HOW.out.2 with ⟨rfl, h0⟩ | ⟨q, cap, cur, rfl, hq, hh, hnc, hcm, hsz, htk⟩
          · obtain rfl : out = [] := List.eq_nil_of_length_eq_zero h0
            have HSN := Lib.hid (fun W => stSort_nil W)
            have HCL := Lib.hid (fun W => clipAl_any none 0 0 W (Nat.le_refl _))
            go_wp2_with fail
            (with_reducible refine (HSN.out wk).mono ?_)
            rintro e w9 ⟨rfl, hb9⟩
            have HB9 := Lib.hid (below_next HBF.out hb9)
            clear hb9
            go_wp2_with fail
            (with_reducible refine (HCL.out w9).mono ?_)
            rintro e w10 ⟨rfl, rfl⟩
            go_wp2
            go_ret2
            exact .inr ⟨HVZ.out, none, 0, [], by rfl, .inl ⟨rfl, rfl⟩, by rw [← HOUT.out], SrtOn.empty _ (by simp), HB9.out⟩
          · have HRW := Lib.hid (show RowA wk q out from ⟨cur, hh, by omega, htk⟩)
            have HSS := Lib.hid (sortStable_any q cap out.length out wk HRW.out rfl HLEN.out HOKA.out)
            have HCL := Lib.hid (fun W => clipAl_any (some ⟨q, 0, none⟩) out.length cap W hnc)
            have hwq : w.heap.size ≤ q := Nat.le_trans HB2.out.size hq
            clear hh hcm hsz htk
            go_wp2_with fail
            (with_reducible refine (HSS.out).mono ?_)
            rintro e w9 ⟨rfl, l', hr9, hp9, hs9, hf9⟩
            have HR9 := Lib.hid hr9
            have HP9 := Lib.hid hp9
            have HS9 := Lib.hid (show SrtOn ltA l' 0 l'.length by rw [← hp9.length_eq]; exact hs9)
            have HL9 := Lib.hid hp9.length_eq
            have HB9 := Lib.hid (HBF.out.trans (Fr.below hf9 (B := w.heap.size) HBF.out.size (fun i hi hm => by omega)))
            clear hr9 hp9 hs9 hf9
            go_wp2_with fail
            (with_reducible refine (HCL.out w9).mono ?_)
            rintro e w10 ⟨rfl, rfl⟩
            go_wp2
            go_ret2
            exact .inr ⟨HVZ.out, some ⟨q, 0, none⟩, out.length, l', by rw [HL9.out]; rfl, .inr ⟨q, rfl, hwq, HR9.out⟩, by rw [← HOUT.out]; exact HP9.out, HS9.out, HB9.out⟩
    · have hne : (V != 0) = true := by rw [bne_iff_ne]; exact hc
      go_enter Tryz.func19, Tryz.ntmps19
      go_wp2_with fail
      rw [← hW0]
      clear hW0 kg kg2
      (with_reducible refine (HJ.out).mono ?_)
      rintro e w1 ⟨rfl, hb1⟩
      have HB1 := Lib.hid (below_next HB0.out hb1)
      clear hb1
      go_wp2_with fail
      (with_reducible refine (HCH.out w1 HB1.out).mono ?_)
      rintro e w2 ⟨rfl, hb2⟩
      have HB2 := Lib.hid (below_next HB1.out hb2)
      clear hb2
      go_wp2
      go_ret2
      exact .inl ⟨hc, by rfl, HB2.out⟩
  · have hco : codeAl g o l rs = 9 := if_neg hok
    have hcz : cdO g o = 9 := if_neg hok
    rw [hco]
    rw [hcz] at HJ
    clear hco hcz hok
    go_enter Tryz.func19, Tryz.ntmps19
    go_wp2_with fail
    rw [← hW0]
    clear hW0 kg kg2
    (with_reducible refine (HJ.out).mono ?_)
    rintro e w1 ⟨rfl, hb1⟩
    have HB1 := Lib.hid (below_next HB0.out hb1)
    clear hb1
    go_wp2
    go_ret2
    exact .inl ⟨by decide, by rfl, HB1.out⟩
end Go.Proofs.YtnpfdelklolchaaGreatDoor

/- The reference's Alerts: the sort. Printed by gen_ral.py out of rals.txt. -/
namespace Go.Proofs.YtnpfdelklolchaaGreatDoor
open Go Go.RowKit Go.Proofs

/-- what both Alerts return: the code, the alerts ahead of the sort -/
def AlP (V : Int) (S : List Al) (w : World) (e : Ending) (w' : World) : Prop :=
  (V ≠ 0 ∧ e = .returned (.tuple #[.slice none 0 0, .int .i64 V]) ∧ Below w.heap.size w w') ∨
  (V = 0 ∧ ∃ A cap l', e = .returned (.tuple #[.slice A l'.length cap, .int .i64 0]) ∧ RdA w' w.heap.size A l' ∧ S.Perm l' ∧ SrtOn ltA l' 0 l'.length ∧ Below w.heap.size w w')
/-- the code from the sort on -/
noncomputable def ralS : Code := match Tryz.f20.body with
  | some (.seq _ (.seq _ (.seq _ (.seq _ (.seq _ (.seq _ (.seq _ (.seq _ t)))))))) => t
  | _ => .skip
set_option maxHeartbeats 8000000 in
set_option maxRecDepth 100000 in
theorem ralS_any (ov : Value) (out : List Al) (V : Int) (w wk : World) (B : Nat) (hv : V = 0) (hok : OkA out) (hle : out.length ≤ 1000000) (how : OwA wk B ov out) (hB : w.heap.size ≤ B) (hb : Below w.heap.size w wk)
    (u0 u1 u2 u3 u4 u5 u6 u7 u8 u9 u10 u11 u13 u14 u15 u16 u17 u18 u19 u20 u21 u22 u23 u24 u25 u26 u27 u28 u29 u30 u31 u32 u33 u34 u35 u36 u37 u38 u39 u40 u41 u42 u43 u44 u45 u46 u47 u48 u49 u50 u51 u52 u53 u54 u55 u56 u57 u58 u59 u60 u61 u62 u63 u64 u65 u66 u67 u68 u69 u70 u71 u72 u73 u74 u75 u76 u77 u78 u79 u80 u81 u82 u83 u84 u85 u86 u87 u88 u89 u90 u91 u92 u93 u94 u95 u96 u97 u98 u99 u100 u101 u102 u103 u104 u105 u106 u107 u108 u109 u110 u111 u112 u113 u114 u115 u116 u117 u118 u119 u120 u121 u122 u123 u124 u125 u126 u127 u128 u129 u130 u131 u132 u133 u134 u135 u136 u137 u138 u139 u140 u141 u142 u143 u144 u145 u146 u147 u148 u149 u150 u151 u152 u153 u154 u155 u156 u157 u158 u159 u160 u161 u162 u163 u164 u165 u166 u167 u168 u169 u170 u171 u172 u173 u174 u175 u176 u177 u178 u179 u180 u181 u182 u183 u184 u185 u186 u187 u188 u189 u190 u191 u192 u193 u194 u195 u196 u197 u198 u199 u200 u201 u202 u203 u204 u205 u206 u207 u208 u209 u210 u211 u212 u213 u214 u215 u216 u217 u218 u219 u220 u221 u222 u223 u224 u225 u226 u227 u228 u229 u230 u231 u232 u233 u234 u235 u236 u237 u238 u239 u240 u241 u242 u243 u244 u245 u246 u247 u248 u249 u250 u251 u252 u253 u254 u255 u256 u257 u258 u259 u260 u261 u262 u263 u264 u265 u266 u267 u268 u269 u270 u271 u272 u273 u274 u275 u276 u277 u278 u279 u280 u281 u282 u283 u284 u285 u286 u287 u288 : Value) :
    Code.wp Tryz.prog ralS (bodyPost Tryz.prog Tryz.f20 (AlP V out w)) { tmps := #[u0, u1, u2, u3, u4, u5, u6, u7, u8, u9, u10, u11, ov, u13, u14, u15, u16, u17, u18, u19, u20, u21, u22, u23, u24, u25, u26, u27, u28, u29, u30, u31, u32, u33, u34, u35, u36, u37, u38, u39, u40, u41, u42, u43, u44, u45, u46, u47, u48, u49, u50, u51, u52, u53, u54, u55, u56, u57, u58, u59, u60, u61, u62, u63, u64, u65, u66, u67, u68, u69, u70, u71, u72, u73, u74, u75, u76, u77, u78, u79, u80, u81, u82, u83, u84, u85, u86, u87, u88, u89, u90, u91, u92, u93, u94, u95, u96, u97, u98, u99, u100, u101, u102, u103, u104, u105, u106, u107, u108, u109, u110, u111, u112, u113, u114, u115, u116, u117, u118, u119, u120, u121, u122, u123, u124, u125, u126, u127, u128, u129, u130, u131, u132, u133, u134, u135, u136, u137, u138, u139, u140, u141, u142, u143, u144, u145, u146, u147, u148, u149, u150, u151, u152, u153, u154, u155, u156, u157, u158, u159, u160, u161, u162, u163, u164, u165, u166, u167, u168, u169, u170, u171, u172, u173, u174, u175, u176, u177, u178, u179, u180, u181, u182, u183, u184, u185, u186, u187, u188, u189, u190, u191, u192, u193, u194, u195, u196, u197, u198, u199, u200, u201, u202, u203, u204, u205, u206, u207, u208, u209, u210, u211, u212, u213, u214, u215, u216, u217, u218, u219, u220, u221, u222, u223, u224, u225, u226, u227, u228, u229, u230, u231, u232, u233, u234, u235, u236, u237, u238, u239, u240, u241, u242, u243, u244, u245, u246, u247, u248, u249, u250, u251, u252, u253, u254, u255, u256, u257, u258, u259, u260, u261, u262, u263, u264, u265, u266, u267, u268, u269, u270, u271, u272, u273, u274, u275, u276, u277, u278, u279, u280, u281, u282, u283, u284, u285, u286, u287, u288], defers := [] } wk := by
  generalize hQ : bodyPost Tryz.prog Tryz.f20 _ = Q
  unfold ralS
  dsimp only [Tryz.f20]
  subst hQ
  have mixed : Tryz.prog.follows Departure.mixedOrders = true := by kernel_rfl
  have HVZ := Lib.hid hv
  have HOKA := Lib.hid hok
  have HLEN := Lib.hid hle
  have HOW := Lib.hid how
  have HBB := Lib.hid hB
  have HBF := Lib.hid hb
  clear hv hok hle how hB hb
  rcases HOW.out.2 with ⟨rfl, h0⟩ | ⟨g', cap, cur, rfl, hq, hh, hnc, hcm, hsz, htk⟩
  · obtain rfl : out = [] := List.eq_nil_of_length_eq_zero h0
    clear h0
    go_wp2_with fail
    go_loopw [19] (fun iv wr => iv = .int .i64 1 ∧ Below w.heap.size w wr) (fun _ _ => 0)
    case atStart => exact ⟨rfl, HBF.out⟩
    case round =>
      obtain ⟨rfl, hb⟩ := hrel
      have HB9 := Lib.hid hb
      clear hb
      go_wp2
      go_ret2
      exact .inr ⟨HVZ.out, none, 0, [], by rfl, .inl ⟨rfl, rfl⟩, List.Perm.refl _, SrtOn.empty _ (by simp), HB9.out⟩
  · have HR0' := Lib.hid (show RowA wk g' out from ⟨cur, hh, by omega, htk⟩)
    have hwq : w.heap.size ≤ g' := Nat.le_trans HBB.out hq
    obtain ⟨n, hn⟩ : ∃ n, n = out.length := ⟨_, rfl⟩
    have HN := Lib.hid hn
    have hnl : n ≤ 1000000 := by rw [hn]; exact HLEN.out
    rw [← hn]
    clear hh hcm hsz htk hn
    go_wp2_with fail
    go_loopw [19] (fun iv wr => ∃ (i : Nat) (lc : List Al), iv = .int .i64 (i : Int) ∧ 1 ≤ i ∧ i ≤ n + 1 ∧ PermOn out lc 0 n ∧ SrtOn ltA lc 0 i ∧ RowA wr g' lc ∧ Fr (fun z => z = g') wk wr) (fun iv _ => n + 1 - (intOf iv).toNat)
    case atStart => exact ⟨1, out, by go_num, Nat.le_refl _, by omega, PermOn.refl _ _ _, SrtOn.empty _ (by omega), HR0'.out, Fr.refl _ _⟩
    case round =>
      obtain ⟨i, lc, rfl, hi1, hi2, hp, hs, hrow, hfr⟩ := hrel
      have HP := Lib.hid hp
      have HS := Lib.hid hs
      have HR1 := Lib.hid hrow
      have HF0 := Lib.hid hfr
      have hlen := hp.len.trans HN.out.symm
      clear hp hs hrow hfr HR0'
      by_cases hib : i < n
      · have hibz : (i : Int) < (n : Int) := by omega
        have hiw : IntKind.i64.wrap ((i : Int) + 1) = (i : Int) + 1 := IntWalk.i64_in _ (by omega)
        have HOK2 := Lib.hid (HOKA.out.perm (HP.out.all (Nat.zero_le _)))
        obtain ⟨x, hli⟩ : ∃ x, lc[i]? = some x := ⟨_, List.getElem?_eq_getElem (by omega)⟩
        go_wp2_with fail
        go_loopw [20] (fun jv wr => ∃ j : Nat, jv = .int .i64 (j : Int) ∧ j ≤ i ∧ (j < i → ∀ z, lc[j]? = some z → ltA x z) ∧ RowA wr g' (rot lc j i (i + 1)) ∧ Fr (fun z => z = g') wk wr) (fun jv _ => (intOf jv).toNat)
        case atStart => exact ⟨i, rfl, Nat.le_refl _, fun h => absurd h (Nat.lt_irrefl _), by rw [rot_start' (by omega)]; exact HR1.out, HF0.out⟩
        case round =>
          obtain ⟨j, rfl, hj2, hg, hrow, hfr⟩ := hrel
          have HG := Lib.hid hg
          have HR := Lib.hid hrow
          have HF := Lib.hid hfr
          clear hg hrow hfr HR1 HF0
          obtain ⟨wj, rfl⟩ : ∃ W : World, W = wr := ⟨_, rfl⟩
          by_cases hja : 0 < j
          · obtain ⟨q, rfl⟩ : ∃ q, j = q + 1 := ⟨j - 1, by omega⟩
            have hqi : q + 1 ≤ i := hj2
            obtain ⟨y, hlq⟩ : ∃ y, lc[q]? = some y := ⟨_, List.getElem?_eq_getElem (by omega)⟩
            have hx : (rot lc (q + 1) i (i + 1))[q + 1]? = some x := by
              rw [rot_lo (by omega) (by omega) (by omega) (Nat.le_refl _) (by omega), show q + 1 - (q + 1) + i = i by omega]; exact hli
            have hy : (rot lc (q + 1) i (i + 1))[q]? = some y := by
              rw [rot_out (by omega) (by omega) (by omega) (.inl (by omega))]; exact hlq
            obtain ⟨x0, x1, x2⟩ := HR.out.at hx
            obtain ⟨y0, y1, y2⟩ := HR.out.at hy
            have hja' : (0 : Int) < (q : Int) + 1 := by omega
            have hj0 : (0 : Int) ≤ (q : Int) := by omega
            have hj1' : (q : Int) < (n : Int) := by omega
            have hj2' : (q : Int) + 1 < (n : Int) := by omega
            have hj3' : (0 : Int) ≤ (q : Int) + 1 := by omega
            have hj4' : q + 1 < n := by omega
            have hj5' : q < n := by omega
            have hw1 : IntKind.i64.wrap ((q : Int) + 1 - 1) = (q : Int) := by rw [IntWalk.i64_in _ (by omega)]; omega
            have hw2 : IntKind.i64.wrap (q : Int) = (q : Int) := IntWalk.i64_in _ (by omega)
            by_cases c1 : x.2.1 < y.2.1
            · have HXY := Lib.hid (show ltA x y from ltA_iff.2 (.inl c1))
              skip
              {
 go_wp2_with fail
 go_big_quiet (fail)
 obtain ⟨wq, hwq⟩ : ∃ W : World, W = wj.drewN nq := ⟨_, rfl⟩
 have hbq : Below wj.heap.size wj wq := by rw [hwq]; exact below_drewN (Below.refl _ _) _
 rw [← hwq]
 clear hwq x0 x1 x2 y0 y1 y2
 (try clear c2z)
 have hrow2 := HR.out.on hbq
 have hfr2 := HF.out.trans (Fr.of_b (may := fun z => z = g') hbq) (fun _ _ h => h)
 obtain ⟨x0, x1, x2⟩ := hrow2.at hx
 obtain ⟨y0, y1, y2⟩ := hrow2.at hy
 obtain ⟨W9, hW9⟩ : ∃ V, V = (((((wq.setCell ⟨g', (q + 1) * 3, none⟩ (.int .i64 y.1)).setCell ⟨g', (q + 1) * 3 + 1, none⟩ (.int .i64 y.2.1)).setCell ⟨g', (q + 1) * 3 + 2, none⟩ (.int .i64 y.2.2)).setCell ⟨g', q * 3, none⟩ (.int .i64 x.1)).setCell ⟨g', q * 3 + 1, none⟩ (.int .i64 x.2.1)).setCell ⟨g', q * 3 + 2, none⟩ (.int .i64 x.2.2) := ⟨_, rfl⟩
 have HSW := Lib.hid (show RowA W9.drew g' (swL (rot lc (q + 1) i (i + 1)) (q + 1) q) by rw [hW9]; exact (hrow2.swap hx hy).on (Below.refl _ _).drew)
 have HFW := Lib.hid (show Fr (fun z => z = g') wk W9.drew by rw [hW9]; exact (hfr2.trans (al_fr wq g' ((q + 1) * 3) (q * 3) (.int .i64 y.1) (.int .i64 y.2.1) (.int .i64 y.2.2) (.int .i64 x.1) (.int .i64 x.2.1) (.int .i64 x.2.2)) (fun _ _ h => h)).drew)
 have f0 := hrow2.frozen ((q + 1) * 3)
 have f1 := hrow2.frozen ((q + 1) * 3 + 1)
 have f2 := hrow2.frozen ((q + 1) * 3 + 2)
 have f3' := hrow2.frozen (q * 3)
 have f4 := hrow2.frozen (q * 3 + 1)
 have f5 := hrow2.frozen (q * 3 + 2)
 rw [rot_down hqi (by omega)] at HSW
 clear hrow2 hfr2 hbq
 go_wp2_with fail
 go_big_region_o
 rw [← hW9]
 clear hW9 x0 x1 x2 y0 y1 y2 f0 f1 f2 f3' f4 f5
 go_wp2
 go_roundw
 case rel => exact ⟨q, by go_num, by omega, fun _ z hz => by rw [hlq] at hz; cases hz; exact HXY.out, HSW.out, HFW.out⟩
 case measure => first | (simp [intOf]; done) | (simp [intOf]; omega)
              }
            · have d0 := decide_eq_false c1
              by_cases c2 : x.2.1 = y.2.1
              · have c2z : (x.2.1 == y.2.1) = true := by rw [beq_iff_eq]; exact c2
                by_cases c3 : x.1 < y.1
                · have HXY := Lib.hid (show ltA x y from ltA_iff.2 (.inr ⟨c2, c3⟩))
                  clear c2
                  skip
                  {
 go_wp2_with fail
 go_big_quiet (fail)
 obtain ⟨wq, hwq⟩ : ∃ W : World, W = wj.drewN nq := ⟨_, rfl⟩
 have hbq : Below wj.heap.size wj wq := by rw [hwq]; exact below_drewN (Below.refl _ _) _
 rw [← hwq]
 clear hwq x0 x1 x2 y0 y1 y2
 (try clear c2z)
 have hrow2 := HR.out.on hbq
 have hfr2 := HF.out.trans (Fr.of_b (may := fun z => z = g') hbq) (fun _ _ h => h)
 obtain ⟨x0, x1, x2⟩ := hrow2.at hx
 obtain ⟨y0, y1, y2⟩ := hrow2.at hy
 obtain ⟨W9, hW9⟩ : ∃ V, V = (((((wq.setCell ⟨g', (q + 1) * 3, none⟩ (.int .i64 y.1)).setCell ⟨g', (q + 1) * 3 + 1, none⟩ (.int .i64 y.2.1)).setCell ⟨g', (q + 1) * 3 + 2, none⟩ (.int .i64 y.2.2)).setCell ⟨g', q * 3, none⟩ (.int .i64 x.1)).setCell ⟨g', q * 3 + 1, none⟩ (.int .i64 x.2.1)).setCell ⟨g', q * 3 + 2, none⟩ (.int .i64 x.2.2) := ⟨_, rfl⟩
 have HSW := Lib.hid (show RowA W9.drew g' (swL (rot lc (q + 1) i (i + 1)) (q + 1) q) by rw [hW9]; exact (hrow2.swap hx hy).on (Below.refl _ _).drew)
 have HFW := Lib.hid (show Fr (fun z => z = g') wk W9.drew by rw [hW9]; exact (hfr2.trans (al_fr wq g' ((q + 1) * 3) (q * 3) (.int .i64 y.1) (.int .i64 y.2.1) (.int .i64 y.2.2) (.int .i64 x.1) (.int .i64 x.2.1) (.int .i64 x.2.2)) (fun _ _ h => h)).drew)
 have f0 := hrow2.frozen ((q + 1) * 3)
 have f1 := hrow2.frozen ((q + 1) * 3 + 1)
 have f2 := hrow2.frozen ((q + 1) * 3 + 2)
 have f3' := hrow2.frozen (q * 3)
 have f4 := hrow2.frozen (q * 3 + 1)
 have f5 := hrow2.frozen (q * 3 + 2)
 rw [rot_down hqi (by omega)] at HSW
 clear hrow2 hfr2 hbq
 go_wp2_with fail
 go_big_region_o
 rw [← hW9]
 clear hW9 x0 x1 x2 y0 y1 y2 f0 f1 f2 f3' f4 f5
 go_wp2
 go_roundw
 case rel => exact ⟨q, by go_num, by omega, fun _ z hz => by rw [hlq] at hz; cases hz; exact HXY.out, HSW.out, HFW.out⟩
 case measure => first | (simp [intOf]; done) | (simp [intOf]; omega)
                  }
                · have hyx : ltA y x := ltA_total (HOK2.out.df (p := i) (q := q) (by omega) hli hlq) (by rw [ltA_iff]; omega)
                  have HSRT := Lib.hid (ins_right ltA_trans (show i < lc.length by omega) (show 0 ≤ q + 1 by omega) hqi HS.out hli (fun _ z hz => by rw [Nat.add_sub_cancel, hlq] at hz; cases hz; exact hyx) (fun hlt z hz => HG.out hlt z hz))
                  skip
                  {
 go_wp2_with fail
 go_big_quiet (fail)
 have hbq : Below wj.heap.size wj (wj.drewN nq) := below_drewN (Below.refl _ _) _
 have HRN := Lib.hid (HR.out.on hbq)
 have HFN := Lib.hid (HF.out.trans (Fr.of_b (may := fun z => z = g') hbq) (fun _ _ h => h))
 clear hbq
 go_wp2
 go_roundw
 case rel => exact ⟨i + 1, _, by go_num, by omega, by omega, HP.out.trans ((rot_perm (by omega) (by omega) (by omega)).within (by omega) (by omega) (by omega) (by omega)), HSRT.out, HRN.out, HFN.out⟩
 case measure => first | (simp [intOf]; done) | (simp [intOf]; omega)
                  }
              · have c2z : (x.2.1 == y.2.1) = false := by rw [beq_eq_false_iff_ne]; exact c2
                have hyx : ltA y x := ltA_total (HOK2.out.df (p := i) (q := q) (by omega) hli hlq) (by rw [ltA_iff]; omega)
                have HSRT := Lib.hid (ins_right ltA_trans (show i < lc.length by omega) (show 0 ≤ q + 1 by omega) hqi HS.out hli (fun _ z hz => by rw [Nat.add_sub_cancel, hlq] at hz; cases hz; exact hyx) (fun hlt z hz => HG.out hlt z hz))
                skip
                {
 go_wp2_with fail
 go_big_quiet (fail)
 have hbq : Below wj.heap.size wj (wj.drewN nq) := below_drewN (Below.refl _ _) _
 have HRN := Lib.hid (HR.out.on hbq)
 have HFN := Lib.hid (HF.out.trans (Fr.of_b (may := fun z => z = g') hbq) (fun _ _ h => h))
 clear hbq
 go_wp2
 go_roundw
 case rel => exact ⟨i + 1, _, by go_num, by omega, by omega, HP.out.trans ((rot_perm (by omega) (by omega) (by omega)).within (by omega) (by omega) (by omega) (by omega)), HSRT.out, HRN.out, HFN.out⟩
 case measure => first | (simp [intOf]; done) | (simp [intOf]; omega)
                }
          · obtain rfl : j = 0 := by omega
            have HSRT := Lib.hid (ins_right ltA_trans (show i < lc.length by omega) (Nat.le_refl 0) (show 0 ≤ i by omega) HS.out hli (fun h => absurd h (Nat.lt_irrefl _)) (fun hlt z hz => HG.out hlt z hz))
            skip
            {
 go_wp2_with fail
 go_big_quiet (fail)
 have hbq : Below wj.heap.size wj (wj.drewN nq) := below_drewN (Below.refl _ _) _
 have HRN := Lib.hid (HR.out.on hbq)
 have HFN := Lib.hid (HF.out.trans (Fr.of_b (may := fun z => z = g') hbq) (fun _ _ h => h))
 clear hbq
 go_wp2
 go_roundw
 case rel => exact ⟨i + 1, _, by go_num, by omega, by omega, HP.out.trans ((rot_perm (by omega) (by omega) (by omega)).within (by omega) (by omega) (by omega) (by omega)), HSRT.out, HRN.out, HFN.out⟩
 case measure => first | (simp [intOf]; done) | (simp [intOf]; omega)
            }
      · have hibz : ¬ (i : Int) < (n : Int) := by omega
        have HP9 := Lib.hid (HP.out.all (Nat.zero_le _))
        have HL9 := Lib.hid (show n = lc.length from hlen.symm)
        have HSR := Lib.hid (show SrtOn ltA lc 0 lc.length from HS.out.sub (i' := 0) (j' := lc.length) (Nat.le_refl _) (by omega))
        have HB9 := Lib.hid (HBF.out.trans (Fr.below HF0.out (B := w.heap.size) HBF.out.size (fun z h1 hm => by omega)))
        go_wp2
        go_ret2
        exact .inr ⟨HVZ.out, some ⟨g', 0, none⟩, cap, lc, by rw [← HL9.out]; rfl, .inr ⟨g', rfl, hwq, HR1.out⟩, HP9.out, HSR.out, HB9.out⟩
end Go.Proofs.YtnpfdelklolchaaGreatDoor

/- append to an own row, with the block that the new row lies in. No program in sight. -/
namespace Go.Proofs.YtnpfdelklolchaaGreatDoor
open Go Go.RowKit Go.Proofs

section
variable {P : Program} {w : World}
theorem run_append_blk (base : Nat) (t ty e : TypeId) (i : TypeInfo) (z : Value) (size bytes : Nat) (ht : P.underlying t = some (.slice e)) (hi : P.info? e = some i) (hz : i.zero = some z)
    (hsize : i.size = size) (hby : i.bytes = bytes) (hzs : z.cells.size = size) (hsz : 0 < size)
    (v : Value) (n : Nat) (xs : List Value) (hown : w.ownsRow base e size v n xs)
    (a : Addr) (m c : Nat) (news : List Value) (hl : news.length = m * size) (hnews : ∀ j u, news[j]? = some u → w.cell? (a.add j) = some u) (h1 : ∀ u ∈ news, u.oneCell' = true)
    (h63 : n + m ≤ maxLen) (hbytes : (n + m) * bytes ≤ 140737488355328) (hbase : base ≤ w.heap.size) (hm : 0 < m) :
    ∃ v' w', (Builtin.append_ #[t, t] ty #[v, .slice (some a) m c]).run P w = .ok v' w' ∧ w'.ownsRow base e size v' (n + m) (xs ++ news) ∧ w.grownBy w' v.ownBlock ∧
      (v'.ownBlock = v.ownBlock ∨ v'.ownBlock = some w.heap.size) := by
  obtain ⟨v', w', hr, h2, h3, _⟩ := run_append_own (P := P) w base t ty e i z size bytes ht hi hz hsize hby hzs hsz v n xs hown a m c news hl hnews h1 h63 hbytes hbase
  refine ⟨v', w', hr, h2, h3, ?_⟩
  have hsmall : n + m ≤ 9223372036854775807 := by simp only [maxLen] at h63; omega
  subst hsize
  subst hby
  rcases hown.2 with ⟨rfl, rfl⟩ | ⟨g, cap, cur, rfl, hbg, hg, hnc, hcm, hcs, htake⟩
  · have hr2 := run_append_nil (P := P) w t ty e i z ht hi hz a m c news hl hnews hm (by omega) (by have hb := hbytes; simp only [Nat.zero_add] at hb; omega)
    rw [hr2] at hr
    injection hr with e1 e2
    rw [← e1]
    exact .inr rfl
  · by_cases hroom : n + m ≤ cap
    · have hfit : n * i.size + news.length ≤ cur.size := by rw [hl, hcs, ← Nat.add_mul]; exact Nat.mul_le_mul_right _ hroom
      have hr2 := run_append_room (P := P) w t ty e i ht hi g n cap cur hg a m c news hl hnews h1 hroom hfit
      rw [hr2] at hr
      injection hr with e1 e2
      rw [← e1]
      exact .inl rfl
    · have holds : ∀ j u, xs[j]? = some u → w.cell? ((⟨g, 0, none⟩ : Addr).add j) = some u := hown.cells (g := g) rfl
      have hr2 := run_append_grow (P := P) w t ty e i z ht hi hz ⟨g, 0, none⟩ n cap xs hown.1 holds a m c news hl hnews (by omega) (by omega) (growslice_fits (by omega) hbytes)
      rw [hr2] at hr
      injection hr with e1 e2
      rw [← e1]
      exact .inr rfl
theorem wpList_append_blk {ops : Array Oper} {rest : List Oper} {o : Oper} {a : Act} {Q : Exit → Act → World → Prop} (hgd : o.guard = none) (s x : Operand) (t : TypeId)
    (ho : o.op = .call { callee := .builtin .append, args := #[s, x], argTypes := #[t, t] })
    (base : Nat) (e : TypeId) (i : TypeInfo) (z : Value) (size bytes : Nat) (ht : P.underlying t = some (.slice e)) (hi : P.info? e = some i) (hz : i.zero = some z)
    (hsize : i.size = size) (hby : i.bytes = bytes) (hzs : z.cells.size = size) (hsz : 0 < size)
    (v : Value) (n : Nat) (xs : List Value) (hs : a.eval s = v) (hown : w.ownsRow base e size v n xs)
    (ad : Addr) (m c : Nat) (news : List Value) (hx : a.eval x = .slice (some ad) m c) (hl : news.length = m * size) (hnews : ∀ j u, news[j]? = some u → w.cell? (ad.add j) = some u) (h1 : ∀ u ∈ news, u.oneCell' = true)
    (h63 : n + m ≤ maxLen) (hbytes : (n + m) * bytes ≤ 140737488355328) (hbase : base ≤ w.heap.size) (hm : 0 < m)
    (h : ∀ v' w', w'.ownsRow base e size v' (n + m) (xs ++ news) → w.grownBy w' v.ownBlock → (v'.ownBlock = v.ownBlock ∨ v'.ownBlock = some w.heap.size) → wpList P ops Q rest (a.put o.dst v') w') : wpList P ops Q (o :: rest) a w := by
  obtain ⟨v', w', hr, h2, h3, h4⟩ := run_append_blk (P := P) (w := w) base t o.type e i z size bytes ht hi hz hsize hby hzs hsz v n xs hown ad m c news hl hnews h1 h63 hbytes hbase hm
  refine wpList_plain hgd fun _ hK => ?_
  unfold Oper.wp execOp
  simp only [ho, resolve, invoke, builtin, Sem.run_bind, Sem.run_pure, Result.andThen_ok, List.map_toArray, List.map_cons, List.map_nil, hs, hx, hr]
  exact hK _ _ (h v' w' h2 h3 h4)
end
end Go.Proofs.YtnpfdelklolchaaGreatDoor
