/- LoadSpansAreUsers: the law's walk. -/
import Derived.Test.YtajokainammahaaSpans
import Derived.Test.YtajokainammahaaEven
import Derived.BigQuiet
namespace Go.Proofs.Ytajokainammahaa
open Go Go.RowKit Go.Proofs

theorem drewN_two (w : World) (a b : Nat) : (w.drewN a).drewN b = w.drewN (a + b) := by simp [World.drewN, Nat.add_assoc]
theorem cntO_take {L : List (Int × Int × Int)} {k : Nat} {s : Int × Int × Int} (h : L[k]? = some s) (T : Int) : cntO (L.take (k + 1)) T = cntO (L.take k) T + if s.2.1 ≤ T ∧ T < s.2.2 then 1 else 0 := by
  rw [List.take_add_one, h]; exact cntO_snoc _ _ _

set_option maxHeartbeats 4000000 in
set_option maxRecDepth 100000 in
theorem lawSpans_any (A : Option Addr) (c : Nat) (l : List (Int × Int × Int)) (w : World) (hr : Rd w 0 w.heap.size 3 A l.length (cells3 l)) (hl : l.length ≤ 9223372036854775807) :
    Calls Try.prog 5 #[.slice A l.length c] w fun e w' => e = .returned (.bool true) ∧ Below w.heap.size w w' := by
  have HEV := Lib.hid (fun W => lawEven_any W)
  have HUS := Lib.hid (users_any A c l w hr hl)
  have HSP := Lib.hid (fun W (hb : Below w.heap.size w W) => spans_any A c l W (hr.old hb) hl)
  clear hr
  by_cases hc : usrC l = 0
  · obtain ⟨⟨hi, hasc⟩, hnow, hlen⟩ := users_ok hc
    have HLAW := Lib.hid (span_law hasc hnow)
    rw [hc] at HUS HSP
    obtain ⟨cs, hcs⟩ : ∃ cs, cs = usrL l := ⟨_, rfl⟩
    rw [← hcs] at HUS HSP HLAW hlen
    clear hasc hnow hcs hc
    go_enter Try.func5, Try.ntmps5
    go_wp2_with fail
    refine HUS.out.mono ?_
    rintro e w1 ⟨A1, c1, rfl, hrd1, hb1⟩
    have HB1 := Lib.hid hb1
    have HRD1 := Lib.hid (hrd1.more (Nat.zero_le _) (Nat.le_refl _))
    clear hb1 hrd1
    go_wp2_with fail
    refine (HSP.out w1 HB1.out).mono ?_
    rintro e w2 ⟨A2, c2, L, rfl, hrd2, hL, hLb, hb2⟩
    have HB2 := Lib.hid (below_next HB1.out hb2)
    have HRC := Lib.hid (HRD1.out.old hb2)
    have HRS := Lib.hid hrd2
    obtain ⟨hpm, _⟩ := hL trivial
    have HCN := Lib.hid (fun (x : Int × Int) (hx : x ∈ cs) => show (cntO L x.1 : Int) = x.2 by rw [cntO_perm hpm]; exact HLAW.out x hx)
    clear hb2 hrd2 hL hpm
    go_wp2_with fail
    go_loopw [7, 8, 9] (fun iv _ _ wr => ∃ i q : Nat, iv = .int .i64 i ∧ i ≤ cs.length ∧ i ≤ 300 ∧ wr = w2.drewN q) (fun iv _ _ _ => 300 - (intOf iv).toNat)
    case atStart => exact ⟨0, 0, rfl, Nat.zero_le _, Nat.zero_le _, rfl⟩
    case round =>
      obtain ⟨i, q, rfl, hi1, hi2, rfl⟩ := hrel
      by_cases hlt : i < cs.length
      · have b1 : decide ((i : Int) < (cs.length : Int)) = true := by simpa using hlt
        have b1' : decide (i < cs.length) = true := by simpa using hlt
        by_cases h3 : i < 300
        · have b2 : decide ((i : Int) < 300) = true := by simp; omega
          obtain ⟨bc, oc, T, U, rfl, _, hbc, hx, qc0, qc1⟩ := HRC.out.atC hlt
          have hcn := HCN.out _ (List.mem_of_getElem? hx)
          simp only at hcn
          have HC := Lib.hid hcn
          clear hcn hx
          go_wp2_with fail
          go_loopw [8, 9] (fun nv kv wr => ∃ k q : Nat, kv = .int .i64 k ∧ k ≤ L.length ∧ nv = .int .i64 (cntO (L.take k) T) ∧ wr = w2.drewN q) (fun _ kv _ => L.length - (intOf kv).toNat)
          case atStart => exact ⟨0, q, rfl, Nat.zero_le _, rfl, rfl⟩
          case round =>
            obtain ⟨k, q', rfl, hk, rfl, rfl⟩ := hrel
            have hle : cntO (L.take k) T ≤ k := by unfold cntO; exact Nat.le_trans (List.length_filter_le _ _) (by rw [List.length_take]; omega)
            obtain ⟨m, hm⟩ : ∃ m, m = cntO (L.take k) T := ⟨_, rfl⟩
            rw [← hm] at hle ⊢
            have qd0 : (w2.drewN q').cell? ⟨bc, oc + i * 2, none⟩ = some (.int .i64 T) := qc0
            have qd1 : (w2.drewN q').cell? ⟨bc, oc + i * 2 + 1, none⟩ = some (.int .i64 U) := qc1
            by_cases hlk : k < L.length
            · obtain ⟨bs, os, W0, F0, E0, rfl, _, hbs, hs, p0, p1, p2⟩ := HRS.out.at3 hlk
              have hst := cntO_take hs T
              rw [← hm] at hst
              have HST := Lib.hid hst
              simp only at HST
              have pd1 : (w2.drewN q').cell? ⟨bs, os + k * 3 + 1, none⟩ = some (.int .i64 F0) := p1
              have pd2 : (w2.drewN q').cell? ⟨bs, os + k * 3 + 2, none⟩ = some (.int .i64 E0) := p2
              clear hst hm hs
              by_cases g1 : F0 ≤ T
              · have t1 : decide (F0 ≤ T) = true := by simpa using g1
                by_cases g2 : T < E0
                · have t2 : decide (T < E0) = true := by simpa using g2
                  rw [if_pos ⟨g1, g2⟩] at HST
                  go_wp2_with fail
                  go_quiet (fail)
                  go_wp2
                  go_roundw
                  case rel => exact ⟨k + 1, _, by go_num, by omega, by rw [HST.out]; rfl, by first | rfl | exact drewN_two _ _ _⟩
                  case measure => simp [intOf]; omega
                · have t2 : decide (T < E0) = false := by simpa using g2
                  rw [if_neg (fun h => g2 h.2)] at HST
                  go_wp2_with fail
                  go_quiet (fail)
                  go_wp2
                  go_roundw
                  case rel => exact ⟨k + 1, _, by go_num, by omega, by rw [HST.out]; rfl, by first | rfl | exact drewN_two _ _ _⟩
                  case measure => simp [intOf]; omega
              · have t1 : decide (F0 ≤ T) = false := by simpa using g1
                rw [if_neg (fun h => g1 h.1)] at HST
                go_wp2_with fail
                go_quiet (fail)
                go_wp2
                go_roundw
                case rel => exact ⟨k + 1, _, by go_num, by omega, by rw [HST.out]; rfl, by first | rfl | exact drewN_two _ _ _⟩
                case measure => simp [intOf]; omega
            · have hmU : (m : Int) = U := by have := HC.out; rw [List.take_of_length_le (by omega)] at hm; rw [hm]; exact this
              have tU : ((m : Int) != U) = false := by simpa using hmU
              clear hm
              go_wp2
              go_roundw
              case rel => exact ⟨i + 1, _, by go_num, by omega, by omega, rfl⟩
              case measure => simp [intOf]; omega
        · have b2 : decide ((i : Int) < 300) = false := by simp; omega
          go_wp2_with fail
          refine (HEV.out _).mono ?_
          rintro e w5 ⟨rfl, hb5⟩
          go_wp2
          go_ret
          exact ⟨rfl, below_next (below_drewN HB2.out q) hb5⟩
      · have b1 : decide ((i : Int) < (cs.length : Int)) = false := by simpa using hlt
        have b1' : decide (i < cs.length) = false := by simpa using hlt
        go_wp2_with fail
        refine (HEV.out _).mono ?_
        rintro e w5 ⟨rfl, hb5⟩
        go_wp2
        go_ret
        exact ⟨rfl, below_next (below_drewN HB2.out q) hb5⟩
  · have HUL := Lib.hid (show usrL l = [] by unfold usrL; rw [if_neg hc])
    rw [HUL.out] at HUS
    obtain ⟨cc, hcc⟩ : ∃ cc, cc = usrC l := ⟨_, rfl⟩
    rw [← hcc] at HUS HSP hc
    have t1 : (cc != 0) = true := by simpa using hc
    have t2 : (cc == cc) = true := by simp
    clear hcc
    go_enter Try.func5, Try.ntmps5
    go_wp2_with fail
    refine HUS.out.mono ?_
    rintro e w1 ⟨A1, c1, rfl, hrd1, hb1⟩
    have HB1 := Lib.hid hb1
    clear hb1 hrd1
    go_wp2_with fail
    refine (HSP.out w1 HB1.out).mono ?_
    rintro e w2 ⟨A2, c2, L, rfl, hrd2, _, _, hb2⟩
    have HB2 := Lib.hid (below_next HB1.out hb2)
    clear hb2 hrd2
    go_wp2_with fail
    refine (HEV.out _).mono ?_
    rintro e w5 ⟨rfl, hb5⟩
    go_wp2
    go_ret
    exact ⟨rfl, below_next HB2.out hb5⟩
end Go.Proofs.Ytajokainammahaa
