import Derived.Test.YtepfmoaihhonlaaGreatDoorR7Ar
import Derived.BigQuiet
/- Length and Peak of both packages. -/
namespace Go.Proofs.YtepfmoaihhonlaaGreatDoor
open Go Go.RowKit Go.Proofs

def lengthV (l : List (Int × Int × Int)) : Int := if codeS l ≠ 0 then 0 else lenS l

set_option maxHeartbeats 2000000 in
set_option maxRecDepth 100000 in
theorem lLength_any (A : Option Addr) (c : Nat) (l : List (Int × Int × Int)) (w : World) (hr : Rd w 0 w.heap.size 3 A l.length (cells3 l)) (hl : l.length ≤ 9223372036854775807) :
    Calls Tryz.prog 10 #[.slice A l.length c] w fun e w' => e = .returned (.tuple #[.int .i64 (lengthV l), .int .i64 (codeS l)]) ∧ Below w.heap.size w w' := by
  have HCK := Lib.hid (loadCheck_any A c l w hr hl)
  by_cases hc : codeS l = 0
  · have hok := codeS_ok hc
    have HV := Lib.hid (show lengthV l = lenS l by unfold lengthV; rw [if_neg (by omega)])
    have HLN := Lib.hid (fun (W : World) (hb : Below w.heap.size w W) => loadLength_any A c l W (hr.old hb) (by have := hok.le; omega) hok.ok)
    rw [hc] at HCK ⊢
    clear hok hc hr
    go_enter Tryz.func10, Tryz.ntmps10
    go_wp2_with fail
    (with_reducible refine HCK.out.mono ?_)
    rintro e w1 ⟨rfl, hb1⟩
    have HB1 := Lib.hid hb1
    clear hb1
    go_wp2_with fail
    (with_reducible refine (HLN.out w1 HB1.out).mono ?_)
    rintro e w2 ⟨rfl, hb2⟩
    have HB2 := Lib.hid (below_next HB1.out hb2)
    clear hb2
    go_wp2
    go_ret2
    exact ⟨by rw [HV.out]; rfl, HB2.out⟩
  · have HV := Lib.hid (show lengthV l = 0 by unfold lengthV; rw [if_pos hc])
    obtain ⟨cc, hcc⟩ : ∃ cc, cc = codeS l := ⟨_, rfl⟩
    rw [← hcc] at HCK hc ⊢
    have t1 : (cc != 0) = true := by simpa using hc
    clear hcc hr
    go_enter Tryz.func10, Tryz.ntmps10
    go_wp2_with fail
    (with_reducible refine HCK.out.mono ?_)
    rintro e w1 ⟨rfl, hb1⟩
    have HB1 := Lib.hid hb1
    clear hb1
    go_wp2
    go_ret2
    exact ⟨by rw [HV.out]; rfl, HB1.out⟩

set_option maxHeartbeats 2000000 in
set_option maxRecDepth 100000 in
theorem r7Length_any (A : Option Addr) (c : Nat) (l : List (Int × Int × Int)) (w : World) (hr : Rd w 0 w.heap.size 3 A l.length (cells3 l)) (hl : l.length ≤ 9223372036854775807) :
    Calls Tryz.prog 11 #[.slice A l.length c] w fun e w' => e = .returned (.tuple #[.int .i64 (lengthV l), .int .i64 (codeS l)]) ∧ Below w.heap.size w w' := by
  have HCK := Lib.hid (r7Check_any A c l w hr hl)
  by_cases hc : codeS l = 0
  · have hok := codeS_ok hc
    have HV := Lib.hid (show lengthV l = lenS l by unfold lengthV; rw [if_neg (by omega)])
    have HLN := Lib.hid (fun (W : World) (hb : Below w.heap.size w W) => r7Total_any A c l W (hr.old hb) (by have := hok.le; omega) hok.ok)
    rw [hc] at HCK ⊢
    clear hok hc hr
    go_enter Tryz.func11, Tryz.ntmps11
    go_wp2_with fail
    (with_reducible refine HCK.out.mono ?_)
    rintro e w1 ⟨rfl, hb1⟩
    have HB1 := Lib.hid hb1
    clear hb1
    go_wp2_with fail
    (with_reducible refine (HLN.out w1 HB1.out).mono ?_)
    rintro e w2 ⟨rfl, hb2⟩
    have HB2 := Lib.hid (below_next HB1.out hb2)
    clear hb2
    go_wp2
    go_ret2
    exact ⟨by rw [HV.out]; rfl, HB2.out⟩
  · have HV := Lib.hid (show lengthV l = 0 by unfold lengthV; rw [if_pos hc])
    obtain ⟨cc, hcc⟩ : ∃ cc, cc = codeS l := ⟨_, rfl⟩
    rw [← hcc] at HCK hc ⊢
    have t1 : (cc != 0) = true := by simpa using hc
    clear hcc hr
    go_enter Tryz.func11, Tryz.ntmps11
    go_wp2_with fail
    (with_reducible refine HCK.out.mono ?_)
    rintro e w1 ⟨rfl, hb1⟩
    have HB1 := Lib.hid hb1
    clear hb1
    go_wp2
    go_ret2
    exact ⟨by rw [HV.out]; rfl, HB1.out⟩
end Go.Proofs.YtepfmoaihhonlaaGreatDoor

/- Peak of both packages. (gen_peak.py) -/
namespace Go.Proofs.YtepfmoaihhonlaaGreatDoor
open Go Go.RowKit Go.Proofs

def peakV (l : List (Int × Int × Int)) : Int × Int := if codeS l ≠ 0 then (0, 0) else ((pk l (0, -1, 0)).1, (pk l (0, -1, 0)).2.1)
theorem drop_at {l : List (Int × Int × Int)} {k : Nat} {s : Int × Int × Int} (h : l[k]? = some s) : l.drop k = s :: l.drop (k + 1) := by
  have e := List.getElem?_eq_some_iff.1 h
  rw [List.drop_eq_getElem_cons e.1, e.2]
theorem pk_next {l : List (Int × Int × Int)} {k : Nat} {F y z : Int} (h : l[k]? = some (F, y, z)) {a q g a1 q1 a2 q2 : Int} (h1 : (if q < y then (g, y) else (a, q)) = (a1, q1)) (h2 : (if q1 < z then (g + F, z) else (a1, q1)) = (a2, q2)) : pk (l.drop k) (a, q, g) = pk (l.drop (k + 1)) (a2, q2, g + F) := by
  rw [drop_at h]; simp only [pk, h1, h2]

set_option maxHeartbeats 4000000 in
set_option maxRecDepth 100000 in
theorem lPeak_any (A : Option Addr) (c : Nat) (l : List (Int × Int × Int)) (w : World) (hr : Rd w 0 w.heap.size 3 A l.length (cells3 l)) (hl : l.length ≤ 9223372036854775807) :
    Calls Tryz.prog 12 #[.slice A l.length c] w fun e w' => e = .returned (.tuple #[.int .i64 (peakV l).1, .int .i64 (peakV l).2, .int .i64 (codeS l)]) ∧ Below w.heap.size w w' := by
  have HCK := Lib.hid (loadCheck_any A c l w hr hl)
  by_cases hc : codeS l = 0
  · have hok := codeS_ok hc
    have HV := Lib.hid (show peakV l = ((pk l (0, -1, 0)).1, (pk l (0, -1, 0)).2.1) by unfold peakV; rw [if_neg (by omega)])
    have HR := Lib.hid hr
    have HC := Lib.hid hok.ok
    have hle := hok.le
    rw [hc] at HCK ⊢
    obtain ⟨p0, hp0⟩ : ∃ p0 : Int × Int × Int, p0 = (0, -1, 0) := ⟨_, rfl⟩
    rw [← hp0] at HV
    have HP0 := Lib.hid hp0
    clear hok hc hr hp0
    go_enter Tryz.func12, Tryz.ntmps12
    go_wp2_with fail
    (with_reducible refine HCK.out.mono ?_)
    rintro e w1 ⟨rfl, hb1⟩
    have HB1 := Lib.hid hb1
    clear hb1
    go_wp2_with fail
    go_loopw [2, 3, 6, 8, 16] (fun av qv gv _ iv wr => ∃ k : Nat, k ≤ l.length ∧ iv = .int .i64 k ∧ ∃ a q g : Int, av = .int .i64 a ∧ qv = .int .i64 q ∧ gv = .int .i64 g ∧ -1 ≤ q ∧ q ≤ 1000000000 ∧ Hid (g = lenS (l.take k)) ∧ pk l p0 = pk (l.drop k) (a, q, g) ∧ Below w.heap.size w wr) (fun _ _ _ _ iv _ => l.length - (intOf iv).toNat)
    case atStart => exact ⟨0, Nat.zero_le _, rfl, 0, -1, 0, rfl, rfl, rfl, by omega, by omega, Lib.hid (by simp [lenS]), by rw [HP0.out]; rfl, HB1.out⟩
    case round =>
      obtain ⟨k, hk, rfl, a, q, g, rfl, rfl, rfl, hq0, hq1, HG, heq, hbw⟩ := hrel
      have HEQ := Lib.hid heq
      have HBW := Lib.hid hbw
      have hsz := hbw.size
      by_cases hlt : k < l.length
      · obtain ⟨bk, o, F, y, z, rfl, _, hbk, hx, c0, c1', c2'⟩ := (HR.out.below hbw (Nat.le_refl _)).at3 hlt
        have HX := Lib.hid hx
        have HT := Lib.hid (show Hid (g + F = lenS (l.take (k + 1))) from Lib.hid (by rw [lenS_take hx, HG.out]))
        have hb1 := lenS_bd (l := l.take k) (fun c hc => HC.out c (List.mem_of_mem_take hc))
        have hm := HC.out _ (List.mem_of_getElem? hx)
        unfold OkS at hm
        simp only [List.length_take] at hb1 hm
        rw [← HG.out] at hb1
        have HBN := Lib.hid (hbw.alloc (by omega) (.cells #[.int .i64 F, .int .i64 y, .int .i64 z] 86))
        clear hx heq hbw
        by_cases c1 : q < y
        · have t1 : decide (q < y) = true := by simpa using c1
          by_cases c2 : y < z
          · have t2 : decide (y < z) = true := by simpa using c2
            have HN := Lib.hid (show pk l p0 = pk (l.drop (k + 1)) ((g + F), z, g + F) from HEQ.out.trans (pk_next HX.out (if_pos c1) (if_pos c2)))
            go_wp2_with fail
            go_quiet (fail)
            go_wp2_with fail
            go_quiet (fail)
            go_wp2
            go_roundw
            case rel => exact ⟨k + 1, by omega, by go_num, (g + F), z, g + F, rfl, rfl, rfl, by omega, by omega, HT.out, HN.out, by first | exact HBN.out | exact below_drewN HBN.out _⟩
            case measure => simp [intOf]; omega
          · have t2 : decide (y < z) = false := by simpa using c2
            have HN := Lib.hid (show pk l p0 = pk (l.drop (k + 1)) (g, y, g + F) from HEQ.out.trans (pk_next HX.out (if_pos c1) (if_neg c2)))
            go_wp2_with fail
            go_quiet (fail)
            go_wp2
            go_roundw
            case rel => exact ⟨k + 1, by omega, by go_num, g, y, g + F, rfl, rfl, rfl, by omega, by omega, HT.out, HN.out, by first | exact HBN.out | exact below_drewN HBN.out _⟩
            case measure => simp [intOf]; omega
        · have t1 : decide (q < y) = false := by simpa using c1
          by_cases c2 : q < z
          · have t2 : decide (q < z) = true := by simpa using c2
            have HN := Lib.hid (show pk l p0 = pk (l.drop (k + 1)) ((g + F), z, g + F) from HEQ.out.trans (pk_next HX.out (if_neg c1) (if_pos c2)))
            go_wp2_with fail
            go_quiet (fail)
            go_wp2
            go_roundw
            case rel => exact ⟨k + 1, by omega, by go_num, (g + F), z, g + F, rfl, rfl, rfl, by omega, by omega, HT.out, HN.out, by first | exact HBN.out | exact below_drewN HBN.out _⟩
            case measure => simp [intOf]; omega
          · have t2 : decide (q < z) = false := by simpa using c2
            have HN := Lib.hid (show pk l p0 = pk (l.drop (k + 1)) (a, q, g + F) from HEQ.out.trans (pk_next HX.out (if_neg c1) (if_neg c2)))
            go_wp2
            go_roundw
            case rel => exact ⟨k + 1, by omega, by go_num, a, q, g + F, rfl, rfl, rfl, by omega, by omega, HT.out, HN.out, by first | exact HBN.out | exact below_drewN HBN.out _⟩
            case measure => simp [intOf]; omega
      · have HE := Lib.hid (show pk l p0 = (a, q, g) by rw [HEQ.out, List.drop_eq_nil_of_le (by omega)]; rfl)
        clear heq hbw
        go_wp2
        refine bodyPost_ret (v := .tuple #[.int .i64 a, .int .i64 q, .int .i64 0]) (by simp [results, Tryz.results12, go_sem]) rfl ⟨by rw [HV.out, HE.out], HBW.out⟩
  · have HV := Lib.hid (show peakV l = (0, 0) by unfold peakV; rw [if_pos hc])
    obtain ⟨cc, hcc⟩ : ∃ cc, cc = codeS l := ⟨_, rfl⟩
    rw [← hcc] at HCK hc ⊢
    have t1 : (cc != 0) = true := by simpa using hc
    clear hcc hr
    go_enter Tryz.func12, Tryz.ntmps12
    go_wp2_with fail
    (with_reducible refine HCK.out.mono ?_)
    rintro e w1 ⟨rfl, hb1⟩
    have HB1 := Lib.hid hb1
    clear hb1
    go_wp2
    refine bodyPost_ret (v := .tuple #[.int .i64 0, .int .i64 0, .int .i64 cc]) (by simp [results, Tryz.results12, go_sem]) rfl ⟨by rw [HV.out], HB1.out⟩

set_option maxHeartbeats 4000000 in
set_option maxRecDepth 100000 in
theorem r7peak_any (A : Option Addr) (c : Nat) (l : List (Int × Int × Int)) (w : World) (hr : Rd w 0 w.heap.size 3 A l.length (cells3 l)) (hok : OkL l) :
    Calls Tryz.prog 57 #[.slice A l.length c] w fun e w' => e = .returned (.tuple #[.int .i64 (pk l (0, -1, 0)).1, .int .i64 (pk l (0, -1, 0)).2.1]) ∧ Below w.heap.size w w' := by
  have HR := Lib.hid hr
  have HC := Lib.hid hok.ok
  have hle := hok.le
  have hne := hok.ne
  obtain ⟨b0, o0, F0, y0, z0, hA, _, hb0, hx0, q00, q01, q02⟩ := hr.at3 hok.ne
  subst hA
  have hm0 := hok.ok _ (List.mem_of_getElem? hx0)
  unfold OkS at hm0
  simp only at hm0
  obtain ⟨p0, hp0⟩ : ∃ p0 : Int × Int × Int, p0 = (0, y0, 0) := ⟨_, rfl⟩
  have HP0 := Lib.hid hp0
  have hl0 : l = (F0, y0, z0) :: l.drop 1 := by have := drop_at hx0; simpa using this
  have HS := Lib.hid (show pk l (0, -1, 0) = pk l p0 by rw [hp0, hl0]; exact pk_start (F0, y0, z0) _ (by show 0 ≤ y0; omega))
  rw [HS.out]
  rw [Nat.zero_mul, Nat.add_zero] at q00 q01 q02
  have hi0 : (0 : Int) < (l.length : Int) := by omega
  clear hok hr hp0 hl0 hx0
  go_enter Tryz.func57, Tryz.ntmps57
  go_wp2_with fail
  go_quiet (fail)
  go_wp2_with fail
  go_loopw [4, 5, 6, 7] (fun av qv gv iv wr => ∃ k : Nat, k ≤ l.length ∧ iv = .int .i64 k ∧ ∃ a q g : Int, av = .int .i64 a ∧ qv = .int .i64 q ∧ gv = .int .i64 g ∧ -1 ≤ q ∧ q ≤ 1000000000 ∧ Hid (g = lenS (l.take k)) ∧ pk l p0 = pk (l.drop k) (a, q, g) ∧ Below w.heap.size w wr) (fun _ _ _ iv _ => l.length - (intOf iv).toNat)
  case atStart => exact ⟨0, Nat.zero_le _, rfl, 0, y0, 0, rfl, rfl, rfl, by omega, by omega, Lib.hid (by simp [lenS]), by rw [HP0.out]; rfl, by first | exact Below.refl _ _ | exact below_drewN (Below.refl _ _) _⟩
  case round =>
    obtain ⟨k, hk, rfl, a, q, g, rfl, rfl, rfl, hq0, hq1, HG, heq, hbw⟩ := hrel
    have HEQ := Lib.hid heq
    have HBW := Lib.hid hbw
    have hsz := hbw.size
    by_cases hlt : k < l.length
    · obtain ⟨bk, o, F, y, z, hA, _, hbk, hx, c0, c1', c2'⟩ := (HR.out.below hbw (Nat.le_refl _)).at3 hlt
      simp only [Option.some.injEq, Addr.mk.injEq, and_true] at hA
      obtain ⟨rfl, rfl⟩ := hA
      have HX := Lib.hid hx
      have HT := Lib.hid (show Hid (g + F = lenS (l.take (k + 1))) from Lib.hid (by rw [lenS_take hx, HG.out]))
      have hb1 := lenS_bd (l := l.take k) (fun c hc => HC.out c (List.mem_of_mem_take hc))
      have hm := HC.out _ (List.mem_of_getElem? hx)
      unfold OkS at hm
      simp only [List.length_take] at hb1 hm
      rw [← HG.out] at hb1
      clear hx heq hbw q00 q01 q02
      by_cases c1 : q < y
      · have t1 : decide (q < y) = true := by simpa using c1
        by_cases c2 : y < z
        · have t2 : decide (y < z) = true := by simpa using c2
          have HN := Lib.hid (show pk l p0 = pk (l.drop (k + 1)) ((g + F), z, g + F) from HEQ.out.trans (pk_next HX.out (if_pos c1) (if_pos c2)))
          go_wp2_with fail
          go_quiet (fail)
          go_wp2_with fail
          go_quiet (fail)
          go_wp2
          go_roundw
          case rel => exact ⟨k + 1, by omega, by go_num, (g + F), z, g + F, rfl, rfl, rfl, by omega, by omega, HT.out, HN.out, by first | exact HBW.out | exact below_drewN HBW.out _⟩
          case measure => simp [intOf]; omega
        · have t2 : decide (y < z) = false := by simpa using c2
          have HN := Lib.hid (show pk l p0 = pk (l.drop (k + 1)) (g, y, g + F) from HEQ.out.trans (pk_next HX.out (if_pos c1) (if_neg c2)))
          go_wp2_with fail
          go_quiet (fail)
          go_wp2
          go_roundw
          case rel => exact ⟨k + 1, by omega, by go_num, g, y, g + F, rfl, rfl, rfl, by omega, by omega, HT.out, HN.out, by first | exact HBW.out | exact below_drewN HBW.out _⟩
          case measure => simp [intOf]; omega
      · have t1 : decide (q < y) = false := by simpa using c1
        by_cases c2 : q < z
        · have t2 : decide (q < z) = true := by simpa using c2
          have HN := Lib.hid (show pk l p0 = pk (l.drop (k + 1)) ((g + F), z, g + F) from HEQ.out.trans (pk_next HX.out (if_neg c1) (if_pos c2)))
          go_wp2_with fail
          go_quiet (fail)
          go_wp2
          go_roundw
          case rel => exact ⟨k + 1, by omega, by go_num, (g + F), z, g + F, rfl, rfl, rfl, by omega, by omega, HT.out, HN.out, by first | exact HBW.out | exact below_drewN HBW.out _⟩
          case measure => simp [intOf]; omega
        · have t2 : decide (q < z) = false := by simpa using c2
          have HN := Lib.hid (show pk l p0 = pk (l.drop (k + 1)) (a, q, g + F) from HEQ.out.trans (pk_next HX.out (if_neg c1) (if_neg c2)))
          go_wp2
          go_roundw
          case rel => exact ⟨k + 1, by omega, by go_num, a, q, g + F, rfl, rfl, rfl, by omega, by omega, HT.out, HN.out, by first | exact HBW.out | exact below_drewN HBW.out _⟩
          case measure => simp [intOf]; omega
    · have HE := Lib.hid (show pk l p0 = (a, q, g) by rw [HEQ.out, List.drop_eq_nil_of_le (by omega)]; rfl)
      clear heq hbw q00 q01 q02
      go_wp2
      go_ret2
      exact ⟨by rw [HE.out]; rfl, HBW.out⟩

set_option maxHeartbeats 2000000 in
set_option maxRecDepth 100000 in
theorem r7Peak_any (A : Option Addr) (c : Nat) (l : List (Int × Int × Int)) (w : World) (hr : Rd w 0 w.heap.size 3 A l.length (cells3 l)) (hl : l.length ≤ 9223372036854775807) :
    Calls Tryz.prog 13 #[.slice A l.length c] w fun e w' => e = .returned (.tuple #[.int .i64 (peakV l).1, .int .i64 (peakV l).2, .int .i64 (codeS l)]) ∧ Below w.heap.size w w' := by
  have HCK := Lib.hid (r7Check_any A c l w hr hl)
  by_cases hc : codeS l = 0
  · have hok := codeS_ok hc
    have HV := Lib.hid (show peakV l = ((pk l (0, -1, 0)).1, (pk l (0, -1, 0)).2.1) by unfold peakV; rw [if_neg (by omega)])
    have HPK := Lib.hid (fun (W : World) (hb : Below w.heap.size w W) => r7peak_any A c l W (hr.old hb) hok)
    rw [hc] at HCK ⊢
    clear hok hc hr
    go_enter Tryz.func13, Tryz.ntmps13
    go_wp2_with fail
    (with_reducible refine HCK.out.mono ?_)
    rintro e w1 ⟨rfl, hb1⟩
    have HB1 := Lib.hid hb1
    clear hb1
    go_wp2_with fail
    (with_reducible refine (HPK.out w1 HB1.out).mono ?_)
    rintro e w2 ⟨rfl, hb2⟩
    have HB2 := Lib.hid (below_next HB1.out hb2)
    clear hb2
    go_wp2
    refine bodyPost_ret (v := .tuple #[.int .i64 (pk l (0, -1, 0)).1, .int .i64 (pk l (0, -1, 0)).2.1, .int .i64 0]) (by simp [results, Tryz.results13, go_sem]) rfl ⟨by rw [HV.out], HB2.out⟩
  · have HV := Lib.hid (show peakV l = (0, 0) by unfold peakV; rw [if_pos hc])
    obtain ⟨cc, hcc⟩ : ∃ cc, cc = codeS l := ⟨_, rfl⟩
    rw [← hcc] at HCK hc ⊢
    have t1 : (cc != 0) = true := by simpa using hc
    clear hcc hr
    go_enter Tryz.func13, Tryz.ntmps13
    go_wp2_with fail
    (with_reducible refine HCK.out.mono ?_)
    rintro e w1 ⟨rfl, hb1⟩
    have HB1 := Lib.hid hb1
    clear hb1
    go_wp2
    refine bodyPost_ret (v := .tuple #[.int .i64 0, .int .i64 0, .int .i64 cc]) (by simp [results, Tryz.results13, go_sem]) rfl ⟨by rw [HV.out], HB1.out⟩
end Go.Proofs.YtepfmoaihhonlaaGreatDoor
