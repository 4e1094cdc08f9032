import Derived.Test.YtkoodmoilfgafaaDoorR7First
import Derived.Test.YtkoodmoilfgafaaDoorGArr
/- Package dynamometerref7: arrival, upTo, between. -/
namespace Go.Proofs.YtkoodmoilfgafaaDoor
open Go Go.RowKit Go.Proofs

/-- what arrival returns -/
def arV (l : List (Int × Int × Int)) (k : Nat) : Int := match arr l k with | none => -1 | some T => (T : Int)
theorem half_eq : mkRat 1 (2 : Int).toNat = (1 : Rat) / 2 := by rw [Rat.mkRat_eq_div]; rfl
theorem fstQ_arr {l : List (Int × Int × Int)} (h : ∀ s ∈ l, OkS s) (k : Nat) : fstQ (((k : Int) : Rat) + mkRat 1 (2 : Int).toNat) 0 0 l = arV l k := by
  have hq : ((k : Int) : Rat) + mkRat 1 (2 : Int).toNat = ((2 * k + 1 : Nat) : Rat) / ((2 : Nat) : Rat) := by
    rw [half_eq]
    have e1 : ((k : Int) : Rat) = ((k : Nat) : Rat) := rfl
    have e2 : ((2 : Nat) : Rat) = 2 := rfl
    have e3 : ((1 : Nat) : Rat) = 1 := rfl
    rw [e1, Rat.natCast_add, Rat.natCast_mul, e2, e3]
    grind
  have h0 : ((0 : Nat) : Rat) / 2000000000 = 0 := by
    have : ((0 : Nat) : Rat) = 0 := rfl
    grind
  have hp : ((0 : Nat) : Rat) / 2000000000 ≤ ((2 * k + 1 : Nat) : Rat) / ((2 : Nat) : Rat) := by
    rw [h0, ← hq, half_eq]
    have : (0 : Rat) ≤ ((k : Nat) : Rat) := Rat.natCast_nonneg
    have e1 : ((k : Int) : Rat) = ((k : Nat) : Rat) := rfl
    rw [e1]
    grind
  have := fstQ_fst (n := 2 * k + 1) (d := 2) (by omega) l 0 0 h hp
  rw [h0, ← hq] at this
  exact this
theorem half_pos (k : Nat) : 0 < ((k : Int) : Rat) + mkRat 1 (2 : Int).toNat := by
  rw [half_eq]
  have : (0 : Rat) ≤ ((k : Nat) : Rat) := Rat.natCast_nonneg
  have e1 : ((k : Int) : Rat) = ((k : Nat) : Rat) := rfl
  rw [e1]
  grind
theorem T4_5' : T4 ^ 5 = 100000000000000000000 := by unfold T4; rfl
theorem half_sz : Sz 1 (mkRat 1 (2 : Int).toNat) := by
  have := sz_part (n := 1) (z := 1) (d := (2 : Int).toNat) (by decide) (by unfold T4; decide) (by unfold T4; decide)
  exact this

set_option maxHeartbeats 2000000 in
set_option maxRecDepth 100000 in
theorem r7Arrival_any (A : Option Addr) (c : Nat) (l : List (Int × Int × Int)) (k : Nat) (w : World) (hr : Rd w 0 w.heap.size 3 A l.length (cells3 l)) (hl : l.length ≤ 50) (hok : ∀ s ∈ l, OkS s) (hk : k ≤ 9223372036854775807) :
    Calls Tryd.prog 42 #[.slice A l.length c, .int .i64 k] w fun e w' => e = .returned (.int .i64 (arV l k)) ∧ Below w.heap.size w w' := by
  have HR := Lib.hid hr
  have HW := Lib.hid (fun W => rWhole_any (k : Int) W (by omega) (by omega))
  have HP := Lib.hid (fun W => rPart_any 1 2 W (by omega) (by omega) (by omega) (by omega))
  have z1 : Sz 5 (((k : Int) : Rat)) := sz_int (by omega) (by rw [T4_5']; omega)
  have z2 : Sz 7 (((k : Int) : Rat) + mkRat 1 (2 : Int).toNat) := sz_add z1 half_sz
  have HA := Lib.hid (fun W u v hu hv => rPlus_any 5 u v (((k : Int) : Rat)) (mkRat 1 (2 : Int).toNat) W (by omega) hu hv z1 (sz_mono half_sz (by omega)))
  have HF := Lib.hid (fun W v hb hv => r7First_any A c l v (((k : Int) : Rat) + mkRat 1 (2 : Int).toNat) W (HR.out.old hb) hl hok hv (sz_mono z2 (by omega)) (half_pos k))
  rw [fstQ_arr hok k] at HF
  clear hr hok z1 z2
  go_enter Tryd.func42, Tryd.ntmps42
  go_wp2_with fail
  refine (HW.out _).mono ?_
  rintro e w1 ⟨v1, rfl, hv1, hb1⟩
  have HV1 := Lib.hid hv1
  have HB1 := Lib.hid hb1
  clear hv1 hb1
  go_wp2_with fail
  refine (HP.out _).mono ?_
  rintro e w2 ⟨v2, rfl, hv2, hb2⟩
  have HA2 := Lib.hid (HA.out w2 v1 v2 (HV1.out.on hb2) hv2)
  have HB2 := Lib.hid (below_next HB1.out hb2)
  clear hv2 hb2
  go_wp2_with fail
  refine HA2.out.mono ?_
  rintro e w3 ⟨v3, rfl, hv3, hb3⟩
  have HF3 := Lib.hid (HF.out w3 v3 (below_next HB2.out hb3) hv3)
  have HB3 := Lib.hid (below_next HB2.out hb3)
  clear hv3 hb3
  go_wp2_with fail
  refine HF3.out.mono ?_
  rintro e w4 ⟨rfl, hb4⟩
  have HB4 := Lib.hid (below_next HB3.out hb4)
  clear hb4
  go_wp2
  go_ret
  exact ⟨rfl, HB4.out⟩

/-- how many arrivals are up to a time, as the reference counts them -/
def uptN (l : List (Int × Int × Int)) (t : Int) : Nat := if t < 0 then 0 else befN l (t.toNat + 1)
theorem arQ_end : ∀ (l : List (Int × Int × Int)) (t : Int), (∀ s ∈ l, OkS s) → lenS l ≤ t → arQ l t = arQ l (lenS l)
  | [], _, _, _ => rfl
  | s :: r, t, h, ht => by
    have hs := (h s (by simp)).1
    have e : lenS (s :: r) = s.1 + lenS r := by simp [lenS]
    have hr := lenS_bd (l := r) (fun x hx => h x (by simp [hx]))
    rw [e] at ht ⊢
    rw [arQ, if_pos (by omega), arQ, if_pos (by omega), arQ_end r (t - s.1) (fun x hx => h x (by simp [hx])) (by omega)]
    rw [show min s.1 t = s.1 from by omega, show min s.1 (s.1 + lenS r) = s.1 from by omega, show s.1 + lenS r - s.1 = lenS r from by omega]
theorem upt_floor {l : List (Int × Int × Int)} (hok : OkL l) {t : Int} (h0 : 0 ≤ t) : frN (arQ l (min t (lenS l)) + mkRat 1 (2 : Int).toNat) / (arQ l (min t (lenS l)) + mkRat 1 (2 : Int).toNat).den = uptN l t := by
  have hne : l ≠ [] := fun h => by have := hok.ne; rw [h] at this; simp at this
  have e1 : arQ l (min t (lenS l)) = arQ l t := by
    rcases Int.le_total t (lenS l) with h | h
    · rw [show min t (lenS l) = t from by omega]
    · rw [show min t (lenS l) = lenS l from by omega, arQ_end l t hok.ok h]
  have e2 := arQ_plQ l 0 t hne hok.ok h0
  have e3 : ((0 : Nat) : Rat) / 2000000000 = 0 := by
    have : ((0 : Nat) : Rat) = 0 := rfl
    grind
  rw [e3, Rat.zero_add] at e2
  have hF : 0 < (loc 0 (stgs l) t.toNat).2.1.F := (upto_small hok t.toNat).2.1
  have := upto_floor hF
  rw [show mkRat 1 2 = mkRat 1 (2 : Int).toNat from rfl, ← e2] at this
  rw [e1, this]
  unfold uptN befN
  rw [if_neg (by omega), if_neg (by omega), Nat.add_sub_cancel]

set_option maxHeartbeats 2000000 in
set_option maxRecDepth 100000 in
theorem r7UpTo_any (A : Option Addr) (c : Nat) (l : List (Int × Int × Int)) (t : Int) (w : World) (hr : Rd w 0 w.heap.size 3 A l.length (cells3 l)) (hok : OkL l) (ht0 : -1 ≤ t) (ht : t ≤ 1000000000000) :
    Calls Tryd.prog 90 #[.slice A l.length c, .int .i64 t] w (RNatPost (uptN l t) w) := by
  have HR := Lib.hid hr
  by_cases h0 : t < 0
  · have t1 : decide (t < 0) = true := by simpa using h0
    have HU := Lib.hid (show uptN l t = 0 by unfold uptN; rw [if_pos h0])
    clear hr hok
    go_enter Tryd.func90, Tryd.ntmps90
    go_wp2
    go_ret
    exact ⟨none, 0, [], rfl, by rw [HU.out]; exact rnatr_nil _, Below.refl _ _⟩
  · have t1 : decide (t < 0) = false := by simpa using h0
    have hbd := lenS_bd hok.ok
    have hle := hok.le
    have HTO := Lib.hid (r7total_any A c l w hr (by omega) hok.ok)
    obtain ⟨m, hm⟩ : ∃ m, m = min t (lenS l) := ⟨_, rfl⟩
    have HAR := Lib.hid (r7Area_any A c l m w hr hok.le hok.ok (by omega))
    have HP := Lib.hid (fun W => rPart_any 1 2 W (by omega) (by omega) (by omega) (by omega))
    have HUF := upt_floor hok (t := t) (by omega)
    rw [← hm] at HUF
    have HU := Lib.hid HUF
    have HM := Lib.hid hm
    clear hr hok HUF hm
    go_enter Tryd.func90, Tryd.ntmps90
    go_wp2_with fail
    refine HTO.out.mono ?_
    rintro e w1 ⟨rfl, rfl⟩
    go_wp2_with fail
    rw [← HM.out]
    refine HAR.out.mono ?_
    rintro e w2 ⟨⟨v2, rfl, hv2, hb2⟩, hz⟩
    have HA := Lib.hid (fun W u v hu hv => rPlus_any 1501 u v (arQ l m) (mkRat 1 (2 : Int).toNat) W (by omega) hu hv hz (sz_mono half_sz (by omega)))
    have HFL := Lib.hid (fun W u hu => rFloor_any 1503 u (arQ l m + mkRat 1 (2 : Int).toNat) W (by omega) hu (sz_add hz half_sz))
    rw [HU.out] at HFL
    have HV2 := Lib.hid hv2
    have HB2 := Lib.hid hb2
    clear hv2 hb2 hz
    go_wp2_with fail
    refine (HP.out _).mono ?_
    rintro e w3 ⟨v3, rfl, hv3, hb3⟩
    have HA3 := Lib.hid (HA.out w3 v2 v3 (HV2.out.on hb3) hv3)
    have HB3 := Lib.hid (below_next HB2.out hb3)
    clear hv3 hb3
    go_wp2_with fail
    refine HA3.out.mono ?_
    rintro e w4 ⟨v4, rfl, hv4, hb4⟩
    have HF4 := Lib.hid (HFL.out w4 v4 hv4)
    have HB4 := Lib.hid (below_next HB3.out hb4)
    clear hv4 hb4
    go_wp2_with fail
    refine HF4.out.mono ?_
    rintro e w5 ⟨A5, c5, l5, rfl, hn5, hb5⟩
    have HN5 := Lib.hid hn5
    have HB5 := Lib.hid (below_next HB4.out hb5)
    clear hn5 hb5
    go_wp2
    go_ret
    exact ⟨A5, c5, l5, rfl, HN5.out, HB5.out⟩
end Go.Proofs.YtkoodmoilfgafaaDoor

/- Package dynamometerref7: between, evens, At, Count, Even. -/
namespace Go.Proofs.YtkoodmoilfgafaaDoor
open Go Go.RowKit Go.Proofs

theorem uptN_bef (l : List (Int × Int × Int)) {t : Int} (h : 0 ≤ t) : uptN l (t - 1) = befN l t.toNat := by
  unfold uptN
  by_cases h0 : t = 0
  · subst h0; rw [if_pos (by omega)]; rfl
  · rw [if_neg (by omega)]; congr 1; omega
theorem intV_small {x : Nat} {m : Int} (h : x ≤ m.toNat) : intV x m = .tuple #[.int .i64 (x : Int), .bool true] := by unfold intV; rw [if_neg (by omega)]
theorem intV_big {x : Nat} {m : Int} (h : m.toNat < x) : intV x m = .tuple #[.int .i64 0, .bool false] := by unfold intV; rw [if_pos h]
theorem T4_5k {x : Nat} (h : x ≤ 100000000000000) : x < T4 ^ 5 := by rw [T4_5']; omega

set_option maxHeartbeats 2000000 in
set_option maxRecDepth 100000 in
theorem r7Between_any (A : Option Addr) (c : Nat) (l : List (Int × Int × Int)) (a b : Nat) (w : World) (hr : Rd w 0 w.heap.size 3 A l.length (cells3 l)) (hok : OkL l) (hab : a ≤ b) (hb : b ≤ 1000000000001) :
    Calls Tryd.prog 44 #[.slice A l.length c, .int .i64 a, .int .i64 b] w fun e w' => e = .returned (.int .i64 ((befN l b : Int) - befN l a)) ∧ Below w.heap.size w w' := by
  have HR := Lib.hid hr
  have HUB := Lib.hid (fun W (hb : Below w.heap.size w W) => r7UpTo_any A c l ((b : Int) - 1) W (HR.out.old hb) hok (by omega) (by omega))
  have HUA := Lib.hid (fun W (hb : Below w.heap.size w W) => r7UpTo_any A c l ((a : Int) - 1) W (HR.out.old hb) hok (by omega) (by omega))
  rw [uptN_bef l (by omega), Int.toNat_natCast] at HUB HUA
  have s1 := befN_small hok a
  have s2 := befN_small hok b
  have s3 := befN_mono hok hab
  have HRE := Lib.hid (show ((befN l b - befN l a : Nat) : Int) = (befN l b : Int) - befN l a by omega)
  obtain ⟨xa, hxa⟩ : ∃ x, x = befN l a := ⟨_, rfl⟩
  obtain ⟨xb, hxb⟩ : ∃ x, x = befN l b := ⟨_, rfl⟩
  rw [← hxa] at HUA HRE s1 s3 ⊢
  rw [← hxb] at HUB HRE s2 s3 ⊢
  clear hr hok hxa hxb
  go_enter Tryd.func44, Tryd.ntmps44
  go_wp2_with fail
  refine (HUB.out w (Below.refl _ _)).mono ?_
  rintro e w1 ⟨A1, c1, l1, rfl, hn1, hb1⟩
  have HN1 := Lib.hid hn1
  have HB1 := Lib.hid hb1
  clear hn1 hb1
  go_wp2_with fail
  refine (HUA.out w1 HB1.out).mono ?_
  rintro e w2 ⟨A2, c2, l2, rfl, hn2, hb2⟩
  have e1 := (HN1.out.on hb2).len (T4_5k s2)
  have HS := Lib.hid (rnatSub_any A1 A2 c1 c2 l1 l2 xb xa w2 (HN1.out.on hb2) hn2 (by omega) s3)
  have HB2 := Lib.hid (below_next HB1.out hb2)
  clear hn2 hb2
  go_wp2_with fail
  refine HS.out.mono ?_
  rintro e w3 ⟨A3, c3, l3, rfl, hn3, hb3⟩
  have e3 := hn3.len (n := 5) (T4_5k (by omega))
  have HI := Lib.hid (rInt_any A3 c3 l3 (xb - xa) 4611686018427387904 w3 hn3 (by omega) (by omega) (by omega))
  rw [intV_small (by omega), HRE.out] at HI
  have HB3 := Lib.hid (below_next HB2.out hb3)
  clear hn3 hb3
  go_wp2_with fail
  refine HI.out.mono ?_
  rintro e w4 ⟨rfl, hb4⟩
  have HB4 := Lib.hid (below_next HB3.out hb4)
  clear hb4
  go_wp2
  go_ret
  exact ⟨rfl, HB4.out⟩

theorem arV_arr {l : List (Int × Int × Int)} (hok : OkL l) {k t : Nat} (h : k < befN l t) : arV l k = (((arr l k).getD 0 : Nat) : Int) := by
  obtain ⟨T, h1, _⟩ := (arr_before hok).1 h
  unfold arV; rw [h1]; rfl

set_option maxHeartbeats 2000000 in
set_option maxRecDepth 100000 in
theorem r7Evens_any (A : Option Addr) (c : Nat) (l : List (Int × Int × Int)) (w : World) (hr : Rd w 0 w.heap.size 3 A l.length (cells3 l)) (hok : OkL l) :
    Calls Tryd.prog 48 #[.slice A l.length c] w fun e w' => ∃ A' c', e = .returned (.tuple #[.slice A' (evenL l).length c', .bool (decide (befN l 1000000000001 ≤ 20000))]) ∧ Rd w' 0 w'.heap.size 1 A' (evenL l).length (ints (evenL l)) ∧ Below w.heap.size w w' := by
  obtain ⟨ii, hii, hiz0, hiz1, hiz2⟩ := info_parts infoI3
  have HR := Lib.hid hr
  have HU := Lib.hid (r7UpTo_any A c l 1000000000000 w hr hok (by omega) (by omega))
  have hC : codeS l = 0 := hok.code
  have hEC : evenC l = if 20000 < befN l 1000000000001 then 3 else 0 := by unfold evenC; rw [if_neg (fun h => h hC)]
  have HAR := Lib.hid (fun W k (hb : Below w.heap.size w W) (hk : k ≤ 20000) => r7Arrival_any A c l k W (HR.out.old hb) hok.le hok.ok (by omega))
  obtain ⟨N, hN⟩ : ∃ N : Nat, N = 1000000000001 := ⟨_, rfl⟩
  have hU : uptN l 1000000000000 = befN l N := by
    have := uptN_bef l (t := 1000000000001) (by omega)
    rw [show (1000000000001 : Int).toNat = N by omega] at this
    exact this
  rw [hU] at HU
  rw [← hN] at hEC ⊢
  have s1 := befN_small hok N
  have HAV := Lib.hid (fun k (h : k < befN l N) => arV_arr hok h)
  have hL : evenC l = 0 → evenL l = evs l (befN l N) := fun h => by unfold evenL; rw [if_pos h, ← hN]
  obtain ⟨n, hn⟩ : ∃ n, n = befN l N := ⟨_, rfl⟩
  rw [← hn] at HU s1 hEC HAV hL ⊢
  have HLE := Lib.hid hL
  clear hL hU hN
  have HN := Lib.hid hn
  have HEC := Lib.hid hEC
  clear hr hok hn hC hEC
  by_cases hbig : 20000 < n
  · have HE3 := Lib.hid (show evenC l = 3 by rw [HEC.out, if_pos hbig])
    have HEL := Lib.hid (show evenL l = [] by unfold evenL; rw [HE3.out, if_neg (by omega)])
    have HD := Lib.hid (show decide (n ≤ 20000) = false by simpa using hbig)
    go_enter Tryd.func48, Tryd.ntmps48
    go_wp2_with fail
    refine HU.out.mono ?_
    rintro e w1 ⟨A1, c1, l1, rfl, hn1, hb1⟩
    have e1 := hn1.len (T4_5k s1)
    have HI := Lib.hid (rInt_any A1 c1 l1 n 20000 w1 hn1 (by omega) (by omega) (by omega))
    rw [intV_big (by omega)] at HI
    have HB1 := Lib.hid hb1
    clear hn1 hb1
    go_wp2_with fail
    refine HI.out.mono ?_
    rintro e w2 ⟨rfl, hb2⟩
    have HB2 := Lib.hid (below_next HB1.out hb2)
    clear hb2
    go_wp2
    go_ret2
    exact ⟨none, 0, by rw [HEL.out, HD.out]; rfl, by rw [HEL.out]; exact Rd.nil, HB2.out⟩
  · have HE0 := Lib.hid (show evenC l = 0 by rw [HEC.out, if_neg hbig])
    have HEL := Lib.hid (HLE.out HE0.out)
    have HD := Lib.hid (show decide (n ≤ 20000) = true by simp; omega)
    go_enter Tryd.func48, Tryd.ntmps48
    go_wp2_with fail
    refine HU.out.mono ?_
    rintro e w1 ⟨A1, c1, l1, rfl, hn1, hb1⟩
    have e1 := hn1.len (T4_5k s1)
    have HI := Lib.hid (rInt_any A1 c1 l1 n 20000 w1 hn1 (by omega) (by omega) (by omega))
    rw [intV_small (by omega)] at HI
    have HB1 := Lib.hid hb1
    clear hn1 hb1
    go_wp2_with fail
    refine HI.out.mono ?_
    rintro e w2 ⟨rfl, hb2⟩
    have HB2 := Lib.hid (below_next HB1.out hb2)
    clear hb2
    go_wp2_with fail
    go_loopw [6, 7] (fun ov iv wr => ∃ k : Nat, iv = .int .i64 k ∧ k ≤ n ∧ wr.ownsRow w2.heap.size 3 1 ov k (ints (evs l k)) ∧ Below w2.heap.size w2 wr) (fun _ iv _ => n - (intOf iv).toNat)
    case atStart => exact ⟨0, rfl, Nat.zero_le _, ⟨by simp [ints, evs], .inl ⟨rfl, rfl⟩⟩, Below.refl _ _⟩
    case round =>
      obtain ⟨k, rfl, hk, hown, hbw⟩ := hrel
      have HOW := Lib.hid hown
      have HBW := Lib.hid hbw
      by_cases hlt : k < n
      · have HA := Lib.hid (HAR.out wr k (below_next HB2.out hbw) (by omega))
        rw [HAV.out k hlt] at HA
        obtain ⟨T, hT⟩ : ∃ T, T = (arr l k).getD 0 := ⟨_, rfl⟩
        rw [← hT] at HA
        have HES := Lib.hid (show ints (evs l (k + 1)) = ints (evs l k) ++ [.int .i64 (T : Int)] by rw [evs_snoc, hT]; simp [ints])
        clear hown hbw hT
        go_wp2_with fail
        refine HA.out.mono ?_
        rintro e w5 ⟨rfl, hb5⟩
        have HO5 := Lib.hid (ownsRow_fr HOW.out (Fr.of_below hb5) (fun i hi hm => by have := (ownsRow_block HOW.out hi).2; omega))
        have HB5 := Lib.hid (HBW.out.trans (hb5.mono HBW.out.size))
        have hs5 := HB5.out.size
        clear hb5
        go_wp2_with (at_builtin; refine wpList_append_own _ rfl (.tmp 21) (.tmp 25) 28 rfl w2.heap.size 3 ii _ 1 8 Tryd.underlying28 hii hiz0 hiz1 hiz2 rfl (by decide) _ k (ints (evs l k)) rfl (HO5.out.alloc _) ⟨w5.heap.size, 0, none⟩ 1 1 [.int .i64 (T : Int)] rfl rfl ?c0 (by simp [Value.oneCell']) ?c3 ?c4 ?c5 ?_)
        case c0 => exact cell_one_new w5 (.int .i64 (T : Int)) 3
        case c3 => unfold maxLen; omega
        case c4 => omega
        case c5 => simp; omega
        intro v' w6 hown6 hgr6 _
        have HB6 := Lib.hid (show Below w2.heap.size w2 w6 from (HB5.out.alloc hs5 _).trans ((Fr.of_grown hgr6).below (B := w2.heap.size) (by simp; omega) (fun i hi hm => by have := (ownsRow_block HO5.out hm).1; omega)))
        have HO6 := Lib.hid (show w6.ownsRow w2.heap.size 3 1 v' (k + 1) (ints (evs l (k + 1))) by rw [HES.out]; exact hown6)
        clear hown6 hgr6
        go_wp2
        go_roundw
        case rel => exact ⟨k + 1, by go_num, by omega, HO6.out, HB6.out⟩
        case measure => simp [intOf]; omega
      · obtain rfl : k = n := by omega
        obtain ⟨A', c', rfl, _, _, _⟩ := ownsRow_shape hown
        have HRD := Lib.hid ((Rd.of_own hown).more (Nat.zero_le _) (Nat.le_refl _))
        have HBE := Lib.hid (below_next HB2.out hbw)
        clear hown hbw
        go_wp2
        go_ret2
        refine ⟨A', c', ?_, ?_, HBE.out⟩
        · rw [HEL.out, evs_length, HD.out]; rfl
        · rw [HEL.out, evs_length]; exact HRD.out

set_option maxHeartbeats 2000000 in
set_option maxRecDepth 100000 in
theorem r7At_any (A : Option Addr) (c : Nat) (l : List (Int × Int × Int)) (k : Int) (w : World) (hr : Rd w 0 w.heap.size 3 A l.length (cells3 l)) (hl : l.length ≤ 9223372036854775807) (hk : k ≤ 9223372036854775807) :
    Calls Tryd.prog 10 #[.slice A l.length c, .int .i64 k] w fun e w' => e = .returned (.tuple #[.int .i64 (atV l k).1, .int .i64 (atV l k).2]) ∧ Below w.heap.size w w' := by
  have HCK := Lib.hid (r7Check_any A c l w hr hl)
  have HR := Lib.hid hr
  clear hr
  by_cases hc : codeS l = 0
  · have hok := codeS_ok hc
    rw [hc] at HCK
    by_cases hbad : k < 0
    · have HV := Lib.hid (show atV l k = (0, 1) by unfold atV; rw [if_neg (by omega), if_pos hbad])
      have b1 : decide (k < 0) = true := by simpa using hbad
      clear hok hc
      go_enter Tryd.func10, Tryd.ntmps10
      go_wp2_with fail
      refine HCK.out.mono ?_
      rintro e w1 ⟨rfl, hb1⟩
      go_wp2
      go_ret2
      exact ⟨by rw [HV.out]; rfl, hb1⟩
    · obtain ⟨kn, rfl⟩ : ∃ kn : Nat, k = kn := ⟨k.toNat, by omega⟩
      have b1 : decide ((kn : Int) < 0) = false := by simp
      have HV := Lib.hid (show atV l kn = ((((arr l kn).getD 0 : Nat) : Int), if (arr l kn).isSome = true then 0 else 4) by unfold atV; rw [if_neg (by omega), if_neg hbad]; rfl)
      have HAR := Lib.hid (fun W (hb : Below w.heap.size w W) => r7Arrival_any A c l kn W (HR.out.old hb) hok.le hok.ok (by omega))
      unfold arV at HAR
      obtain ⟨r, hr⟩ : ∃ r, r = arr l kn := ⟨_, rfl⟩
      rw [← hr] at HV HAR
      clear hok hc hr
      cases r with
      | none =>
        simp only [Option.isSome, Option.getD] at HV HAR ⊢
        go_enter Tryd.func10, Tryd.ntmps10
        go_wp2_with fail
        refine HCK.out.mono ?_
        rintro e w1 ⟨rfl, hb1⟩
        have HB1 := Lib.hid hb1
        clear hb1
        go_wp2_with fail
        refine (HAR.out _ HB1.out).mono ?_
        rintro e w2 ⟨rfl, hb2⟩
        have HB2 := Lib.hid (below_next HB1.out hb2)
        clear hb2
        go_wp2
        go_ret2
        exact ⟨by rw [HV.out]; rfl, HB2.out⟩
      | some T =>
        simp only [Option.isSome, Option.getD] at HV HAR ⊢
        have tT : decide (0 ≤ (T : Int)) = true := by simp
        go_enter Tryd.func10, Tryd.ntmps10
        go_wp2_with fail
        refine HCK.out.mono ?_
        rintro e w1 ⟨rfl, hb1⟩
        have HB1 := Lib.hid hb1
        clear hb1
        go_wp2_with fail
        refine (HAR.out _ HB1.out).mono ?_
        rintro e w2 ⟨rfl, hb2⟩
        have HB2 := Lib.hid (below_next HB1.out hb2)
        clear hb2
        go_wp2
        go_ret2
        exact ⟨by rw [HV.out]; rfl, HB2.out⟩
  · have HV := Lib.hid (show atV l k = (0, codeS l) by unfold atV; rw [if_pos hc])
    obtain ⟨cc, hcc⟩ : ∃ cc, cc = codeS l := ⟨_, rfl⟩
    rw [← hcc] at HCK HV hc
    have t1 : (cc != 0) = true := by simpa using hc
    clear hcc
    go_enter Tryd.func10, Tryd.ntmps10
    go_wp2_with fail
    refine HCK.out.mono ?_
    rintro e w1 ⟨rfl, hb1⟩
    go_wp2
    go_ret2
    exact ⟨by rw [HV.out]; rfl, hb1⟩

set_option maxHeartbeats 2000000 in
set_option maxRecDepth 100000 in
theorem r7Count_any (A : Option Addr) (c : Nat) (l : List (Int × Int × Int)) (a b : Int) (w : World) (hr : Rd w 0 w.heap.size 3 A l.length (cells3 l)) (hl : l.length ≤ 9223372036854775807) :
    Calls Tryd.prog 12 #[.slice A l.length c, .int .i64 a, .int .i64 b] w fun e w' => e = .returned (.tuple #[.int .i64 (countV l a b).1, .int .i64 (countV l a b).2]) ∧ Below w.heap.size w w' := by
  have HCK := Lib.hid (r7Check_any A c l w hr hl)
  have HR := Lib.hid hr
  clear hr
  by_cases hc : codeS l = 0
  · have hok := codeS_ok hc
    rw [hc] at HCK
    by_cases hbad : a < 0 ∨ b < a ∨ 1000000000001 < b
    · have HV := Lib.hid (show countV l a b = (0, 9) by unfold countV; rw [if_neg (by omega), if_pos hbad])
      clear hok hc
      go_enter Tryd.func12, Tryd.ntmps12
      go_wp2_with fail
      refine HCK.out.mono ?_
      rintro e w1 ⟨rfl, hb1⟩
      rcases hbad with h | h | h
      · have b1 : decide (a < 0) = true := by simpa using h
        go_wp2
        go_ret2
        exact ⟨by rw [HV.out]; rfl, hb1⟩
      · by_cases h0 : a < 0
        · have b1 : decide (a < 0) = true := by simpa using h0
          go_wp2
          go_ret2
          exact ⟨by rw [HV.out]; rfl, hb1⟩
        · have b1 : decide (a < 0) = false := by simpa using h0
          have b2 : decide (b < a) = true := by simpa using h
          go_wp2
          go_ret2
          exact ⟨by rw [HV.out]; rfl, hb1⟩
      · by_cases h0 : a < 0
        · have b1 : decide (a < 0) = true := by simpa using h0
          go_wp2
          go_ret2
          exact ⟨by rw [HV.out]; rfl, hb1⟩
        · have b1 : decide (a < 0) = false := by simpa using h0
          by_cases h2 : b < a
          · have b2 : decide (b < a) = true := by simpa using h2
            go_wp2
            go_ret2
            exact ⟨by rw [HV.out]; rfl, hb1⟩
          · have b2 : decide (b < a) = false := by simpa using h2
            have b3 : decide (1000000000001 < b) = true := by simpa using h
            go_wp2
            go_ret2
            exact ⟨by rw [HV.out]; rfl, hb1⟩
    · obtain ⟨an, rfl⟩ : ∃ an : Nat, a = an := ⟨a.toNat, by omega⟩
      obtain ⟨bn, rfl⟩ : ∃ bn : Nat, b = bn := ⟨b.toNat, by omega⟩
      have HV := Lib.hid (show countV l an bn = ((befN l bn : Int) - befN l an, 0) by unfold countV; rw [if_neg (by omega), if_neg hbad]; rfl)
      have b1 : decide ((an : Int) < 0) = false := by simp
      have b2 : decide ((bn : Int) < an) = false := by simp; omega
      have b3 : decide (1000000000001 < (bn : Int)) = false := by simp; omega
      have b2' : decide (bn < an) = false := by simp; omega
      have b3' : decide (1000000000001 < bn) = false := by simp; omega
      have HBT := Lib.hid (fun (W : World) (hb : Below w.heap.size w W) => r7Between_any A c l an bn W (HR.out.old hb) hok (by omega) (by omega))
      obtain ⟨x, hx⟩ : ∃ x, x = (befN l bn : Int) - befN l an := ⟨_, rfl⟩
      rw [← hx] at HV HBT
      clear hok hc hx hbad
      go_enter Tryd.func12, Tryd.ntmps12
      go_wp2_with fail
      refine HCK.out.mono ?_
      rintro e w1 ⟨rfl, hb1⟩
      have HB1 := Lib.hid hb1
      clear hb1
      go_wp2_with fail
      refine (HBT.out _ HB1.out).mono ?_
      rintro e w2 ⟨rfl, hb2⟩
      have HB2 := Lib.hid (below_next HB1.out hb2)
      clear hb2
      go_wp2
      go_ret2
      exact ⟨by rw [HV.out]; rfl, HB2.out⟩
  · have HV := Lib.hid (show countV l a b = (0, codeS l) by unfold countV; rw [if_pos hc])
    obtain ⟨cc, hcc⟩ : ∃ cc, cc = codeS l := ⟨_, rfl⟩
    rw [← hcc] at HCK HV hc
    have t1 : (cc != 0) = true := by simpa using hc
    clear hcc
    go_enter Tryd.func12, Tryd.ntmps12
    go_wp2_with fail
    refine HCK.out.mono ?_
    rintro e w1 ⟨rfl, hb1⟩
    go_wp2
    go_ret2
    exact ⟨by rw [HV.out]; rfl, hb1⟩

set_option maxHeartbeats 2000000 in
set_option maxRecDepth 100000 in
theorem r7Even_any (A : Option Addr) (c : Nat) (l : List (Int × Int × Int)) (w : World) (hr : Rd w 0 w.heap.size 3 A l.length (cells3 l)) (hl : l.length ≤ 9223372036854775807) :
    Calls Tryd.prog 15 #[.slice A l.length c] w fun e w' => ∃ A' c', e = .returned (.tuple #[.slice A' (evenL l).length c', .int .i64 (evenC l)]) ∧ Rd w' 0 w'.heap.size 1 A' (evenL l).length (ints (evenL l)) ∧ Below w.heap.size w w' := by
  have HCK := Lib.hid (r7Check_any A c l w hr hl)
  have HR := Lib.hid hr
  clear hr
  by_cases hc : codeS l = 0
  · have hok := codeS_ok hc
    rw [hc] at HCK
    have HEV := Lib.hid (fun W (hb : Below w.heap.size w W) => r7Evens_any A c l W (HR.out.old hb) hok)
    have hEC : evenC l = if 20000 < befN l 1000000000001 then 3 else 0 := by unfold evenC; rw [if_neg (fun h => h hc)]
    have hLE : evenC l ≠ 0 → evenL l = [] := fun h => by unfold evenL; rw [if_neg h]
    have HLE := Lib.hid hLE
    obtain ⟨n, hn⟩ : ∃ n, n = befN l 1000000000001 := ⟨_, rfl⟩
    rw [← hn] at hEC HEV
    have HEC := Lib.hid hEC
    clear hok hc hn hEC hLE
    by_cases hbig : 20000 < n
    · have HE3 := Lib.hid (show evenC l = 3 by rw [HEC.out, if_pos hbig])
      have hd : decide (n ≤ 20000) = false := by simpa using hbig
      rw [hd, HLE.out (by rw [HE3.out]; omega)] at HEV
      have HEL := Lib.hid (HLE.out (by rw [HE3.out]; omega))
      go_enter Tryd.func15, Tryd.ntmps15
      go_wp2_with fail
      refine HCK.out.mono ?_
      rintro e w1 ⟨rfl, hb1⟩
      have HB1 := Lib.hid hb1
      clear hb1
      go_wp2_with fail
      refine (HEV.out _ HB1.out).mono ?_
      rintro e w2 ⟨A2, c2, rfl, _, hb2⟩
      have HB2 := Lib.hid (below_next HB1.out hb2)
      clear hb2
      go_wp2
      go_ret2
      exact ⟨none, 0, by rw [HE3.out, HEL.out]; rfl, by rw [HEL.out]; exact Rd.nil, HB2.out⟩
    · have HE0 := Lib.hid (show evenC l = 0 by rw [HEC.out, if_neg hbig])
      have hd : decide (n ≤ 20000) = true := by simp; omega
      rw [hd] at HEV
      obtain ⟨L, hL⟩ : ∃ L, L = evenL l := ⟨_, rfl⟩
      rw [← hL] at HEV ⊢
      clear hL HLE
      go_enter Tryd.func15, Tryd.ntmps15
      go_wp2_with fail
      refine HCK.out.mono ?_
      rintro e w1 ⟨rfl, hb1⟩
      have HB1 := Lib.hid hb1
      clear hb1
      go_wp2_with fail
      refine (HEV.out _ HB1.out).mono ?_
      rintro e w2 ⟨A2, c2, rfl, hr2, hb2⟩
      have HR2 := Lib.hid hr2
      have HB2 := Lib.hid (below_next HB1.out hb2)
      clear hb2 hr2
      go_wp2
      go_ret2
      exact ⟨A2, c2, by rw [HE0.out]; rfl, HR2.out, HB2.out⟩
  · obtain ⟨cc, hcc⟩ : ∃ cc, cc = codeS l := ⟨_, rfl⟩
    have HE := Lib.hid (show evenC l = cc by unfold evenC; rw [if_pos hc, hcc])
    rw [← hcc] at HCK hc
    have t1 : (cc != 0) = true := by simpa using hc
    have HEL := Lib.hid (show evenL l = [] by unfold evenL; rw [HE.out, if_neg hc])
    clear hcc
    go_enter Tryd.func15, Tryd.ntmps15
    go_wp2_with fail
    refine HCK.out.mono ?_
    rintro e w1 ⟨rfl, hb1⟩
    go_wp2
    go_ret2
    exact ⟨none, 0, by rw [HE.out, HEL.out]; rfl, by rw [HEL.out]; exact Rd.nil, hb1⟩
end Go.Proofs.YtkoodmoilfgafaaDoor
