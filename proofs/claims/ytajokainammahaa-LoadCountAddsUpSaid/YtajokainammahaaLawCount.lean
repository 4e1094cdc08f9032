/- LoadCountAddsUp: the law's walk. -/
import Derived.Test.YtajokainammahaaEven
namespace Go.Proofs.Ytajokainammahaa
open Go Go.RowKit Go.Proofs

/-- an arrival is before a time just if its number is below -/
theorem arr_before {l : List (Int × Int × Int)} (hok : OkL l) {k t : Nat} : k < befN l t ↔ ∃ T, arr l k = some T ∧ T < t := by
  have hl : ∀ s ∈ stgs l, 0 < s.F ∧ s.F < 2 ^ 64 := by
    intro s hs
    unfold stgs at hs
    obtain ⟨q, hq, rfl⟩ := List.mem_map.1 hs
    have := hok.ok q hq
    unfold OkS at this
    simp only [toStg]; omega
  have key : ∀ t', k < upto (place l t') ↔ ∃ T, arr l k = some T ∧ T ≤ t' := by
    intro t'
    rw [lt_upto (upto_small hok t').2.1]
    cases hf : fst (2 * k + 1) 2 0 0 (stgs l) with
    | none =>
      refine ⟨fun h => absurd h (fst_none _ 0 0 (fun s hs => (hl s hs).1) (stgs_ne hok) hf t'), fun ⟨T, h, _⟩ => ?_⟩
      unfold arr at h; rw [hf] at h; cases h
    | some T =>
      have := (fst_some _ 0 0 T hl hf).2 t'
      rw [Nat.zero_add] at this
      refine ⟨fun h => ⟨T, hf, this.2 h⟩, fun ⟨T', h, h2⟩ => ?_⟩
      unfold arr at h; rw [hf] at h
      obtain rfl := Option.some.inj h
      exact this.1 h2
  unfold befN
  split
  · rename_i h; subst h
    exact ⟨fun h => by omega, fun ⟨T, _, h⟩ => by omega⟩
  · rw [key (t - 1)]
    exact ⟨fun ⟨T, h1, h2⟩ => ⟨T, h1, by omega⟩, fun ⟨T, h1, h2⟩ => ⟨T, h1, by omega⟩⟩
theorem befN_mono {l : List (Int × Int × Int)} (hok : OkL l) {s t : Nat} (h : s ≤ t) : befN l s ≤ befN l t := by
  rcases Nat.lt_or_ge (befN l t) (befN l s) with h' | h'
  · obtain ⟨T, h1, h2⟩ := (arr_before hok).1 h'
    have := (arr_before hok (k := befN l t) (t := t)).2 ⟨T, h1, by omega⟩
    omega
  · exact h'
/-- how many of the first ones are in a stretch -/
def cntIn (L : List Int) (a c : Int) : Nat := (L.filter fun t => decide (a ≤ t ∧ t < c)).length
theorem cntIn_snoc (L : List Int) (t a c : Int) : cntIn (L ++ [t]) a c = cntIn L a c + if a ≤ t ∧ t < c then 1 else 0 := by
  unfold cntIn
  rw [List.filter_append, List.length_append]
  congr 1
  by_cases h : a ≤ t ∧ t < c
  · rw [if_pos h, List.filter_cons_of_pos (by simpa using h)]; rfl
  · rw [if_neg h, List.filter_cons_of_neg (by simpa using h)]; rfl
theorem cntIn_evs {l : List (Int × Int × Int)} (hok : OkL l) {a c : Nat} (hac : a ≤ c) : ∀ k, k ≤ befN l 1000000000001 → cntIn (evs l k) a c = min k (befN l c) - min k (befN l a)
  | 0, _ => by simp [cntIn, evs]
  | k + 1, hk => by
    have ih := cntIn_evs hok hac k (by omega)
    obtain ⟨T, hT, _⟩ := (arr_before hok).1 (show k < befN l 1000000000001 by omega)
    have hA : k < befN l a ↔ T < a := by
      rw [arr_before hok]
      exact ⟨fun ⟨T', h, h2⟩ => by rw [hT] at h; cases h; exact h2, fun h => ⟨T, hT, h⟩⟩
    have hC : k < befN l c ↔ T < c := by
      rw [arr_before hok]
      exact ⟨fun ⟨T', h, h2⟩ => by rw [hT] at h; cases h; exact h2, fun h => ⟨T, hT, h⟩⟩
    have hm := befN_mono hok hac
    rw [evs_snoc, cntIn_snoc, ih, hT]
    simp only [Option.getD_some]
    by_cases h : (a : Int) ≤ (T : Int) ∧ (T : Int) < c
    · rw [if_pos h]; omega
    · rw [if_neg h]; omega
theorem countV_ok {l : List (Int × Int × Int)} {a b : Int} (h : (countV l a b).2 = 0) : OkL l ∧ 0 ≤ a ∧ a ≤ b ∧ b ≤ 1000000000001 ∧ (countV l a b).1 = (befN l b.toNat : Int) - befN l a.toNat := by
  unfold countV at *
  split at h
  · rename_i h1; exact absurd h (by simpa using h1)
  · rename_i h1
    split at h
    · simp at h
    · rename_i h2
      rw [if_neg h1, if_neg h2]
      exact ⟨codeS_ok (by simpa using h1), by omega, by omega, by omega, rfl⟩
theorem countV_of {l : List (Int × Int × Int)} {a b : Int} (hok : OkL l) (h0 : 0 ≤ a) (h1 : a ≤ b) (h2 : b ≤ 1000000000001) : countV l a b = ((befN l b.toNat : Int) - befN l a.toNat, 0) := by
  unfold countV
  rw [if_neg (by simpa using hok.code), if_neg (by omega)]

set_option maxHeartbeats 4000000 in
set_option maxRecDepth 100000 in
theorem lawCount_any (A : Option Addr) (c : Nat) (l : List (Int × Int × Int)) (a b d : Int) (w : World) (hr : Rd w 0 w.heap.size 3 A l.length (cells3 l)) (hl : l.length ≤ 9223372036854775807) :
    Calls Try.prog 3 #[.slice A l.length c, .int .i64 a, .int .i64 b, .int .i64 d] w fun e w' => e = .returned (.bool true) ∧ Below w.heap.size w w' := by
  have HEV := Lib.hid (fun W => lawEven_any W)
  have HC1 := Lib.hid (count_any A c l a b w hr hl)
  have HC2 := Lib.hid (fun W (hb : Below w.heap.size w W) => count_any A c l b d W (hr.old hb) hl)
  have HC3 := Lib.hid (fun W (hb : Below w.heap.size w W) => count_any A c l a d W (hr.old hb) hl)
  have HEN := Lib.hid (fun W (hb : Below w.heap.size w W) => even_any A c l W (hr.old hb) hl)
  clear hr
  by_cases hgood : (countV l a b).2 = 0 ∧ (countV l b d).2 = 0
  · obtain ⟨hok, ha0, hab, _, hx⟩ := countV_ok hgood.1
    obtain ⟨_, _, hbd, hd, hy⟩ := countV_ok hgood.2
    have hz := countV_of hok ha0 (show a ≤ d by omega) hd
    rw [hgood.1, hx] at HC1
    simp only [hgood.2, hy] at HC2
    simp only [hz] at HC3
    obtain ⟨an, rfl⟩ : ∃ an : Nat, a = an := ⟨a.toNat, by omega⟩
    obtain ⟨bn, rfl⟩ : ∃ bn : Nat, b = bn := ⟨b.toNat, by omega⟩
    obtain ⟨dn, rfl⟩ : ∃ dn : Nat, d = dn := ⟨d.toNat, by omega⟩
    simp only [Int.toNat_natCast] at HC1 HC2 HC3
    have s1 := befN_small hok an
    have s2 := befN_small hok bn
    have s3 := befN_small hok dn
    have hmon := befN_mono hok (show an ≤ dn by omega)
    have hmon2 := befN_mono hok (show dn ≤ 1000000000001 by omega)
    have HCNT := Lib.hid (fun (h : evenC l = 0) => show cntIn (evenL l) an dn = befN l dn - befN l an from by
      unfold evenL
      rw [if_pos h]
      have e := cntIn_evs hok (a := an) (c := dn) (by omega) (befN l 1000000000001) (Nat.le_refl _)
      rw [e]
      clear e h
      revert hmon2
      generalize befN l 1000000000001 = N
      intro hmon2
      omega)
    have HEC := Lib.hid (show evenC l = 0 ∨ evenC l = 3 by unfold evenC; rw [if_neg (by simpa using hok.code)]; split <;> simp)
    obtain ⟨x1, hx1⟩ : ∃ q, q = befN l an := ⟨_, rfl⟩
    obtain ⟨x2, hx2⟩ : ∃ q, q = befN l bn := ⟨_, rfl⟩
    obtain ⟨x3, hx3⟩ : ∃ q, q = befN l dn := ⟨_, rfl⟩
    simp only [← hx1, ← hx2, ← hx3] at HC1 HC2 HC3 HCNT s1 s2 s3 hmon
    have hsum : ((x2 : Int) - x1 + ((x3 : Int) - x2) != (x3 : Int) - x1) = false := by simp; omega
    have hLl : (evenL l).length ≤ 20000 := by
      unfold evenL
      split
      · rename_i h
        rw [evs_length]
        unfold evenC at h
        split at h
        · omega
        · split at h
          · omega
          · omega
      · simp
    clear hgood hx hy hz hok hx1 hx2 hx3 hmon2
    go_enter Try.func3, Try.ntmps3
    go_wp2_with fail
    refine HC1.out.mono ?_
    rintro e w1 ⟨rfl, hb1⟩
    have HB1 := Lib.hid hb1
    clear hb1
    go_wp2_with fail
    refine (HC2.out w1 HB1.out).mono ?_
    rintro e w2 ⟨rfl, hb2⟩
    have HB2 := Lib.hid (below_next HB1.out hb2)
    clear hb2
    go_wp2_with fail
    refine (HC3.out w2 HB2.out).mono ?_
    rintro e w3 ⟨rfl, hb3⟩
    have HB3 := Lib.hid (below_next HB2.out hb3)
    clear hb3
    go_wp2_with fail
    refine (HEN.out w3 HB3.out).mono ?_
    rintro e w4 ⟨A', c', rfl, hrd, hb4⟩
    have HB4 := Lib.hid (below_next HB3.out hb4)
    have HRD := Lib.hid hrd
    clear hb4 hrd
    rcases HEC.out with he | he
    · have hcn := HCNT.out he
      rw [he]
      obtain ⟨L, hL⟩ : ∃ L, L = evenL l := ⟨_, rfl⟩
      rw [← hL] at hcn HRD hLl ⊢
      have HCN := Lib.hid hcn
      clear hL he hcn
      go_wp2_with fail
      go_loop [17, 18] (fun nv iv => ∃ i m : Nat, nv = .int .i64 m ∧ iv = .int .i64 i ∧ i ≤ L.length ∧ m = cntIn (L.take i) an dn ∧ m ≤ i) (fun _ iv => L.length - (intOf iv).toNat)
      case atStart => exact ⟨0, 0, rfl, rfl, Nat.zero_le _, by simp [cntIn], Nat.le_refl _⟩
      case round =>
        obtain ⟨i, m, rfl, rfl, hi, hm, hmi⟩ := hrel
        have HM := Lib.hid hm
        clear hm
        by_cases hlt : i < L.length
        · obtain ⟨bb, ob, ub, rfl, _, hub, qb⟩ := HRD.out.at1 hlt
          obtain ⟨T, hT, rfl⟩ := ints_get hub
          have HS := Lib.hid (show cntIn (L.take (i + 1)) an dn = m + if (an : Int) ≤ T ∧ T < dn then 1 else 0 by rw [List.take_add_one, hT, HM.out]; exact cntIn_snoc _ _ _ _)
          clear hub hT
          by_cases h1 : (an : Int) ≤ T
          · have b1 : decide ((an : Int) ≤ T) = true := by simpa using h1
            by_cases h2 : T < (dn : Int)
            · have b2 : decide (T < (dn : Int)) = true := by simpa using h2
              rw [if_pos ⟨h1, h2⟩] at HS
              go_wp2
              go_round
              case rel => exact ⟨i + 1, m + 1, by go_num, by go_num, by omega, HS.out.symm, by omega⟩
              case measure => simp [intOf]; omega
            · have b2 : decide (T < (dn : Int)) = false := by simpa using h2
              rw [if_neg (fun h => h2 h.2)] at HS
              go_wp2
              go_round
              case rel => exact ⟨i + 1, m, by go_num, by go_num, by omega, HS.out.symm, by omega⟩
              case measure => simp [intOf]; omega
          · have b1 : decide ((an : Int) ≤ T) = false := by simpa using h1
            rw [if_neg (fun h => h1 h.1)] at HS
            go_wp2
            go_round
            case rel => exact ⟨i + 1, m, by go_num, by go_num, by omega, HS.out.symm, by omega⟩
            case measure => simp [intOf]; omega
        · have hm : m = x3 - x1 := by have := HM.out; rw [List.take_of_length_le (by omega), HCN.out] at this; exact this
          have hz2 : ((m : Int) == (x3 : Int) - x1) = true := by simp; omega
          have hz3 : (m : Int) = (x3 : Int) - x1 := by omega
          clear hm
          go_wp2_with fail
          refine (HEV.out _).mono ?_
          rintro e w5 ⟨rfl, hb5⟩
          go_wp2
          go_ret
          exact ⟨rfl, below_next HB4.out hb5⟩
    · rw [he]
      clear he
      go_wp2_with fail
      refine (HEV.out _).mono ?_
      rintro e w5 ⟨rfl, hb5⟩
      go_wp2
      go_ret
      exact ⟨rfl, below_next HB4.out hb5⟩
  · obtain ⟨⟨x, e1⟩, hv1⟩ : ∃ q, q = countV l a b := ⟨_, rfl⟩
    obtain ⟨⟨y, e2⟩, hv2⟩ : ∃ q, q = countV l b d := ⟨_, rfl⟩
    obtain ⟨⟨z, e3⟩, hv3⟩ : ∃ q, q = countV l a d := ⟨_, rfl⟩
    simp only [← hv1] at HC1 hgood
    simp only [← hv2] at HC2 hgood
    simp only [← hv3] at HC3
    clear hv1 hv2 hv3
    by_cases h1 : e1 = 0
    · have t1 : (e1 != 0) = false := by simpa using h1
      have t2 : (e2 != 0) = true := by simp; intro h; exact hgood ⟨h1, h⟩
      clear hgood
      subst h1
      go_enter Try.func3, Try.ntmps3
      go_wp2_with fail
      refine HC1.out.mono ?_
      rintro e w1 ⟨rfl, hb1⟩
      have HB1 := Lib.hid hb1
      clear hb1
      go_wp2_with fail
      refine (HC2.out w1 HB1.out).mono ?_
      rintro e w2 ⟨rfl, hb2⟩
      have HB2 := Lib.hid (below_next HB1.out hb2)
      clear hb2
      go_wp2_with fail
      refine (HC3.out w2 HB2.out).mono ?_
      rintro e w3 ⟨rfl, hb3⟩
      have HB3 := Lib.hid (below_next HB2.out hb3)
      clear hb3
      go_wp2_with fail
      refine (HEV.out _).mono ?_
      rintro e w5 ⟨rfl, hb5⟩
      go_wp2
      go_ret
      exact ⟨rfl, below_next HB3.out hb5⟩
    · have t1 : (e1 != 0) = true := by simpa using h1
      clear hgood h1
      go_enter Try.func3, Try.ntmps3
      go_wp2_with fail
      refine HC1.out.mono ?_
      rintro e w1 ⟨rfl, hb1⟩
      have HB1 := Lib.hid hb1
      clear hb1
      go_wp2_with fail
      refine (HC2.out w1 HB1.out).mono ?_
      rintro e w2 ⟨rfl, hb2⟩
      have HB2 := Lib.hid (below_next HB1.out hb2)
      clear hb2
      go_wp2_with fail
      refine (HC3.out w2 HB2.out).mono ?_
      rintro e w3 ⟨rfl, hb3⟩
      have HB3 := Lib.hid (below_next HB2.out hb3)
      clear hb3
      go_wp2_with fail
      refine (HEV.out _).mono ?_
      rintro e w5 ⟨rfl, hb5⟩
      go_wp2
      go_ret
      exact ⟨rfl, below_next HB3.out hb5⟩
end Go.Proofs.Ytajokainammahaa
