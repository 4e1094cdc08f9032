/- LoadAdmitKeepsTheLimit: the law's walk. -/
import Derived.Test.YtajokainammahaaAdmit
import Derived.Test.YtajokainammahaaEven
import Derived.Test.YtajokainammahaaRMul
import Derived.Deep.RegionHeld3
import Derived.Deep.CutRange
namespace Go.Proofs.Ytajokainammahaa
open Go Go.RowKit Go.Proofs

theorem rlen_of_lt {l : List Nat} {x n : Nat} (hn : Norm T4 l) (hv : val T4 l = x) (h : x < T4 ^ n) : l.length ≤ n := by
  rcases Nat.lt_or_ge n l.length with h' | h'
  · have hne : l ≠ [] := by rintro rfl; simp at h'
    have := val_ge T4_pos hn hne
    have : T4 ^ n ≤ T4 ^ (l.length - 1) := Nat.pow_le_pow_right (by unfold T4; omega) (by omega)
    omega
  · exact h'
theorem T4_10 : T4 ^ 10 = 10000000000000000000000000000000000000000 := by unfold T4; rfl
theorem rsmall {w : World} {A : Option Addr} {c : Nat} {ll : List Nat} {x : Nat} (h : RNatR w A c ll x) (hx : x < 10000000000000000000000000000000000000000) : ll.length ≤ 10 := rlen_of_lt h.norm h.val (by rw [T4_10]; exact hx)
theorem adm_ok {ts : List Int} {r b : Int} (h : admC ts r b = 0) : OkT ts ∧ admOk r b ∧ (∃ s, stS (b * 1000000000) r ts ts.length = some s) ∧ admL ts r b = outsS (b * 1000000000) r ts ts.length := by
  have hL : admL ts r b = outsS (b * 1000000000) r ts ts.length := by unfold admL; rw [if_pos h]
  unfold admC at h
  split at h
  · rename_i hc; exact absurd h hc
  · rename_i hc
    split at h
    · omega
    · rename_i ha
      split at h
      · omega
      · rename_i hs
        refine ⟨codeT_ok (by simpa using hc), by simpa using ha, ?_, hL⟩
        cases e : stS (b * 1000000000) r ts ts.length with
        | none => exact absurd e hs
        | some s => exact ⟨s, rfl⟩
/-- the elements of the list, with the law -/
theorem adm_at {ts : List Int} {r b : Int} (h : admC ts r b = 0) {i : Nat} (hi : i < ts.length) : ∃ s t, stS (b * 1000000000) r ts (i + 1) = some s ∧ ts[i]? = some t ∧ (admL ts r b)[i]? = some s.2 ∧ t ≤ s.2 ∧ 0 ≤ s.2 ∧ s.2 ≤ 100000000000000 := by
  obtain ⟨hok, ha, ⟨s, hs⟩, hL⟩ := adm_ok h
  obtain ⟨a1, a2, a3, a4⟩ := ha
  obtain ⟨⟨h1, x1⟩, h1s⟩ := stS_some hs (k := i + 1) (by omega)
  obtain ⟨⟨h0, x0⟩, h0s⟩ := stS_some hs (k := i) (by omega)
  have ht : ts[i]? = some (ts[i]) := List.getElem?_eq_getElem hi
  have hst := st_step a1 (by omega) h0s h1s ht
  have hb := st_bd a1 (by omega) _ _ _ h1s
  have hh := st_hi a1 (by omega) (fun t ht => by obtain ⟨j, hj⟩ := List.mem_iff_getElem?.1 ht; exact (hok.range hj).2) _ _ _ h1s
  have hn := hok.le
  exact ⟨(h1, x1), ts[i], h1s, ht, by rw [hL]; exact outsS_get hi h1s, hst.2.1, hb.2.2.1, by simp only; omega⟩
theorem adm_pair {ts : List Int} {r b : Int} (h : admC ts r b = 0) {i k : Nat} {x y : Int} (hik : i ≤ k) (hx : (admL ts r b)[i]? = some x) (hy : (admL ts r b)[k]? = some y) : x ≤ y ∧ ((k : Int) - i + 1) * 1000000000 ≤ b * 1000000000 + r * (y - x) := by
  obtain ⟨hok, ha, ⟨s, hs⟩, hL⟩ := adm_ok h
  obtain ⟨a1, a2, a3, a4⟩ := ha
  have hk : k < ts.length := by
    have := (List.getElem?_eq_some_iff.1 hy).1
    rwa [hL, outsS_length] at this
  obtain ⟨s1, h1⟩ := stS_some hs (k := i + 1) (by omega)
  obtain ⟨s2, h2⟩ := stS_some hs (k := k + 1) (by omega)
  have e1 := outsS_get (n := ts.length) (show i < ts.length by omega) h1
  have e2 := outsS_get (n := ts.length) hk h2
  rw [hL] at hx hy
  obtain rfl : s1.2 = x := Option.some.inj (e1.symm.trans hx)
  obtain rfl : s2.2 = y := Option.some.inj (e2.symm.trans hy)
  exact adm_law a1 (by omega) h1 h2 hik
theorem adm_cmp {b r : Int} {x y : Int} {i k : Nat} (hb : 0 ≤ b) (hr : 0 ≤ r) (hxy : x ≤ y) (hik : i ≤ k) (h : ((k : Int) - i + 1) * 1000000000 ≤ b * 1000000000 + r * (y - x)) :
    decide (0 < cmpN (((k : Int) - i + 1).toNat * (1000000000 : Int).toNat) (b.toNat * (1000000000 : Int).toNat + r.toNat * (y - x).toNat)) = false := by
  have h1 : ((k : Int) - i + 1).toNat * (1000000000 : Int).toNat ≤ b.toNat * (1000000000 : Int).toNat + r.toNat * (y - x).toNat := by
    have e1 : ((((k : Int) - i + 1).toNat * (1000000000 : Int).toNat : Nat) : Int) = ((k : Int) - i + 1) * 1000000000 := by
      rw [Int.natCast_mul, Int.toNat_of_nonneg (by omega)]; rfl
    have e2 : ((b.toNat * (1000000000 : Int).toNat + r.toNat * (y - x).toNat : Nat) : Int) = b * 1000000000 + r * (y - x) := by
      rw [Int.natCast_add, Int.natCast_mul, Int.natCast_mul, Int.toNat_of_nonneg hb, Int.toNat_of_nonneg hr, Int.toNat_of_nonneg (show 0 ≤ y - x by omega)]; rfl
    omega
  unfold cmpN
  split
  · simp
  · split
    · simp
    · omega

theorem mul_small {a b : Nat} (ha : a ≤ 100000000000000000) (hb : b ≤ 100000000000000000) : a * b < 1000000000000000000000000000000000000000 := by
  have := Nat.mul_le_mul ha hb
  omega

set_option maxHeartbeats 4000000 in
set_option maxRecDepth 100000 in
theorem lawAdmit_any (A : Option Addr) (c : Nat) (ts : List Int) (r b : Int) (w : World) (hr : Rd w 0 w.heap.size 1 A ts.length (ints ts)) (hl : ts.length ≤ 9223372036854775807) :
    Calls Try.prog 4 #[.slice A ts.length c, .int .i64 r, .int .i64 b] w fun e w' => e = .returned (.bool true) ∧ Below w.heap.size w w' := by
  have HEV := Lib.hid (fun W => lawEven_any W)
  have HAD := Lib.hid (admit_any A c ts r b w hr hl)
  have HR := Lib.hid hr
  clear hr
  by_cases hgood : admC ts r b = 0 ∧ ts.length ≤ 100
  · obtain ⟨hg, hn⟩ := hgood
    obtain ⟨hok, ha, _, hLo⟩ := adm_ok hg
    obtain ⟨a1, a2, a3, a4⟩ := ha
    have hLl : (admL ts r b).length = ts.length := by rw [hLo, outsS_length]
    have HAT := Lib.hid (fun (i : Nat) (hi : i < ts.length) => adm_at hg hi)
    have HPR := Lib.hid (fun (i k : Nat) (x y : Int) (hik : i ≤ k) (hx : (admL ts r b)[i]? = some x) (hy : (admL ts r b)[k]? = some y) => adm_pair hg hik hx hy)
    rw [hg, hLl] at HAD
    obtain ⟨L, hL⟩ : ∃ L, L = admL ts r b := ⟨_, rfl⟩
    rw [← hL] at HAD HAT HPR hLl
    have t2 : decide (100 < (ts.length : Int)) = false := by simp; omega
    clear hg hok hLo hL
    go_enter Try.func4, Try.ntmps4
    go_wp2_with fail
    refine HAD.out.mono ?_
    rintro e w1 ⟨A', c', rfl, hrd, hb1⟩
    have HB1 := Lib.hid hb1
    have HRD := Lib.hid hrd
    clear hb1 hrd
    go_wp2_with fail
    go_loopw [9, 10, 11, 12] (fun iv _ _ _ wr => ∃ i : Nat, iv = .int .i64 i ∧ i ≤ ts.length ∧ Below w1.heap.size w1 wr) (fun iv _ _ _ _ => ts.length - (intOf iv).toNat)
    case atStart => exact ⟨0, rfl, Nat.zero_le _, Below.refl _ _⟩
    case round =>
      obtain ⟨i, rfl, hi, hbw⟩ := hrel
      have HBW := Lib.hid hbw
      by_cases hlt : i < ts.length
      · obtain ⟨⟨h1, x⟩, t, hs1, ht, hx, htx, hx0, hx1⟩ := HAT.out i hlt
        simp only at hx htx hx0 hx1
        obtain ⟨bT, oT, uT, rfl, hbT, huT, qT⟩ := (HR.out.old (below_next HB1.out hbw)).at1 hlt
        obtain ⟨bL, oL, uL, rfl, hbL, huL, qL⟩ := (HRD.out.old hbw).at1 hlt
        obtain ⟨t', ht', rfl⟩ := ints_get huT
        obtain ⟨x', hx', rfl⟩ := ints_get huL
        obtain rfl : t' = t := Option.some.inj (ht'.symm.trans ht)
        obtain rfl : x' = x := Option.some.inj (hx'.symm.trans hx)
        have g1 : decide (x' < t') = false := by simp; omega
        have HX := Lib.hid hx
        have HOB := Lib.hid (fun W => rnatOf_any b W (by omega))
        have HOR := Lib.hid (fun W => rnatOf_any r W (by omega))
        have HO9 := Lib.hid (fun W => rnatOf_any 1000000000 W (by omega))
        have HMU := Lib.hid (fun W A1 c1 l1 A2 c2 l2 x y (h1 : RNatR W A1 c1 l1 x) (h2 : RNatR W A2 c2 l2 y) (b1 : x < 10000000000000000000000000000000000000000) (b2 : y < 10000000000000000000000000000000000000000) => rnatMul_any A1 A2 c1 c2 l1 l2 x y W h1 h2 (by have := rsmall h1 b1; omega) (by have := rsmall h2 b2; omega))
        have HAA := Lib.hid (fun W A1 c1 l1 A2 c2 l2 x y (h1 : RNatR W A1 c1 l1 x) (h2 : RNatR W A2 c2 l2 y) (b1 : x < 10000000000000000000000000000000000000000) (b2 : y < 10000000000000000000000000000000000000000) => rnatAdd_any A1 A2 c1 c2 l1 l2 x y W h1 h2 (by have := rsmall h1 b1; omega) (by have := rsmall h2 b2; omega))
        have HCM := Lib.hid (fun W A1 c1 l1 A2 c2 l2 x y (h1 : RNatR W A1 c1 l1 x) (h2 : RNatR W A2 c2 l2 y) (b1 : x < 10000000000000000000000000000000000000000) (b2 : y < 10000000000000000000000000000000000000000) => rnatCmp_any A1 A2 c1 c2 l1 l2 x y W h1 h2 (by have := rsmall h1 b1; omega) (by have := rsmall h2 b2; omega))
        have HRT := Lib.hid (fun W (hb : Below w1.heap.size w1 W) => HRD.out.old hb)
        have hpre : (decide (0 < i) = false ∧ decide (0 < (i : Int)) = false) ∨ (decide (0 < i) = true ∧ decide (0 < (i : Int)) = true ∧ ∃ j : Nat, (i : Int) - 1 = (j : Int) ∧ j < ts.length ∧ ∃ x0, decide (x' < x0) = false ∧ wr.cell? ⟨bL, oL + j, none⟩ = some (.int .i64 x0)) := by
          rcases i with _ | j
          · exact .inl ⟨rfl, rfl⟩
          · obtain ⟨s0, t0, _, _, h0, _⟩ := HAT.out j (by omega)
            have hp := HPR.out j (j + 1) _ _ (by omega) h0 hx
            obtain ⟨bL', oL', uL', hA, hbL', huL', qL'⟩ := (HRD.out.old hbw).at1 (show j < ts.length by omega)
            obtain ⟨x'', hx'', rfl⟩ := ints_get huL'
            simp only [Option.some.injEq, Addr.mk.injEq, and_true] at hA
            obtain ⟨rfl, rfl⟩ := hA
            obtain rfl : x'' = s0.2 := Option.some.inj (hx''.symm.trans h0)
            exact .inr ⟨by simp, by simp <;> omega, j, by omega, by omega, s0.2, by simp <;> omega, qL'⟩
        have HPI := Lib.hid (fun k y (hik : i ≤ k) (hy : L[k]? = some y) => HPR.out i k x' y hik hx hy)
        have HRL := Lib.hid (fun k (hk : k < ts.length) => HAT.out k hk)
        have HQI := Lib.hid (fun W (hb : Below w1.heap.size w1 W) => show W.cell? ⟨bL, oL + i, none⟩ = some (.int .i64 x') from by
          obtain ⟨bL', oL', uL', hA, hbL', huL', qL'⟩ := (HRD.out.old hb).at1 hlt
          obtain ⟨x'', hx'', rfl⟩ := ints_get huL'
          simp only [Option.some.injEq, Addr.mk.injEq, and_true] at hA
          obtain ⟨rfl, rfl⟩ := hA
          obtain rfl : x'' = x' := Option.some.inj (hx''.symm.trans hx)
          exact qL')
        clear hs1 ht hx hx' ht' huT huL htx hbw
        go_wp2_with fail
        go_cut [63] from 33 to 99 (fun v wx => v = .bool false ∧ Below w1.heap.size w1 wx)
        case first =>
          rcases hpre with ⟨g2, g2'⟩ | ⟨g2, g2', j, hj, hj1, x0, g3, qP⟩
          all_goals go_quiet (fail)
          all_goals go_wp2_with fail
          all_goals go_meet
          all_goals exact ⟨rfl, below_drewN HBW.out _⟩
        case rest =>
          obtain ⟨rfl, hcut⟩ := hcut
          have HBC := Lib.hid hcut
          clear hcut hpre
          go_wp2_with fail
          go_loopw [10, 11, 12] (fun kv _ _ wr2 => ∃ k : Nat, kv = .int .i64 k ∧ i ≤ k ∧ k ≤ ts.length ∧ Below w1.heap.size w1 wr2) (fun kv _ _ _ => ts.length - (intOf kv).toNat)
          case atStart => exact ⟨i, rfl, Nat.le_refl _, by omega, HBC.out⟩
          case round =>
            obtain ⟨k, rfl, hik, hk, hbw2⟩ := hrel
            have HBK := Lib.hid hbw2
            by_cases hlk : k < ts.length
            · obtain ⟨⟨h2, y⟩, t2, _, _, hy, _, hy0, hy1⟩ := HRL.out k hlk
              simp only at hy hy0 hy1
              have hpi := HPI.out k y hik hy
              obtain ⟨bL', oL', uL', hA, hbL', huL', qk⟩ := (HRD.out.old hbw2).at1 hlk
              obtain ⟨y', hy', rfl⟩ := ints_get huL'
              simp only [Option.some.injEq, Addr.mk.injEq, and_true] at hA
              obtain ⟨rfl, rfl⟩ := hA
              obtain rfl : y' = y := Option.some.inj (hy'.symm.trans hy)
              have hcm := adm_cmp (b := b) (r := r) (x := x') (y := y') (i := i) (k := k) (by omega) (by omega) hpi.1 hik hpi.2
              have HQK := Lib.hid (fun W (hb : Below w1.heap.size w1 W) => show W.cell? ⟨bL, oL + k, none⟩ = some (.int .i64 y') from by
                obtain ⟨bL', oL', uL', hA, hbL', huL', qL'⟩ := (HRD.out.old hb).at1 hlk
                obtain ⟨x'', hx'', rfl⟩ := ints_get huL'
                simp only [Option.some.injEq, Addr.mk.injEq, and_true] at hA
                obtain ⟨rfl, rfl⟩ := hA
                obtain rfl : x'' = y' := Option.some.inj (hx''.symm.trans hy)
                exact qL')
              have HOK := Lib.hid (fun W => rnatOf_any ((k : Int) - i + 1) W (by omega))
              have HOD := Lib.hid (fun W => rnatOf_any (y' - x') W (by omega))
              have hxy := hpi.1
              have HWR := Lib.hid (show IntKind.i64.wrap (y' - x') = y' - x' from IntWalk.i64_in _ (by omega))
              have hB1 := mul_small (a := ((k : Int) - i + 1).toNat) (b := (1000000000 : Int).toNat) (by omega) (by omega)
              have hB2 := mul_small (a := b.toNat) (b := (1000000000 : Int).toNat) (by omega) (by omega)
              have hB3 := mul_small (a := r.toNat) (b := (y' - x').toNat) (by omega) (by omega)
              have hC1 : ((k : Int) - i + 1).toNat < 10000000000000000000000000000000000000000 := by omega
              have hC2 : (1000000000 : Int).toNat < 10000000000000000000000000000000000000000 := by omega
              have hC3 : b.toNat < 10000000000000000000000000000000000000000 := by omega
              have hC4 : r.toNat < 10000000000000000000000000000000000000000 := by omega
              have hC5 : (y' - x').toNat < 10000000000000000000000000000000000000000 := by omega
              have HSM := Lib.hid (show b.toNat * (1000000000 : Int).toNat + r.toNat * (y' - x').toNat < 10000000000000000000000000000000000000000 from Nat.lt_of_lt_of_le (Nat.add_lt_add hB2 hB3) (by decide))
              have HBB := Lib.hid (And.intro (Nat.lt_trans hB1 (by decide : 1000000000000000000000000000000000000000 < 10000000000000000000000000000000000000000)) (And.intro (Nat.lt_trans hB2 (by decide : 1000000000000000000000000000000000000000 < 10000000000000000000000000000000000000000)) (And.intro (Nat.lt_trans hB3 (by decide : 1000000000000000000000000000000000000000 < 10000000000000000000000000000000000000000)) (And.intro hC1 (And.intro hC2 (And.intro hC3 (And.intro hC4 hC5)))))))
              have HCC := Lib.hid hcm
              clear hpi hy hy' huL' hcm hB1 hB2 hB3 hC1 hC2 hC3 hC4 hC5 qk hbw2
              go_wp2_with fail
              refine (HOK.out _).mono ?_
              rintro e w2 ⟨AK, cK, lK, rfl, hnK, hbK⟩
              have HBK2 := Lib.hid (below_next HBK.out hbK)
              have HNK := Lib.hid hnK
              clear hnK hbK
              go_wp2_with fail
              refine (HO9.out _).mono ?_
              rintro e w3 ⟨A9, c9, l9, rfl, hn9, hb9⟩
              have HM := Lib.hid (HMU.out w3 AK cK lK A9 c9 l9 _ _ (HNK.out.on hb9) hn9 HBB.out.2.2.2.1 HBB.out.2.2.2.2.1)
              have HBK3 := Lib.hid (below_next HBK2.out hb9)
              clear hn9 hb9
              go_wp2_with fail
              refine HM.out.mono ?_
              rintro e w4 ⟨AM, cM, lM, rfl, hnM, hbM⟩
              have HBK4 := Lib.hid (below_next HBK3.out hbM)
              have HNM := Lib.hid hnM
              clear hnM hbM
              go_wp2_with fail
              have HS := Lib.hid (show ∀ X, Below w4.heap.size w4 X → Below w4.heap.size w4 X ∧ X.cell? ⟨bL, oL + k, none⟩ = some (.int .i64 y') ∧ X.cell? ⟨bL, oL + i, none⟩ = some (.int .i64 x') from fun X hX => ⟨hX, HQK.out X (below_next HBK4.out hX), HQI.out X (below_next HBK4.out hX)⟩)
              obtain ⟨_, f0, f1⟩ := HS.out w4 (Below.refl _ _)
              go_cut [12] from 65 to 99 (fun v wx => ∃ A c l, v = .slice A l.length c ∧ RNatR wx A c l (b.toNat * (1000000000 : Int).toNat + r.toNat * (y' - x').toNat) ∧ Below w4.heap.size w4 wx)
              case first =>
                go_region_held3 (fun X => Below w4.heap.size w4 X ∧ X.cell? ⟨bL, oL + k, none⟩ = some (.int .i64 y') ∧ X.cell? ⟨bL, oL + i, none⟩ = some (.int .i64 x'))
                  (first
                    | exact HS.out _ (Below.refl _ w4).drew
                    | (go_split_ands; refine HS.out _ (below_next ?_ hbB); assumption)
                    | (go_split_ands; refine HS.out _ (below_next ?_ hb9); assumption)
                    | (go_split_ands; refine HS.out _ (below_next ?_ hbX); assumption)
                    | (go_split_ands; refine HS.out _ (below_next ?_ hbR); assumption)
                    | (go_split_ands; refine HS.out _ (below_next ?_ hbD); assumption)
                    | (go_split_ands; refine HS.out _ (below_next ?_ hbY); assumption)
                    | (go_split_ands; refine HS.out _ (below_next ?_ hbS); assumption))
                  (first
                    | (go_at_call 11; (with_reducible refine (HOB.out _).mono ?_); rintro e wB ⟨AB, cB, lB, rfl, hnB, hbB⟩)
                    | (go_at_call 11; (with_reducible refine (HO9.out _).mono ?_); rintro e w9 ⟨A9, c9, l9, rfl, hn9, hb9⟩)
                    | (go_at_call 11; (with_reducible refine (HOR.out _).mono ?_); rintro e wR ⟨AR, cR, lR, rfl, hnR, hbR⟩)
                    | (go_at_call 11; (try rw [HWR.out]); (with_reducible refine (HOD.out _).mono ?_); rintro e wD ⟨AD, cD, lD, rfl, hnD, hbD⟩)
                    | (go_at_call 10; (with_reducible refine (HMU.out _ AB cB lB A9 c9 l9 _ _ ?_ hn9 HBB.out.2.2.2.2.2.1 HBB.out.2.2.2.2.1).mono ?_); exact hnB.on hb9; rintro e wX ⟨AX, cX, lX, rfl, hnX, hbX⟩)
                    | (go_at_call 10; (with_reducible refine (HMU.out _ AR cR lR AD cD lD _ _ ?_ hnD HBB.out.2.2.2.2.2.2.1 HBB.out.2.2.2.2.2.2.2).mono ?_); exact hnR.on hbD; rintro e wY ⟨AY, cY, lY, rfl, hnY, hbY⟩)
                    | (go_at_call 12; (with_reducible refine (HAA.out _ AX cX lX AY cY lY _ _ ?_ hnY HBB.out.2.1 HBB.out.2.2.1).mono ?_); exact ((hnX.on hbR).on hbD).on hbY; rintro e wS ⟨AS, cS, lS, rfl, hnS, hbS⟩))
                all_goals go_wp2_with fail
                all_goals go_meet
                all_goals exact ⟨AS, cS, lS, rfl, hnS, by go_split_ands; assumption⟩
              case rest =>
                obtain ⟨AS, cS, lS, rfl, hnS, hbc⟩ := hcut
                have HC := Lib.hid (HCM.out wc AM cM lM AS cS lS _ _ (HNM.out.on hbc) hnS HBB.out.1 HSM.out)
                have HBK5 := Lib.hid (below_next HBK4.out hbc)
                clear hnS hbc
                obtain ⟨cv, hcv⟩ : ∃ cv, cv = cmpN (((k : Int) - i + 1).toNat * (1000000000 : Int).toNat) (b.toNat * (1000000000 : Int).toNat + r.toNat * (y' - x').toNat) := ⟨_, rfl⟩
                have hcm : decide (0 < cv) = false := by rw [hcv]; exact HCC.out
                rw [← hcv] at HC
                clear hcv
                go_wp2_with fail
                refine HC.out.mono ?_
                rintro e w5 ⟨rfl, q, rfl⟩
                go_wp2
                go_roundw
                case rel => first | exact ⟨k + 1, by go_num, by omega, by omega, below_drewN HBK5.out _⟩ | fail "RELEND2"
                case measure => simp [intOf]; omega
            · clear hbw2
              go_wp2
              go_roundw
              case rel => first | exact ⟨i + 1, by go_num, by omega, HBK.out⟩ | fail "RELEND"
              case measure => simp [intOf]; omega
      · go_wp2_with fail
        refine (HEV.out _).mono ?_
        rintro e w5 ⟨rfl, hb5⟩
        go_wp2
        go_ret
        exact ⟨rfl, below_next (below_next HB1.out HBW.out) hb5⟩
  · obtain ⟨cc, hcc⟩ : ∃ cc, cc = admC ts r b := ⟨_, rfl⟩
    obtain ⟨L, hL⟩ : ∃ L, L = admL ts r b := ⟨_, rfl⟩
    rw [← hcc, ← hL] at HAD
    rw [← hcc] at hgood
    clear hcc hL
    have ht : (cc != 0) = true ∨ ((cc != 0) = false ∧ decide (100 < (ts.length : Int)) = true) := by
      by_cases h : cc = 0
      · right; subst h; simp at hgood ⊢; omega
      · left; simpa using h
    rcases ht with t1 | ⟨t1, t2⟩
    all_goals go_enter Try.func4, Try.ntmps4
    all_goals go_wp2_with fail
    all_goals refine HAD.out.mono ?_
    all_goals rintro e w1 ⟨A', c', rfl, hrd, hb1⟩
    all_goals go_wp2_with fail
    all_goals refine (HEV.out _).mono ?_
    all_goals rintro e w5 ⟨rfl, hb5⟩
    all_goals go_wp2
    all_goals go_ret
    all_goals exact ⟨rfl, below_next hb1 hb5⟩
end Go.Proofs.Ytajokainammahaa
