/- MeasureMergeIsTogether: its walk. -/
import Derived.Test.YtgmbgclhljobaaaDoorLawMerge
import Derived.Test.YtgmbgclhljobaaaDoorAppRd
namespace Go.Proofs.YtgmbgclhljobaaaDoor
open Go Go.RowKit Go.Proofs Go.Maps

theorem Of_post (b : Int) (A : Option Addr) (n c : Nat) (zs : List Int) (w : World) (hr : Rd w 0 w.heap.size 1 A n (ints zs)) (hn : n < 9223372036854775807) :
    Calls Tryd.prog 17 #[.int .i64 b, .slice A n c] w (HistPost (cntB b zs) b (codeV b n zs) w) := by
  refine (Of_any b A n c zs w hr hn).mono ?_
  rintro e w'' ⟨v, h1, h2, h3, h4⟩
  exact ⟨v, h1, fun h => by obtain ⟨cs', g1, g2, _⟩ := h2 h; exact ⟨cs', g1, g2.r⟩, h3, h4⟩
/-- values that Of takes, not too many -/
structure Fine (b : Int) (zs : List Int) : Prop where
  lo : 2 ≤ b
  hi : b ≤ 8
  each : ∀ v ∈ zs, fineV v = true
  len : zs.length ≤ 1000000
theorem Fine.good {b : Int} {zs : List Int} {cs : List (Int × Int)} (h : Fine b zs) (hh : IsHist (cntB b zs) cs) : Good b cs ∧ tot cs ≤ 6001000000 := by
  have hg := good_of_values hh h.lo h.hi h.each h.len
  refine ⟨hg, ?_⟩
  have ht := tot_le cs 1000000 (fun c hc => by
    obtain ⟨x, n⟩ := c
    have h1 := (hh.2 x n).1 hc
    have h3 := cntB_bd b zs x
    have h4 := h.len
    simp only; omega)
  have := hg.2.2.1
  have : (cs.length : Int) * ((1000000 : Nat) : Int) ≤ 6001 * 1000000 := by omega
  omega
theorem codeV_app {b : Int} {n m : Nat} {za zb : List Int} (h1 : codeV b n za = 0) (h2 : codeV b m zb = 0) (hl : n + m ≤ 20000) : codeV b (n + m) (za ++ zb) = 0 := by
  obtain ⟨g1, g2, _, g4⟩ := codeV_zero h1
  obtain ⟨_, _, _, g5⟩ := codeV_zero h2
  unfold codeV
  rw [if_pos (by simp [fineB]; omega), if_neg (by omega), if_neg]
  intro h
  obtain ⟨v, hv, hb⟩ := List.any_eq_true.1 h
  have : fineV v = true := by
    rcases List.mem_append.1 hv with h | h
    · exact g4 v h
    · exact g5 v h
  simp [badV, this] at hb

attribute [local go_sem ↓] Go.wp_at_zero Go.wp_at_succ

set_option maxHeartbeats 8000000 in
set_option maxRecDepth 100000 in
theorem law_together (b : Int) (Aa Ab Ac : Option Addr) (na ca nb cb nc cc : Nat) (za zb zc : List Int) (w : World) (ht : Tab w.heap.size w) (hra : Rd w 0 w.heap.size 1 Aa na (ints za)) (hrb : Rd w 0 w.heap.size 1 Ab nb (ints zb)) (hrc : Rd w 0 w.heap.size 1 Ac nc (ints zc))
    (hna : na < 9223372036854775807) (hnb : nb < 9223372036854775807) (hnc : nc < 9223372036854775807) (hAa : Aa = none → na = 0 ∧ ca = 0) (hAb : Ab = none → nb = 0 ∧ cb = 0) :
    Calls Tryd.prog 6 #[.int .i64 b, .slice Aa na ca, .slice Ab nb cb, .slice Ac nc cc] w fun e w' => e = .returned (.bool true) ∧ Below w.heap.size w w' := by
  obtain ⟨i0, hi0, hz0, hz1', hz2'⟩ := info_parts Tryd.infoI
  have HT := Lib.hid ht
  have HRA := Lib.hid hra
  have HRB := Lib.hid hrb
  have HRC := Lib.hid hrc
  have HAA := Lib.hid hAa
  have HAB := Lib.hid hAb
  have hla : za.length = na := by have := hra.1; simpa [ints] using this
  have hlb : zb.length = nb := by have := hrb.1; simpa [ints] using this
  have hlc : zc.length = nc := by have := hrc.1; simpa [ints] using this
  have HLA := Lib.hid hla
  have HLB := Lib.hid hlb
  have HLC := Lib.hid hlc
  have HO1 := Lib.hid ((Of_post b Aa na ca za w hra hna).mono (fun e w' h => h.form))
  have HST0 := Lib.hid (St.start w)
  clear ht hra hrb hrc hAa hAb hla hlb hlc
  go_enter Tryd.func6, Tryd.ntmps6
  go_wp2_with fail
  refine HO1.out.mono ?_
  rintro e w1 ⟨b1, A1, n1, c1, rfl, hs1, hz1, hb1⟩
  have HS1 := Lib.hid hs1
  have HZ1 := Lib.hid hz1
  clear hs1 hz1
  obtain ⟨W1, hW1⟩ : ∃ W1, W1 = w1.alloc (.cells #[Value.int .i64 b1, Value.slice A1 n1 c1] 24) := ⟨_, rfl⟩
  have hsz1 := hb1.size
  have hszW1 : w1.heap.size + 1 ≤ W1.heap.size := by rw [hW1]; simp
  have HBW1 := Lib.hid (show Below w.heap.size w W1 by rw [hW1]; exact below_next hb1 ((Below.refl _ w1).alloc (Nat.le_refl _) _))
  have HBX1 := Lib.hid (show Below w1.heap.size w1 W1 by rw [hW1]; exact (Below.refl _ w1).alloc (Nat.le_refl _) _)
  have HSTw1 := Lib.hid (HST0.out.call hb1)
  have HSTb1 := Lib.hid (show St w W1 [(w1.heap.size, Obj.cells #[Value.int .i64 b1, Value.slice A1 n1 c1] 24 (0, 0))] by rw [hW1]; exact HSTw1.out.alloc _ _ rfl)
  clear hb1
  have HO2 := Lib.hid ((Of_post b Ab nb cb zb W1 (HRB.out.old HSTb1.out.below) hnb).mono (fun e w' h => h.form))
  go_wp2_with fail
  rw [← hW1]
  clear hW1
  refine HO2.out.mono ?_
  rintro e w2 ⟨b2, A2, n2, c2, rfl, hs2, hz2, hb2⟩
  have HS2 := Lib.hid hs2
  have HZ2 := Lib.hid hz2
  clear hs2 hz2
  obtain ⟨W2, hW2⟩ : ∃ W2, W2 = w2.alloc (.cells #[Value.int .i64 b2, Value.slice A2 n2 c2] 24) := ⟨_, rfl⟩
  have hsz2 := hb2.size
  have hszW2 : w2.heap.size + 1 ≤ W2.heap.size := by rw [hW2]; simp
  have HBW2 := Lib.hid (show Below W1.heap.size W1 W2 by rw [hW2]; exact below_next hb2 ((Below.refl _ w2).alloc (Nat.le_refl _) _))
  have HBX2 := Lib.hid (show Below w2.heap.size w2 W2 by rw [hW2]; exact (Below.refl _ w2).alloc (Nat.le_refl _) _)
  have HSTw2 := Lib.hid (HSTb1.out.call hb2)
  have k0_0 : w2.cell? ⟨w1.heap.size, 0, none⟩ = some (Value.int .i64 b1) := HSTw2.out.cell 0 0 rfl rfl
  have k0_1 : w2.cell? ⟨w1.heap.size, 1, none⟩ = some (Value.slice A1 n1 c1) := HSTw2.out.cell 0 1 rfl rfl
  have l0_ : w1.heap.size < w2.heap.size := HSTw2.out.lt 0 rfl
  have HSTb2 := Lib.hid (show St w W2 [(w1.heap.size, Obj.cells #[Value.int .i64 b1, Value.slice A1 n1 c1] 24 (0, 0)), (w2.heap.size, Obj.cells #[Value.int .i64 b2, Value.slice A2 n2 c2] 24 (0, 0))] by rw [hW2]; exact HSTw2.out.alloc _ _ rfl)
  clear hb2
  have HO3 := Lib.hid ((Of_post b Ac nc cc zc W2 (HRC.out.old HSTb2.out.below) hnc).mono (fun e w' h => h.form))
  go_wp2_with fail
  rw [← hW2]
  clear hW2
  clear k0_0 k0_1 l0_
  refine HO3.out.mono ?_
  rintro e w3 ⟨b3, A3, n3, c3, rfl, hs3, hz3, hb3⟩
  have HS3 := Lib.hid hs3
  have HZ3 := Lib.hid hz3
  clear hs3 hz3
  obtain ⟨W3, hW3⟩ : ∃ W3, W3 = w3.alloc (.cells #[Value.int .i64 b3, Value.slice A3 n3 c3] 24) := ⟨_, rfl⟩
  have hsz3 := hb3.size
  have hszW3 : w3.heap.size + 1 ≤ W3.heap.size := by rw [hW3]; simp
  have HBW3 := Lib.hid (show Below W2.heap.size W2 W3 by rw [hW3]; exact below_next hb3 ((Below.refl _ w3).alloc (Nat.le_refl _) _))
  have HBX3 := Lib.hid (show Below w3.heap.size w3 W3 by rw [hW3]; exact (Below.refl _ w3).alloc (Nat.le_refl _) _)
  have HSTw3 := Lib.hid (HSTb2.out.call hb3)
  have k0_0 : w3.cell? ⟨w1.heap.size, 0, none⟩ = some (Value.int .i64 b1) := HSTw3.out.cell 0 0 rfl rfl
  have k0_1 : w3.cell? ⟨w1.heap.size, 1, none⟩ = some (Value.slice A1 n1 c1) := HSTw3.out.cell 0 1 rfl rfl
  have l0_ : w1.heap.size < w3.heap.size := HSTw3.out.lt 0 rfl
  have k1_0 : w3.cell? ⟨w2.heap.size, 0, none⟩ = some (Value.int .i64 b2) := HSTw3.out.cell 1 0 rfl rfl
  have k1_1 : w3.cell? ⟨w2.heap.size, 1, none⟩ = some (Value.slice A2 n2 c2) := HSTw3.out.cell 1 1 rfl rfl
  have l1_ : w2.heap.size < w3.heap.size := HSTw3.out.lt 1 rfl
  have HSTb3 := Lib.hid (show St w W3 [(w1.heap.size, Obj.cells #[Value.int .i64 b1, Value.slice A1 n1 c1] 24 (0, 0)), (w2.heap.size, Obj.cells #[Value.int .i64 b2, Value.slice A2 n2 c2] 24 (0, 0)), (w3.heap.size, Obj.cells #[Value.int .i64 b3, Value.slice A3 n3 c3] 24 (0, 0))] by rw [hW3]; exact HSTw3.out.alloc _ _ rfl)
  clear hb3
  by_cases h1 : codeV b na za = 0
  · have h1' : (codeV b na za != 0) = false := by simp [h1]
    have H1 := Lib.hid h1
    clear h1
    by_cases h2 : codeV b nb zb = 0
    · have h2' : (codeV b nb zb != 0) = false := by simp [h2]
      have H2 := Lib.hid h2
      clear h2
      by_cases h3 : codeV b nc zc = 0
      · have h3' : (codeV b nc zc != 0) = false := by simp [h3]
        have H3 := Lib.hid h3
        clear h3
        obtain ⟨hb2, hb8, hn1, hf1⟩ := codeV_zero H1.out
        obtain ⟨_, _, hn2, hf2⟩ := codeV_zero H2.out
        obtain ⟨_, _, hn3, hf3⟩ := codeV_zero H3.out
        have F1 := Lib.hid (show Fine b za from ⟨hb2, hb8, hf1, by rw [HLA.out]; omega⟩)
        have F2 := Lib.hid (show Fine b zb from ⟨hb2, hb8, hf2, by rw [HLB.out]; omega⟩)
        have F3 := Lib.hid (show Fine b zc from ⟨hb2, hb8, hf3, by rw [HLC.out]; omega⟩)
        clear hf1 hf2 hf3
        by_cases hl : 20000 < na + nb + nc
        · have hl1 : decide ((20000 : Int) < ↑na + ↑nb + ↑nc) = true := by simp; omega
          have hl2 : decide (20000 < na + nb + nc) = true := by simpa using hl
          clear hl
          go_wp2_with (go_at_call 12; refine (counts_any _).mono ?_; rintro e wK ⟨rfl, hbK⟩)
          go_ret
          exact ⟨rfl, below_next (by rw [← hW3]; exact HSTb3.out.below) hbK⟩
        · have hl1 : decide ((20000 : Int) < ↑na + ↑nb + ↑nc) = false := by simp; omega
          have hl2 : decide (20000 < na + nb + nc) = false := by simpa using hl
          have hle : na + nb + nc ≤ 20000 := by omega
          obtain ⟨cs1, hh1, e1, e2, hr1⟩ := HS1.out H1.out
          obtain ⟨cs2, hh2, e3, e4, hr2⟩ := HS2.out H2.out
          obtain ⟨cs3, hh3, e5, e6, hr3⟩ := HS3.out H3.out
          subst b1 n1 b2 n2 b3 n3
          obtain ⟨hg1, ht1⟩ := F1.out.good hh1
          obtain ⟨hg2, ht2⟩ := F2.out.good hh2
          obtain ⟨hg3, ht3⟩ := F3.out.good hh3
          have hlen1 := hg1.2.2.1
          have hlen2 := hg2.2.2.1
          have hlen3 := hg3.2.2.1
          have G1 := Lib.hid hg1
          have G2 := Lib.hid hg2
          have G3 := Lib.hid hg3
          have R1 := Lib.hid (show Rd W3 0 W3.heap.size 2 A1 cs1.length (cells2 cs1) from ((((hr1.more (Nat.zero_le _) (Nat.le_refl _)).old HBX1.out)).old HBW2.out).old HBW3.out)
          have R2 := Lib.hid (show Rd W3 0 W3.heap.size 2 A2 cs2.length (cells2 cs2) from (((hr2.more (Nat.zero_le _) (Nat.le_refl _)).old HBX2.out)).old HBW3.out)
          have R3 := Lib.hid (show Rd W3 0 W3.heap.size 2 A3 cs3.length (cells2 cs3) from ((hr3.more (Nat.zero_le _) (Nat.le_refl _)).old HBX3.out))
          have HH1 := Lib.hid hh1
          have HH2 := Lib.hid hh2
          have HH3 := Lib.hid hh3
          have hm := Merge_any b b A1 A2 c1 c2 cs1 cs2 W3 R1.out R2.out (by omega) (by omega)
          rw [codeG_good hg1 hg2 (by omega)] at hm
          have HM4 := Lib.hid (hm.mono (fun e w' h => h.form))
          clear hh1 hh2 hh3 hr1 hr2 hr3 hg1 hg2 hg3 hm hl HS1 HS2 HS3 HZ1 HZ2 HZ3
          go_wp2_with fail
          rw [← hW3]
          clear hW3
          clear k0_0 k0_1 l0_ k1_0 k1_1 l1_
          refine HM4.out.mono ?_
          rintro e w4 ⟨b4, A4, n4, c4, rfl, hs4, hz4, hb4⟩
          have HS4 := Lib.hid hs4
          have HZ4 := Lib.hid hz4
          clear hs4 hz4
          obtain ⟨W4, hW4⟩ : ∃ W4, W4 = w4.alloc (.cells #[Value.int .i64 b4, Value.slice A4 n4 c4] 24) := ⟨_, rfl⟩
          have hsz4 := hb4.size
          have hszW4 : w4.heap.size + 1 ≤ W4.heap.size := by rw [hW4]; simp
          have HBW4 := Lib.hid (show Below W3.heap.size W3 W4 by rw [hW4]; exact below_next hb4 ((Below.refl _ w4).alloc (Nat.le_refl _) _))
          have HBX4 := Lib.hid (show Below w4.heap.size w4 W4 by rw [hW4]; exact (Below.refl _ w4).alloc (Nat.le_refl _) _)
          have HSTw4 := Lib.hid (HSTb3.out.call hb4)
          have k0_0 : w4.cell? ⟨w1.heap.size, 0, none⟩ = some (Value.int .i64 b) := HSTw4.out.cell 0 0 rfl rfl
          have k0_1 : w4.cell? ⟨w1.heap.size, 1, none⟩ = some (Value.slice A1 cs1.length c1) := HSTw4.out.cell 0 1 rfl rfl
          have l0_ : w1.heap.size < w4.heap.size := HSTw4.out.lt 0 rfl
          have k1_0 : w4.cell? ⟨w2.heap.size, 0, none⟩ = some (Value.int .i64 b) := HSTw4.out.cell 1 0 rfl rfl
          have k1_1 : w4.cell? ⟨w2.heap.size, 1, none⟩ = some (Value.slice A2 cs2.length c2) := HSTw4.out.cell 1 1 rfl rfl
          have l1_ : w2.heap.size < w4.heap.size := HSTw4.out.lt 1 rfl
          have k2_0 : w4.cell? ⟨w3.heap.size, 0, none⟩ = some (Value.int .i64 b) := HSTw4.out.cell 2 0 rfl rfl
          have k2_1 : w4.cell? ⟨w3.heap.size, 1, none⟩ = some (Value.slice A3 cs3.length c3) := HSTw4.out.cell 2 1 rfl rfl
          have l2_ : w3.heap.size < w4.heap.size := HSTw4.out.lt 2 rfl
          have HSTb4 := Lib.hid (show St w W4 [(w1.heap.size, Obj.cells #[Value.int .i64 b, Value.slice A1 cs1.length c1] 24 (0, 0)), (w2.heap.size, Obj.cells #[Value.int .i64 b, Value.slice A2 cs2.length c2] 24 (0, 0)), (w3.heap.size, Obj.cells #[Value.int .i64 b, Value.slice A3 cs3.length c3] 24 (0, 0)), (w4.heap.size, Obj.cells #[Value.int .i64 b4, Value.slice A4 n4 c4] 24 (0, 0))] by rw [hW4]; exact HSTw4.out.alloc _ _ rfl)
          clear hb4
          obtain ⟨cs4, hh4, e1, e2, hr4⟩ := HS4.out (by trivial)
          subst b4 n4
          have hg4 := good_merge hh4 G1.out G2.out (by omega)
          have hlen4 := hg4.2.2.1
          have ht4 : tot cs4 = tot cs1 + tot cs2 := by
            rw [(hist_tot hh4 (fun x hx => (List.mem_append.1 hx).elim (G1.out.cells x) (G2.out.cells x)) G1.out.1 G1.out.2.1).1, tot_append]
          have G4 := Lib.hid hg4
          have HH4 := Lib.hid hh4
          have HT4 := Lib.hid ht4
          have R4 := Lib.hid (show Rd W4 0 W4.heap.size 2 A4 cs4.length (cells2 cs4) from ((hr4.more (Nat.zero_le _) (Nat.le_refl _)).old HBX4.out))
          have HRA4 := Lib.hid (show Rd (w4.alloc (.cells #[.int .i64 b, .slice A4 cs4.length c4] 24)) 0 (w4.alloc (.cells #[.int .i64 b, .slice A4 cs4.length c4] 24)).heap.size 1 Aa na (ints za) by rw [← hW4]; exact HRA.out.old HSTb4.out.below)
          have HN := Lib.hid (show (w4.alloc (.cells #[.int .i64 b, .slice A4 cs4.length c4] 24)).ownsRow (w4.heap.size + 1) 3 1 (.slice none 0 0) 0 [] from ⟨by simp, .inl ⟨rfl, rfl⟩⟩)
          clear hh4 hr4 hg4 ht4 HS4 HZ4
          go_wp2_with (at_builtin; refine wpList_append_rd rfl (.const (.slice none 0 0)) (.tmp 68) 28 rfl (w4.heap.size + 1) 3 i0 _ 1 8 Tryd.underlying28 hi0 hz0 hz1' hz2' rfl (by decide) (.slice none 0 0) 0 [] rfl HN.out Aa na ca _ _ (ints za) rfl HAA.out HRA4.out (ints_one za) ?k1 ?k2 ?k3 ?_)
          case k1 => unfold maxLen; omega
          case k2 => omega
          case k3 => simp
          intro v5 w5 ho5 hg5
          have hb5 : Below W4.heap.size W4 w5 := by
            rw [hW4]
            exact (Below.refl _ _).grown hg5 (Nat.le_refl _) (fun k hk => by cases hk)
          have HO5 := Lib.hid ho5
          have HB5 := Lib.hid hb5
          have HRB5 := Lib.hid (HRB.out.old (HSTb4.out.old hb5))
          have hsz5 := hb5.size
          have HST5 := Lib.hid (HSTb4.out.call hb5)
          clear ho5 hg5 hb5
          clear k0_0 k0_1 l0_ k1_0 k1_1 l1_ k2_0 k2_1 l2_
          go_wp2_with (at_builtin; refine wpList_append_rd rfl (.tmp 69) (.tmp 70) 28 rfl (w4.heap.size + 1) 3 i0 _ 1 8 Tryd.underlying28 hi0 hz0 hz1' hz2' rfl (by decide) v5 na (ints za) rfl HO5.out Ab nb cb _ _ (ints zb) rfl HAB.out HRB5.out (ints_one zb) ?k4 ?k5 ?k6 ?_)
          case k4 => unfold maxLen; omega
          case k5 => omega
          case k6 => omega
          intro v6 w6 ho6 hg6
          have hb6 : Below (w4.heap.size + 1) w5 w6 := (Below.refl _ _).grown hg6 (by omega) (fun k hk => (ownsRow_block HO5.out hk.symm).1)
          have hW4s : W4.heap.size = w4.heap.size + 1 := by rw [hW4]; simp
          have hb46 : Below W4.heap.size W4 w6 := HB5.out.trans (hb6.mono (by omega))
          obtain ⟨A6, cap6, rfl, _, _, _⟩ := ownsRow_shape ho6
          have hr6 : Rd w6 0 w6.heap.size 1 A6 (na + nb) (ints (za ++ zb)) := by rw [ints_append]; exact (Rd.of_own ho6).more (Nat.zero_le _) (Nat.le_refl _)
          have hO := Of_post b A6 (na + nb) cap6 (za ++ zb) w6 hr6 (by omega)
          rw [codeV_app H1.out H2.out (by omega), ← hist_both HH1.out HH2.out] at hO
          have HO6 := Lib.hid (hO.mono (fun e w' h => h.form))
          have HB46 := Lib.hid hb46
          have hsz6 := hb46.size
          have HST6 := Lib.hid (HSTb4.out.call hb46)
          clear ho6 hg6 hb6 hb46 hr6 hO hW4s hW4
          have k0_0 : w6.cell? ⟨w1.heap.size, 0, none⟩ = some (Value.int .i64 b) := HST6.out.cell 0 0 rfl rfl
          have k0_1 : w6.cell? ⟨w1.heap.size, 1, none⟩ = some (Value.slice A1 cs1.length c1) := HST6.out.cell 0 1 rfl rfl
          have l0_ : w1.heap.size < w6.heap.size := HST6.out.lt 0 rfl
          have k1_0 : w6.cell? ⟨w2.heap.size, 0, none⟩ = some (Value.int .i64 b) := HST6.out.cell 1 0 rfl rfl
          have k1_1 : w6.cell? ⟨w2.heap.size, 1, none⟩ = some (Value.slice A2 cs2.length c2) := HST6.out.cell 1 1 rfl rfl
          have l1_ : w2.heap.size < w6.heap.size := HST6.out.lt 1 rfl
          have k2_0 : w6.cell? ⟨w3.heap.size, 0, none⟩ = some (Value.int .i64 b) := HST6.out.cell 2 0 rfl rfl
          have k2_1 : w6.cell? ⟨w3.heap.size, 1, none⟩ = some (Value.slice A3 cs3.length c3) := HST6.out.cell 2 1 rfl rfl
          have l2_ : w3.heap.size < w6.heap.size := HST6.out.lt 2 rfl
          have k3_0 : w6.cell? ⟨w4.heap.size, 0, none⟩ = some (Value.int .i64 b) := HST6.out.cell 3 0 rfl rfl
          have k3_1 : w6.cell? ⟨w4.heap.size, 1, none⟩ = some (Value.slice A4 cs4.length c4) := HST6.out.cell 3 1 rfl rfl
          have l3_ : w4.heap.size < w6.heap.size := HST6.out.lt 3 rfl
          go_wp2_with fail
          refine HO6.out.mono ?_
          rintro e w7 ⟨b7, A7, n7, c7, rfl, hs7, hz7, hb7⟩
          have HS7 := Lib.hid hs7
          have HZ7 := Lib.hid hz7
          clear hs7 hz7
          clear k0_0 k0_1 l0_ k1_0 k1_1 l1_ k2_0 k2_1 l2_ k3_0 k3_1 l3_
          obtain ⟨W7, hW7⟩ : ∃ W7, W7 = w7.alloc (.cells #[Value.int .i64 b7, Value.slice A7 n7 c7] 24) := ⟨_, rfl⟩
          have hsz7 := hb7.size
          have hszW7 : w7.heap.size + 1 ≤ W7.heap.size := by rw [hW7]; simp
          have HBW7 := Lib.hid (show Below w6.heap.size w6 W7 by rw [hW7]; exact below_next hb7 ((Below.refl _ w7).alloc (Nat.le_refl _) _))
          have HBX7 := Lib.hid (show Below w7.heap.size w7 W7 by rw [hW7]; exact (Below.refl _ w7).alloc (Nat.le_refl _) _)
          have HSTw7 := Lib.hid (HST6.out.call hb7)
          have k0_0 : w7.cell? ⟨w1.heap.size, 0, none⟩ = some (Value.int .i64 b) := HSTw7.out.cell 0 0 rfl rfl
          have k0_1 : w7.cell? ⟨w1.heap.size, 1, none⟩ = some (Value.slice A1 cs1.length c1) := HSTw7.out.cell 0 1 rfl rfl
          have l0_ : w1.heap.size < w7.heap.size := HSTw7.out.lt 0 rfl
          have k1_0 : w7.cell? ⟨w2.heap.size, 0, none⟩ = some (Value.int .i64 b) := HSTw7.out.cell 1 0 rfl rfl
          have k1_1 : w7.cell? ⟨w2.heap.size, 1, none⟩ = some (Value.slice A2 cs2.length c2) := HSTw7.out.cell 1 1 rfl rfl
          have l1_ : w2.heap.size < w7.heap.size := HSTw7.out.lt 1 rfl
          have k2_0 : w7.cell? ⟨w3.heap.size, 0, none⟩ = some (Value.int .i64 b) := HSTw7.out.cell 2 0 rfl rfl
          have k2_1 : w7.cell? ⟨w3.heap.size, 1, none⟩ = some (Value.slice A3 cs3.length c3) := HSTw7.out.cell 2 1 rfl rfl
          have l2_ : w3.heap.size < w7.heap.size := HSTw7.out.lt 2 rfl
          have k3_0 : w7.cell? ⟨w4.heap.size, 0, none⟩ = some (Value.int .i64 b) := HSTw7.out.cell 3 0 rfl rfl
          have k3_1 : w7.cell? ⟨w4.heap.size, 1, none⟩ = some (Value.slice A4 cs4.length c4) := HSTw7.out.cell 3 1 rfl rfl
          have l3_ : w4.heap.size < w7.heap.size := HSTw7.out.lt 3 rfl
          have HSTb7 := Lib.hid (show St w W7 [(w1.heap.size, Obj.cells #[Value.int .i64 b, Value.slice A1 cs1.length c1] 24 (0, 0)), (w2.heap.size, Obj.cells #[Value.int .i64 b, Value.slice A2 cs2.length c2] 24 (0, 0)), (w3.heap.size, Obj.cells #[Value.int .i64 b, Value.slice A3 cs3.length c3] 24 (0, 0)), (w4.heap.size, Obj.cells #[Value.int .i64 b, Value.slice A4 cs4.length c4] 24 (0, 0)), (w7.heap.size, Obj.cells #[Value.int .i64 b7, Value.slice A7 n7 c7] 24 (0, 0))] by rw [hW7]; exact HSTw7.out.alloc _ _ rfl)
          clear hb7
          obtain ⟨cs7, hh7, e1, e2, hr7⟩ := HS7.out (by trivial)
          subst b7 n7
          obtain rfl := IsHist.uniq hh7 HH4.out
          have R7 := Lib.hid (show Rd W7 0 W7.heap.size 2 A7 cs7.length (cells2 cs7) from ((hr7.more (Nat.zero_le _) (Nat.le_refl _)).old HBX7.out))
          have HT7 := Lib.hid (show Tab W7.heap.size W7 from (HT.out.on HSTb7.out.below).mono HSTb7.out.below.size)
          have R4' := Lib.hid ((R4.out.old HB46.out).old HBW7.out)
          have i00 : I64 0 := by unfold I64; omega
          have TP := Lib.hid (show TellsAs (.agg #[.int .i64 b, .slice A4 cs7.length c4]) 0 (inkHist b cs7 ++ inkInt 0) W7 from tells_of HT7.out ⟨A4, c4, rfl, R4'.out⟩ (I64_good G4.out) i00 (hist_tell G4.out).1 (hist_tell G4.out).2)
          have TQ := Lib.hid (show TellsAs (.agg #[.int .i64 b, .slice A7 cs7.length c7]) 0 (inkHist b cs7 ++ inkInt 0) W7 from tells_of HT7.out ⟨A7, c7, rfl, R7.out⟩ (I64_good G4.out) i00 (hist_tell G4.out).1 (hist_tell G4.out).2)
          clear hh7 hr7 HS7 HZ7
          go_wp2
          rw [← hW7]
          clear hW7
          clear k0_0 k0_1 l0_ k1_0 k1_1 l1_ k2_0 k2_1 l2_ k3_0 k3_1 l3_
          have HKS := Lib.hid (show ∀ w', Below W7.heap.size W7 w' → w'.cell? ⟨w1.heap.size, 0, none⟩ = some (Value.int .i64 b) ∧ w'.cell? ⟨w1.heap.size, 1, none⟩ = some (Value.slice A1 cs1.length c1) ∧ w'.cell? ⟨w2.heap.size, 0, none⟩ = some (Value.int .i64 b) ∧ w'.cell? ⟨w2.heap.size, 1, none⟩ = some (Value.slice A2 cs2.length c2) ∧ w'.cell? ⟨w3.heap.size, 0, none⟩ = some (Value.int .i64 b) ∧ w'.cell? ⟨w3.heap.size, 1, none⟩ = some (Value.slice A3 cs3.length c3) ∧ w'.cell? ⟨w4.heap.size, 0, none⟩ = some (Value.int .i64 b) ∧ w'.cell? ⟨w4.heap.size, 1, none⟩ = some (Value.slice A4 cs7.length c4) ∧ w'.cell? ⟨w7.heap.size, 0, none⟩ = some (Value.int .i64 b) ∧ w'.cell? ⟨w7.heap.size, 1, none⟩ = some (Value.slice A7 cs7.length c7) ∧ Below W7.heap.size W7 w' from fun w' hb => ⟨(HSTb7.out.call hb).cell 0 0 rfl rfl, (HSTb7.out.call hb).cell 0 1 rfl rfl, (HSTb7.out.call hb).cell 1 0 rfl rfl, (HSTb7.out.call hb).cell 1 1 rfl rfl, (HSTb7.out.call hb).cell 2 0 rfl rfl, (HSTb7.out.call hb).cell 2 1 rfl rfl, (HSTb7.out.call hb).cell 3 0 rfl rfl, (HSTb7.out.call hb).cell 3 1 rfl rfl, (HSTb7.out.call hb).cell 4 0 rfl rfl, (HSTb7.out.call hb).cell 4 1 rfl rfl, hb⟩)
          have k0_0 : W7.cell? ⟨w1.heap.size, 0, none⟩ = some (Value.int .i64 b) := HSTb7.out.cell 0 0 rfl rfl
          have k0_1 : W7.cell? ⟨w1.heap.size, 1, none⟩ = some (Value.slice A1 cs1.length c1) := HSTb7.out.cell 0 1 rfl rfl
          have l0_ : w1.heap.size < W7.heap.size := HSTb7.out.lt 0 rfl
          have k1_0 : W7.cell? ⟨w2.heap.size, 0, none⟩ = some (Value.int .i64 b) := HSTb7.out.cell 1 0 rfl rfl
          have k1_1 : W7.cell? ⟨w2.heap.size, 1, none⟩ = some (Value.slice A2 cs2.length c2) := HSTb7.out.cell 1 1 rfl rfl
          have l1_ : w2.heap.size < W7.heap.size := HSTb7.out.lt 1 rfl
          have k2_0 : W7.cell? ⟨w3.heap.size, 0, none⟩ = some (Value.int .i64 b) := HSTb7.out.cell 2 0 rfl rfl
          have k2_1 : W7.cell? ⟨w3.heap.size, 1, none⟩ = some (Value.slice A3 cs3.length c3) := HSTb7.out.cell 2 1 rfl rfl
          have l2_ : w3.heap.size < W7.heap.size := HSTb7.out.lt 2 rfl
          have k3_0 : W7.cell? ⟨w4.heap.size, 0, none⟩ = some (Value.int .i64 b) := HSTb7.out.cell 3 0 rfl rfl
          have k3_1 : W7.cell? ⟨w4.heap.size, 1, none⟩ = some (Value.slice A4 cs7.length c4) := HSTb7.out.cell 3 1 rfl rfl
          have l3_ : w4.heap.size < W7.heap.size := HSTb7.out.lt 3 rfl
          have k4_0 : W7.cell? ⟨w7.heap.size, 0, none⟩ = some (Value.int .i64 b) := HSTb7.out.cell 4 0 rfl rfl
          have k4_1 : W7.cell? ⟨w7.heap.size, 1, none⟩ = some (Value.slice A7 cs7.length c7) := HSTb7.out.cell 4 1 rfl rfl
          have l4_ : w7.heap.size < W7.heap.size := HSTb7.out.lt 4 rfl
          go_region_held3 (fun w' => w'.cell? ⟨w1.heap.size, 0, none⟩ = some (Value.int .i64 b) ∧ w'.cell? ⟨w1.heap.size, 1, none⟩ = some (Value.slice A1 cs1.length c1) ∧ w'.cell? ⟨w2.heap.size, 0, none⟩ = some (Value.int .i64 b) ∧ w'.cell? ⟨w2.heap.size, 1, none⟩ = some (Value.slice A2 cs2.length c2) ∧ w'.cell? ⟨w3.heap.size, 0, none⟩ = some (Value.int .i64 b) ∧ w'.cell? ⟨w3.heap.size, 1, none⟩ = some (Value.slice A3 cs3.length c3) ∧ w'.cell? ⟨w4.heap.size, 0, none⟩ = some (Value.int .i64 b) ∧ w'.cell? ⟨w4.heap.size, 1, none⟩ = some (Value.slice A4 cs7.length c4) ∧ w'.cell? ⟨w7.heap.size, 0, none⟩ = some (Value.int .i64 b) ∧ w'.cell? ⟨w7.heap.size, 1, none⟩ = some (Value.slice A7 cs7.length c7) ∧ Below W7.heap.size W7 w')
            (first
              | exact HKS.out _ (Below.refl _ W7).drew
              | (go_split_ands; refine HKS.out _ (below_next ?_ hbQ); assumption)
              | (go_split_ands; refine HKS.out _ (below_next ?_ hbP); assumption))
            (first
              | (go_at_call_of 13 (Value.agg #[.int .i64 b, .slice A4 cs7.length c4]); refine (TP.out _ ?_).mono ?_; (go_split_ands; assumption); rintro e wP ⟨rfl, hbP⟩)
              | (go_at_call_of 13 (Value.agg #[.int .i64 b, .slice A7 cs7.length c7]); refine (TQ.out _ ?_).mono ?_; (go_split_ands; assumption); rintro e wQ ⟨rfl, hbQ⟩))
          have hbel21 : Below W7.heap.size W7 wQ := by go_split_ands; assumption
          have HST21 := Lib.hid (HSTb7.out.call hbel21)
          have hsz21 := hbel21.size
          clear k0_0 k0_1 l0_ k1_0 k1_1 l1_ k2_0 k2_1 l2_ k3_0 k3_1 l3_ k4_0 k4_1 l4_
          have HBEL21 := Lib.hid hbel21
          clear hbel21
          have k0_0 : wQ.cell? ⟨w1.heap.size, 0, none⟩ = some (Value.int .i64 b) := HST21.out.cell 0 0 rfl rfl
          have k0_1 : wQ.cell? ⟨w1.heap.size, 1, none⟩ = some (Value.slice A1 cs1.length c1) := HST21.out.cell 0 1 rfl rfl
          have l0_ : w1.heap.size < wQ.heap.size := HST21.out.lt 0 rfl
          have k1_0 : wQ.cell? ⟨w2.heap.size, 0, none⟩ = some (Value.int .i64 b) := HST21.out.cell 1 0 rfl rfl
          have k1_1 : wQ.cell? ⟨w2.heap.size, 1, none⟩ = some (Value.slice A2 cs2.length c2) := HST21.out.cell 1 1 rfl rfl
          have l1_ : w2.heap.size < wQ.heap.size := HST21.out.lt 1 rfl
          have k2_0 : wQ.cell? ⟨w3.heap.size, 0, none⟩ = some (Value.int .i64 b) := HST21.out.cell 2 0 rfl rfl
          have k2_1 : wQ.cell? ⟨w3.heap.size, 1, none⟩ = some (Value.slice A3 cs3.length c3) := HST21.out.cell 2 1 rfl rfl
          have l2_ : w3.heap.size < wQ.heap.size := HST21.out.lt 2 rfl
          have k3_0 : wQ.cell? ⟨w4.heap.size, 0, none⟩ = some (Value.int .i64 b) := HST21.out.cell 3 0 rfl rfl
          have k3_1 : wQ.cell? ⟨w4.heap.size, 1, none⟩ = some (Value.slice A4 cs7.length c4) := HST21.out.cell 3 1 rfl rfl
          have l3_ : w4.heap.size < wQ.heap.size := HST21.out.lt 3 rfl
          have k4_0 : wQ.cell? ⟨w7.heap.size, 0, none⟩ = some (Value.int .i64 b) := HST21.out.cell 4 0 rfl rfl
          have k4_1 : wQ.cell? ⟨w7.heap.size, 1, none⟩ = some (Value.slice A7 cs7.length c7) := HST21.out.cell 4 1 rfl rfl
          have l4_ : w7.heap.size < wQ.heap.size := HST21.out.lt 4 rfl
          clear hbP hbQ HKS
          have RQ3 := Lib.hid ((((R3.out.old HBW4.out).old HB46.out).old HBW7.out).old HBEL21.out)
          have RQ2 := Lib.hid ((((R2.out.old HBW4.out).old HB46.out).old HBW7.out).old HBEL21.out)
          have RQ1 := Lib.hid ((((R1.out.old HBW4.out).old HB46.out).old HBW7.out).old HBEL21.out)
          have RQ4 := Lib.hid (R4'.out.old HBEL21.out)
          have hm := Merge_any b b A4 A3 c4 c3 cs7 cs3 wQ RQ4.out RQ3.out (by omega) (by omega)
          rw [codeG_good G4.out G3.out (by have := HT4.out; omega)] at hm
          have HM8 := Lib.hid (hm.mono (fun e w' h => h.form))
          clear hm
          go_wp2_with fail
          refine HM8.out.mono ?_
          rintro e w8 ⟨b8, A8, n8, c8, rfl, hs8, hz8, hb8⟩
          have HS8 := Lib.hid hs8
          have HZ8 := Lib.hid hz8
          clear hs8 hz8
          clear k0_0 k0_1 l0_ k1_0 k1_1 l1_ k2_0 k2_1 l2_ k3_0 k3_1 l3_ k4_0 k4_1 l4_
          obtain ⟨W8, hW8⟩ : ∃ W8, W8 = w8.alloc (.cells #[Value.int .i64 b8, Value.slice A8 n8 c8] 24) := ⟨_, rfl⟩
          have hsz8 := hb8.size
          have hszW8 : w8.heap.size + 1 ≤ W8.heap.size := by rw [hW8]; simp
          have HBW8 := Lib.hid (show Below wQ.heap.size wQ W8 by rw [hW8]; exact below_next hb8 ((Below.refl _ w8).alloc (Nat.le_refl _) _))
          have HBX8 := Lib.hid (show Below w8.heap.size w8 W8 by rw [hW8]; exact (Below.refl _ w8).alloc (Nat.le_refl _) _)
          have HSTw8 := Lib.hid (HST21.out.call hb8)
          have k0_0 : w8.cell? ⟨w1.heap.size, 0, none⟩ = some (Value.int .i64 b) := HSTw8.out.cell 0 0 rfl rfl
          have k0_1 : w8.cell? ⟨w1.heap.size, 1, none⟩ = some (Value.slice A1 cs1.length c1) := HSTw8.out.cell 0 1 rfl rfl
          have l0_ : w1.heap.size < w8.heap.size := HSTw8.out.lt 0 rfl
          have k1_0 : w8.cell? ⟨w2.heap.size, 0, none⟩ = some (Value.int .i64 b) := HSTw8.out.cell 1 0 rfl rfl
          have k1_1 : w8.cell? ⟨w2.heap.size, 1, none⟩ = some (Value.slice A2 cs2.length c2) := HSTw8.out.cell 1 1 rfl rfl
          have l1_ : w2.heap.size < w8.heap.size := HSTw8.out.lt 1 rfl
          have k2_0 : w8.cell? ⟨w3.heap.size, 0, none⟩ = some (Value.int .i64 b) := HSTw8.out.cell 2 0 rfl rfl
          have k2_1 : w8.cell? ⟨w3.heap.size, 1, none⟩ = some (Value.slice A3 cs3.length c3) := HSTw8.out.cell 2 1 rfl rfl
          have l2_ : w3.heap.size < w8.heap.size := HSTw8.out.lt 2 rfl
          have k3_0 : w8.cell? ⟨w4.heap.size, 0, none⟩ = some (Value.int .i64 b) := HSTw8.out.cell 3 0 rfl rfl
          have k3_1 : w8.cell? ⟨w4.heap.size, 1, none⟩ = some (Value.slice A4 cs7.length c4) := HSTw8.out.cell 3 1 rfl rfl
          have l3_ : w4.heap.size < w8.heap.size := HSTw8.out.lt 3 rfl
          have k4_0 : w8.cell? ⟨w7.heap.size, 0, none⟩ = some (Value.int .i64 b) := HSTw8.out.cell 4 0 rfl rfl
          have k4_1 : w8.cell? ⟨w7.heap.size, 1, none⟩ = some (Value.slice A7 cs7.length c7) := HSTw8.out.cell 4 1 rfl rfl
          have l4_ : w7.heap.size < w8.heap.size := HSTw8.out.lt 4 rfl
          have HSTb8 := Lib.hid (show St w W8 [(w1.heap.size, Obj.cells #[Value.int .i64 b, Value.slice A1 cs1.length c1] 24 (0, 0)), (w2.heap.size, Obj.cells #[Value.int .i64 b, Value.slice A2 cs2.length c2] 24 (0, 0)), (w3.heap.size, Obj.cells #[Value.int .i64 b, Value.slice A3 cs3.length c3] 24 (0, 0)), (w4.heap.size, Obj.cells #[Value.int .i64 b, Value.slice A4 cs7.length c4] 24 (0, 0)), (w7.heap.size, Obj.cells #[Value.int .i64 b, Value.slice A7 cs7.length c7] 24 (0, 0)), (w8.heap.size, Obj.cells #[Value.int .i64 b8, Value.slice A8 n8 c8] 24 (0, 0))] by rw [hW8]; exact HSTw8.out.alloc _ _ rfl)
          clear hb8
          obtain ⟨cs8, hh8, e1, e2, hr8⟩ := HS8.out (by trivial)
          subst b8 n8
          have G8 := Lib.hid (good_merge hh8 G4.out G3.out (by have := HT4.out; omega))
          have HH8 := Lib.hid hh8
          have R8 := Lib.hid (show Rd W8 0 W8.heap.size 2 A8 cs8.length (cells2 cs8) from ((hr8.more (Nat.zero_le _) (Nat.le_refl _)).old HBX8.out))
          have hm := Merge_any b b A2 A3 c2 c3 cs2 cs3 W8 (RQ2.out.old HBW8.out) (RQ3.out.old HBW8.out) (by omega) (by omega)
          rw [codeG_good G2.out G3.out (by omega)] at hm
          have HM9 := Lib.hid (hm.mono (fun e w' h => h.form))
          clear hm hh8 hr8 HS8 HZ8
          go_wp2_with fail
          rw [← hW8]
          clear hW8
          clear k0_0 k0_1 l0_ k1_0 k1_1 l1_ k2_0 k2_1 l2_ k3_0 k3_1 l3_ k4_0 k4_1 l4_
          refine HM9.out.mono ?_
          rintro e w9 ⟨b9, A9, n9, c9, rfl, hs9, hz9, hb9⟩
          have HS9 := Lib.hid hs9
          have HZ9 := Lib.hid hz9
          clear hs9 hz9
          obtain ⟨W9, hW9⟩ : ∃ W9, W9 = w9.alloc (.cells #[Value.int .i64 b9, Value.slice A9 n9 c9] 24) := ⟨_, rfl⟩
          have hsz9 := hb9.size
          have hszW9 : w9.heap.size + 1 ≤ W9.heap.size := by rw [hW9]; simp
          have HBW9 := Lib.hid (show Below W8.heap.size W8 W9 by rw [hW9]; exact below_next hb9 ((Below.refl _ w9).alloc (Nat.le_refl _) _))
          have HBX9 := Lib.hid (show Below w9.heap.size w9 W9 by rw [hW9]; exact (Below.refl _ w9).alloc (Nat.le_refl _) _)
          have HSTw9 := Lib.hid (HSTb8.out.call hb9)
          have k0_0 : w9.cell? ⟨w1.heap.size, 0, none⟩ = some (Value.int .i64 b) := HSTw9.out.cell 0 0 rfl rfl
          have k0_1 : w9.cell? ⟨w1.heap.size, 1, none⟩ = some (Value.slice A1 cs1.length c1) := HSTw9.out.cell 0 1 rfl rfl
          have l0_ : w1.heap.size < w9.heap.size := HSTw9.out.lt 0 rfl
          have k1_0 : w9.cell? ⟨w2.heap.size, 0, none⟩ = some (Value.int .i64 b) := HSTw9.out.cell 1 0 rfl rfl
          have k1_1 : w9.cell? ⟨w2.heap.size, 1, none⟩ = some (Value.slice A2 cs2.length c2) := HSTw9.out.cell 1 1 rfl rfl
          have l1_ : w2.heap.size < w9.heap.size := HSTw9.out.lt 1 rfl
          have k2_0 : w9.cell? ⟨w3.heap.size, 0, none⟩ = some (Value.int .i64 b) := HSTw9.out.cell 2 0 rfl rfl
          have k2_1 : w9.cell? ⟨w3.heap.size, 1, none⟩ = some (Value.slice A3 cs3.length c3) := HSTw9.out.cell 2 1 rfl rfl
          have l2_ : w3.heap.size < w9.heap.size := HSTw9.out.lt 2 rfl
          have k3_0 : w9.cell? ⟨w4.heap.size, 0, none⟩ = some (Value.int .i64 b) := HSTw9.out.cell 3 0 rfl rfl
          have k3_1 : w9.cell? ⟨w4.heap.size, 1, none⟩ = some (Value.slice A4 cs7.length c4) := HSTw9.out.cell 3 1 rfl rfl
          have l3_ : w4.heap.size < w9.heap.size := HSTw9.out.lt 3 rfl
          have k4_0 : w9.cell? ⟨w7.heap.size, 0, none⟩ = some (Value.int .i64 b) := HSTw9.out.cell 4 0 rfl rfl
          have k4_1 : w9.cell? ⟨w7.heap.size, 1, none⟩ = some (Value.slice A7 cs7.length c7) := HSTw9.out.cell 4 1 rfl rfl
          have l4_ : w7.heap.size < w9.heap.size := HSTw9.out.lt 4 rfl
          have k5_0 : w9.cell? ⟨w8.heap.size, 0, none⟩ = some (Value.int .i64 b) := HSTw9.out.cell 5 0 rfl rfl
          have k5_1 : w9.cell? ⟨w8.heap.size, 1, none⟩ = some (Value.slice A8 cs8.length c8) := HSTw9.out.cell 5 1 rfl rfl
          have l5_ : w8.heap.size < w9.heap.size := HSTw9.out.lt 5 rfl
          have HSTb9 := Lib.hid (show St w W9 [(w1.heap.size, Obj.cells #[Value.int .i64 b, Value.slice A1 cs1.length c1] 24 (0, 0)), (w2.heap.size, Obj.cells #[Value.int .i64 b, Value.slice A2 cs2.length c2] 24 (0, 0)), (w3.heap.size, Obj.cells #[Value.int .i64 b, Value.slice A3 cs3.length c3] 24 (0, 0)), (w4.heap.size, Obj.cells #[Value.int .i64 b, Value.slice A4 cs7.length c4] 24 (0, 0)), (w7.heap.size, Obj.cells #[Value.int .i64 b, Value.slice A7 cs7.length c7] 24 (0, 0)), (w8.heap.size, Obj.cells #[Value.int .i64 b, Value.slice A8 cs8.length c8] 24 (0, 0)), (w9.heap.size, Obj.cells #[Value.int .i64 b9, Value.slice A9 n9 c9] 24 (0, 0))] by rw [hW9]; exact HSTw9.out.alloc _ _ rfl)
          clear hb9
          obtain ⟨cs9, hh9, e1, e2, hr9⟩ := HS9.out (by trivial)
          subst b9 n9
          have hg9 := good_merge hh9 G2.out G3.out (by omega)
          have hlen9 := hg9.2.2.1
          have ht9 : tot cs9 = tot cs2 + tot cs3 := by
            rw [(hist_tot hh9 (fun x hx => (List.mem_append.1 hx).elim (G2.out.cells x) (G3.out.cells x)) G2.out.1 G2.out.2.1).1, tot_append]
          have G9 := Lib.hid hg9
          have HH9 := Lib.hid hh9
          have R9 := Lib.hid (show Rd W9 0 W9.heap.size 2 A9 cs9.length (cells2 cs9) from ((hr9.more (Nat.zero_le _) (Nat.le_refl _)).old HBX9.out))
          have hm := Merge_any b b A1 A9 c1 c9 cs1 cs9 W9 ((RQ1.out.old HBW8.out).old HBW9.out) R9.out (by omega) (by omega)
          rw [codeG_good G1.out hg9 (by omega)] at hm
          have HM10 := Lib.hid (hm.mono (fun e w' h => h.form))
          have HTT9 := Lib.hid ht9
          clear hm hh9 hr9 hg9 ht9 HS9 HZ9
          go_wp2_with fail
          rw [← hW9]
          clear hW9
          clear k0_0 k0_1 l0_ k1_0 k1_1 l1_ k2_0 k2_1 l2_ k3_0 k3_1 l3_ k4_0 k4_1 l4_ k5_0 k5_1 l5_
          refine HM10.out.mono ?_
          rintro e w10 ⟨b10, A10, n10, c10, rfl, hs10, hz10, hb10⟩
          have HS10 := Lib.hid hs10
          have HZ10 := Lib.hid hz10
          clear hs10 hz10
          obtain ⟨W10, hW10⟩ : ∃ W10, W10 = w10.alloc (.cells #[Value.int .i64 b10, Value.slice A10 n10 c10] 24) := ⟨_, rfl⟩
          have hsz10 := hb10.size
          have hszW10 : w10.heap.size + 1 ≤ W10.heap.size := by rw [hW10]; simp
          have HBW10 := Lib.hid (show Below W9.heap.size W9 W10 by rw [hW10]; exact below_next hb10 ((Below.refl _ w10).alloc (Nat.le_refl _) _))
          have HBX10 := Lib.hid (show Below w10.heap.size w10 W10 by rw [hW10]; exact (Below.refl _ w10).alloc (Nat.le_refl _) _)
          have HSTw10 := Lib.hid (HSTb9.out.call hb10)
          have k0_0 : w10.cell? ⟨w1.heap.size, 0, none⟩ = some (Value.int .i64 b) := HSTw10.out.cell 0 0 rfl rfl
          have k0_1 : w10.cell? ⟨w1.heap.size, 1, none⟩ = some (Value.slice A1 cs1.length c1) := HSTw10.out.cell 0 1 rfl rfl
          have l0_ : w1.heap.size < w10.heap.size := HSTw10.out.lt 0 rfl
          have k1_0 : w10.cell? ⟨w2.heap.size, 0, none⟩ = some (Value.int .i64 b) := HSTw10.out.cell 1 0 rfl rfl
          have k1_1 : w10.cell? ⟨w2.heap.size, 1, none⟩ = some (Value.slice A2 cs2.length c2) := HSTw10.out.cell 1 1 rfl rfl
          have l1_ : w2.heap.size < w10.heap.size := HSTw10.out.lt 1 rfl
          have k2_0 : w10.cell? ⟨w3.heap.size, 0, none⟩ = some (Value.int .i64 b) := HSTw10.out.cell 2 0 rfl rfl
          have k2_1 : w10.cell? ⟨w3.heap.size, 1, none⟩ = some (Value.slice A3 cs3.length c3) := HSTw10.out.cell 2 1 rfl rfl
          have l2_ : w3.heap.size < w10.heap.size := HSTw10.out.lt 2 rfl
          have k3_0 : w10.cell? ⟨w4.heap.size, 0, none⟩ = some (Value.int .i64 b) := HSTw10.out.cell 3 0 rfl rfl
          have k3_1 : w10.cell? ⟨w4.heap.size, 1, none⟩ = some (Value.slice A4 cs7.length c4) := HSTw10.out.cell 3 1 rfl rfl
          have l3_ : w4.heap.size < w10.heap.size := HSTw10.out.lt 3 rfl
          have k4_0 : w10.cell? ⟨w7.heap.size, 0, none⟩ = some (Value.int .i64 b) := HSTw10.out.cell 4 0 rfl rfl
          have k4_1 : w10.cell? ⟨w7.heap.size, 1, none⟩ = some (Value.slice A7 cs7.length c7) := HSTw10.out.cell 4 1 rfl rfl
          have l4_ : w7.heap.size < w10.heap.size := HSTw10.out.lt 4 rfl
          have k5_0 : w10.cell? ⟨w8.heap.size, 0, none⟩ = some (Value.int .i64 b) := HSTw10.out.cell 5 0 rfl rfl
          have k5_1 : w10.cell? ⟨w8.heap.size, 1, none⟩ = some (Value.slice A8 cs8.length c8) := HSTw10.out.cell 5 1 rfl rfl
          have l5_ : w8.heap.size < w10.heap.size := HSTw10.out.lt 5 rfl
          have k6_0 : w10.cell? ⟨w9.heap.size, 0, none⟩ = some (Value.int .i64 b) := HSTw10.out.cell 6 0 rfl rfl
          have k6_1 : w10.cell? ⟨w9.heap.size, 1, none⟩ = some (Value.slice A9 cs9.length c9) := HSTw10.out.cell 6 1 rfl rfl
          have l6_ : w9.heap.size < w10.heap.size := HSTw10.out.lt 6 rfl
          have HSTb10 := Lib.hid (show St w W10 [(w1.heap.size, Obj.cells #[Value.int .i64 b, Value.slice A1 cs1.length c1] 24 (0, 0)), (w2.heap.size, Obj.cells #[Value.int .i64 b, Value.slice A2 cs2.length c2] 24 (0, 0)), (w3.heap.size, Obj.cells #[Value.int .i64 b, Value.slice A3 cs3.length c3] 24 (0, 0)), (w4.heap.size, Obj.cells #[Value.int .i64 b, Value.slice A4 cs7.length c4] 24 (0, 0)), (w7.heap.size, Obj.cells #[Value.int .i64 b, Value.slice A7 cs7.length c7] 24 (0, 0)), (w8.heap.size, Obj.cells #[Value.int .i64 b, Value.slice A8 cs8.length c8] 24 (0, 0)), (w9.heap.size, Obj.cells #[Value.int .i64 b, Value.slice A9 cs9.length c9] 24 (0, 0)), (w10.heap.size, Obj.cells #[Value.int .i64 b10, Value.slice A10 n10 c10] 24 (0, 0))] by rw [hW10]; exact HSTw10.out.alloc _ _ rfl)
          clear hb10
          obtain ⟨cs10, hh10, e1, e2, hr10⟩ := HS10.out (by trivial)
          subst b10 n10
          obtain rfl : cs10 = cs8 := by
            refine IsHist.uniq hh10 ?_
            have h4 := hist_back HH4.out (fun x => (sumAt_bd id (cs1 ++ cs2) x (fun c hc => ((List.mem_append.1 hc).elim (G1.out.cells c) (G2.out.cells c)).2)).1)
            have h9 := hist_back HH9.out (fun x => (sumAt_bd id (cs2 ++ cs3) x (fun c hc => ((List.mem_append.1 hc).elim (G2.out.cells c) (G3.out.cells c)).2)).1)
            have : sumAt id (cs1 ++ cs9) = sumAt id (cs7 ++ cs3) := by
              funext x
              rw [sumAt_append, sumAt_append, h4, h9, sumAt_append, sumAt_append]; omega
            rw [this]; exact HH8.out
          have HT10 := Lib.hid (show Tab W10.heap.size W10 from (HT.out.on HSTb10.out.below).mono HSTb10.out.below.size)
          have TR := Lib.hid (show TellsAs (.agg #[.int .i64 b, .slice A8 cs10.length c8]) 0 (inkHist b cs10 ++ inkInt 0) W10 from tells_of HT10.out ⟨A8, c8, rfl, (R8.out.old HBW9.out).old HBW10.out⟩ (I64_good G8.out) i00 (hist_tell G8.out).1 (hist_tell G8.out).2)
          have TT := Lib.hid (show TellsAs (.agg #[.int .i64 b, .slice A10 cs10.length c10]) 0 (inkHist b cs10 ++ inkInt 0) W10 from tells_of HT10.out ⟨A10, c10, rfl, ((hr10.more (Nat.zero_le _) (Nat.le_refl _)).old HBX10.out)⟩ (I64_good G8.out) i00 (hist_tell G8.out).1 (hist_tell G8.out).2)
          have HCN := Lib.hid (fun W' => counts_any W')
          clear hh10 hr10 HS10 HZ10
          go_wp2
          rw [← hW10]
          clear hW10
          clear k0_0 k0_1 l0_ k1_0 k1_1 l1_ k2_0 k2_1 l2_ k3_0 k3_1 l3_ k4_0 k4_1 l4_ k5_0 k5_1 l5_ k6_0 k6_1 l6_
          have HKS := Lib.hid (show ∀ w', Below W10.heap.size W10 w' → w'.cell? ⟨w1.heap.size, 0, none⟩ = some (Value.int .i64 b) ∧ w'.cell? ⟨w1.heap.size, 1, none⟩ = some (Value.slice A1 cs1.length c1) ∧ w'.cell? ⟨w2.heap.size, 0, none⟩ = some (Value.int .i64 b) ∧ w'.cell? ⟨w2.heap.size, 1, none⟩ = some (Value.slice A2 cs2.length c2) ∧ w'.cell? ⟨w3.heap.size, 0, none⟩ = some (Value.int .i64 b) ∧ w'.cell? ⟨w3.heap.size, 1, none⟩ = some (Value.slice A3 cs3.length c3) ∧ w'.cell? ⟨w4.heap.size, 0, none⟩ = some (Value.int .i64 b) ∧ w'.cell? ⟨w4.heap.size, 1, none⟩ = some (Value.slice A4 cs7.length c4) ∧ w'.cell? ⟨w7.heap.size, 0, none⟩ = some (Value.int .i64 b) ∧ w'.cell? ⟨w7.heap.size, 1, none⟩ = some (Value.slice A7 cs7.length c7) ∧ w'.cell? ⟨w8.heap.size, 0, none⟩ = some (Value.int .i64 b) ∧ w'.cell? ⟨w8.heap.size, 1, none⟩ = some (Value.slice A8 cs10.length c8) ∧ w'.cell? ⟨w9.heap.size, 0, none⟩ = some (Value.int .i64 b) ∧ w'.cell? ⟨w9.heap.size, 1, none⟩ = some (Value.slice A9 cs9.length c9) ∧ w'.cell? ⟨w10.heap.size, 0, none⟩ = some (Value.int .i64 b) ∧ w'.cell? ⟨w10.heap.size, 1, none⟩ = some (Value.slice A10 cs10.length c10) ∧ Below W10.heap.size W10 w' from fun w' hb => ⟨(HSTb10.out.call hb).cell 0 0 rfl rfl, (HSTb10.out.call hb).cell 0 1 rfl rfl, (HSTb10.out.call hb).cell 1 0 rfl rfl, (HSTb10.out.call hb).cell 1 1 rfl rfl, (HSTb10.out.call hb).cell 2 0 rfl rfl, (HSTb10.out.call hb).cell 2 1 rfl rfl, (HSTb10.out.call hb).cell 3 0 rfl rfl, (HSTb10.out.call hb).cell 3 1 rfl rfl, (HSTb10.out.call hb).cell 4 0 rfl rfl, (HSTb10.out.call hb).cell 4 1 rfl rfl, (HSTb10.out.call hb).cell 5 0 rfl rfl, (HSTb10.out.call hb).cell 5 1 rfl rfl, (HSTb10.out.call hb).cell 6 0 rfl rfl, (HSTb10.out.call hb).cell 6 1 rfl rfl, (HSTb10.out.call hb).cell 7 0 rfl rfl, (HSTb10.out.call hb).cell 7 1 rfl rfl, hb⟩)
          have k0_0 : W10.cell? ⟨w1.heap.size, 0, none⟩ = some (Value.int .i64 b) := HSTb10.out.cell 0 0 rfl rfl
          have k0_1 : W10.cell? ⟨w1.heap.size, 1, none⟩ = some (Value.slice A1 cs1.length c1) := HSTb10.out.cell 0 1 rfl rfl
          have l0_ : w1.heap.size < W10.heap.size := HSTb10.out.lt 0 rfl
          have k1_0 : W10.cell? ⟨w2.heap.size, 0, none⟩ = some (Value.int .i64 b) := HSTb10.out.cell 1 0 rfl rfl
          have k1_1 : W10.cell? ⟨w2.heap.size, 1, none⟩ = some (Value.slice A2 cs2.length c2) := HSTb10.out.cell 1 1 rfl rfl
          have l1_ : w2.heap.size < W10.heap.size := HSTb10.out.lt 1 rfl
          have k2_0 : W10.cell? ⟨w3.heap.size, 0, none⟩ = some (Value.int .i64 b) := HSTb10.out.cell 2 0 rfl rfl
          have k2_1 : W10.cell? ⟨w3.heap.size, 1, none⟩ = some (Value.slice A3 cs3.length c3) := HSTb10.out.cell 2 1 rfl rfl
          have l2_ : w3.heap.size < W10.heap.size := HSTb10.out.lt 2 rfl
          have k3_0 : W10.cell? ⟨w4.heap.size, 0, none⟩ = some (Value.int .i64 b) := HSTb10.out.cell 3 0 rfl rfl
          have k3_1 : W10.cell? ⟨w4.heap.size, 1, none⟩ = some (Value.slice A4 cs7.length c4) := HSTb10.out.cell 3 1 rfl rfl
          have l3_ : w4.heap.size < W10.heap.size := HSTb10.out.lt 3 rfl
          have k4_0 : W10.cell? ⟨w7.heap.size, 0, none⟩ = some (Value.int .i64 b) := HSTb10.out.cell 4 0 rfl rfl
          have k4_1 : W10.cell? ⟨w7.heap.size, 1, none⟩ = some (Value.slice A7 cs7.length c7) := HSTb10.out.cell 4 1 rfl rfl
          have l4_ : w7.heap.size < W10.heap.size := HSTb10.out.lt 4 rfl
          have k5_0 : W10.cell? ⟨w8.heap.size, 0, none⟩ = some (Value.int .i64 b) := HSTb10.out.cell 5 0 rfl rfl
          have k5_1 : W10.cell? ⟨w8.heap.size, 1, none⟩ = some (Value.slice A8 cs10.length c8) := HSTb10.out.cell 5 1 rfl rfl
          have l5_ : w8.heap.size < W10.heap.size := HSTb10.out.lt 5 rfl
          have k6_0 : W10.cell? ⟨w9.heap.size, 0, none⟩ = some (Value.int .i64 b) := HSTb10.out.cell 6 0 rfl rfl
          have k6_1 : W10.cell? ⟨w9.heap.size, 1, none⟩ = some (Value.slice A9 cs9.length c9) := HSTb10.out.cell 6 1 rfl rfl
          have l6_ : w9.heap.size < W10.heap.size := HSTb10.out.lt 6 rfl
          have k7_0 : W10.cell? ⟨w10.heap.size, 0, none⟩ = some (Value.int .i64 b) := HSTb10.out.cell 7 0 rfl rfl
          have k7_1 : W10.cell? ⟨w10.heap.size, 1, none⟩ = some (Value.slice A10 cs10.length c10) := HSTb10.out.cell 7 1 rfl rfl
          have l7_ : w10.heap.size < W10.heap.size := HSTb10.out.lt 7 rfl
          go_region_held3 (fun w' => w'.cell? ⟨w1.heap.size, 0, none⟩ = some (Value.int .i64 b) ∧ w'.cell? ⟨w1.heap.size, 1, none⟩ = some (Value.slice A1 cs1.length c1) ∧ w'.cell? ⟨w2.heap.size, 0, none⟩ = some (Value.int .i64 b) ∧ w'.cell? ⟨w2.heap.size, 1, none⟩ = some (Value.slice A2 cs2.length c2) ∧ w'.cell? ⟨w3.heap.size, 0, none⟩ = some (Value.int .i64 b) ∧ w'.cell? ⟨w3.heap.size, 1, none⟩ = some (Value.slice A3 cs3.length c3) ∧ w'.cell? ⟨w4.heap.size, 0, none⟩ = some (Value.int .i64 b) ∧ w'.cell? ⟨w4.heap.size, 1, none⟩ = some (Value.slice A4 cs7.length c4) ∧ w'.cell? ⟨w7.heap.size, 0, none⟩ = some (Value.int .i64 b) ∧ w'.cell? ⟨w7.heap.size, 1, none⟩ = some (Value.slice A7 cs7.length c7) ∧ w'.cell? ⟨w8.heap.size, 0, none⟩ = some (Value.int .i64 b) ∧ w'.cell? ⟨w8.heap.size, 1, none⟩ = some (Value.slice A8 cs10.length c8) ∧ w'.cell? ⟨w9.heap.size, 0, none⟩ = some (Value.int .i64 b) ∧ w'.cell? ⟨w9.heap.size, 1, none⟩ = some (Value.slice A9 cs9.length c9) ∧ w'.cell? ⟨w10.heap.size, 0, none⟩ = some (Value.int .i64 b) ∧ w'.cell? ⟨w10.heap.size, 1, none⟩ = some (Value.slice A10 cs10.length c10) ∧ Below W10.heap.size W10 w')
            (first
              | exact HKS.out _ (Below.refl _ W10).drew
              | (go_split_ands; refine HKS.out _ (below_next ?_ hbK); assumption)
              | (go_split_ands; refine HKS.out _ (below_next ?_ hbT); assumption)
              | (go_split_ands; refine HKS.out _ (below_next ?_ hbR); assumption))
            (first
              | (go_at_call_of 13 (Value.agg #[.int .i64 b, .slice A8 cs10.length c8]); refine (TR.out _ ?_).mono ?_; (go_split_ands; assumption); rintro e wR ⟨rfl, hbR⟩)
              | (go_at_call_of 13 (Value.agg #[.int .i64 b, .slice A10 cs10.length c10]); refine (TT.out _ ?_).mono ?_; (go_split_ands; assumption); rintro e wT ⟨rfl, hbT⟩)
              | (go_at_call 12; refine (HCN.out _).mono ?_; rintro e wK ⟨rfl, hbK⟩))
          have hbel31 : Below W10.heap.size W10 wK := by go_split_ands; assumption
          have HST31 := Lib.hid (HSTb10.out.call hbel31)
          have hsz31 := hbel31.size
          clear k0_0 k0_1 l0_ k1_0 k1_1 l1_ k2_0 k2_1 l2_ k3_0 k3_1 l3_ k4_0 k4_1 l4_ k5_0 k5_1 l5_ k6_0 k6_1 l6_ k7_0 k7_1 l7_
          have HBEL31 := Lib.hid hbel31
          clear hbel31
          have k0_0 : wK.cell? ⟨w1.heap.size, 0, none⟩ = some (Value.int .i64 b) := HST31.out.cell 0 0 rfl rfl
          have k0_1 : wK.cell? ⟨w1.heap.size, 1, none⟩ = some (Value.slice A1 cs1.length c1) := HST31.out.cell 0 1 rfl rfl
          have l0_ : w1.heap.size < wK.heap.size := HST31.out.lt 0 rfl
          have k1_0 : wK.cell? ⟨w2.heap.size, 0, none⟩ = some (Value.int .i64 b) := HST31.out.cell 1 0 rfl rfl
          have k1_1 : wK.cell? ⟨w2.heap.size, 1, none⟩ = some (Value.slice A2 cs2.length c2) := HST31.out.cell 1 1 rfl rfl
          have l1_ : w2.heap.size < wK.heap.size := HST31.out.lt 1 rfl
          have k2_0 : wK.cell? ⟨w3.heap.size, 0, none⟩ = some (Value.int .i64 b) := HST31.out.cell 2 0 rfl rfl
          have k2_1 : wK.cell? ⟨w3.heap.size, 1, none⟩ = some (Value.slice A3 cs3.length c3) := HST31.out.cell 2 1 rfl rfl
          have l2_ : w3.heap.size < wK.heap.size := HST31.out.lt 2 rfl
          have k3_0 : wK.cell? ⟨w4.heap.size, 0, none⟩ = some (Value.int .i64 b) := HST31.out.cell 3 0 rfl rfl
          have k3_1 : wK.cell? ⟨w4.heap.size, 1, none⟩ = some (Value.slice A4 cs7.length c4) := HST31.out.cell 3 1 rfl rfl
          have l3_ : w4.heap.size < wK.heap.size := HST31.out.lt 3 rfl
          have k4_0 : wK.cell? ⟨w7.heap.size, 0, none⟩ = some (Value.int .i64 b) := HST31.out.cell 4 0 rfl rfl
          have k4_1 : wK.cell? ⟨w7.heap.size, 1, none⟩ = some (Value.slice A7 cs7.length c7) := HST31.out.cell 4 1 rfl rfl
          have l4_ : w7.heap.size < wK.heap.size := HST31.out.lt 4 rfl
          have k5_0 : wK.cell? ⟨w8.heap.size, 0, none⟩ = some (Value.int .i64 b) := HST31.out.cell 5 0 rfl rfl
          have k5_1 : wK.cell? ⟨w8.heap.size, 1, none⟩ = some (Value.slice A8 cs10.length c8) := HST31.out.cell 5 1 rfl rfl
          have l5_ : w8.heap.size < wK.heap.size := HST31.out.lt 5 rfl
          have k6_0 : wK.cell? ⟨w9.heap.size, 0, none⟩ = some (Value.int .i64 b) := HST31.out.cell 6 0 rfl rfl
          have k6_1 : wK.cell? ⟨w9.heap.size, 1, none⟩ = some (Value.slice A9 cs9.length c9) := HST31.out.cell 6 1 rfl rfl
          have l6_ : w9.heap.size < wK.heap.size := HST31.out.lt 6 rfl
          have k7_0 : wK.cell? ⟨w10.heap.size, 0, none⟩ = some (Value.int .i64 b) := HST31.out.cell 7 0 rfl rfl
          have k7_1 : wK.cell? ⟨w10.heap.size, 1, none⟩ = some (Value.slice A10 cs10.length c10) := HST31.out.cell 7 1 rfl rfl
          have l7_ : w10.heap.size < wK.heap.size := HST31.out.lt 7 rfl
          clear hbR hbT hbK HKS
          go_wp2
          go_ret
          exact ⟨rfl, HST31.out.below⟩
      · have h3' : (codeV b nc zc != 0) = true := by simp [h3]
        clear h3
        go_wp2_with (go_at_call 12; refine (counts_any _).mono ?_; rintro e wK ⟨rfl, hbK⟩)
        go_ret
        exact ⟨rfl, below_next (by rw [← hW3]; exact HSTb3.out.below) hbK⟩
    · have h2' : (codeV b nb zb != 0) = true := by simp [h2]
      clear h2
      go_wp2_with (go_at_call 12; refine (counts_any _).mono ?_; rintro e wK ⟨rfl, hbK⟩)
      go_ret
      exact ⟨rfl, below_next (by rw [← hW3]; exact HSTb3.out.below) hbK⟩
  · have h1' : (codeV b na za != 0) = true := by simp [h1]
    clear h1
    go_wp2_with (go_at_call 12; refine (counts_any _).mono ?_; rintro e wK ⟨rfl, hbK⟩)
    go_ret
    exact ⟨rfl, below_next (by rw [← hW3]; exact HSTb3.out.below) hbK⟩
end Go.Proofs.YtgmbgclhljobaaaDoor
