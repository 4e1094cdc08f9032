/- MeasureExpectedMatchesSpec: its walk. -/
import Derived.Test.YtgmbgclhljobaaaDoorRExp
import Derived.Test.YtgmbgclhljobaaaDoorLawTog
namespace Go.Proofs.YtgmbgclhljobaaaDoor
open Go Go.RowKit Go.Proofs Go.Maps

theorem Expected_post (b : Int) (A : Option Addr) (n c : Nat) (zs : List Int) (p : Int) (w : World) (hr : Rd w 0 w.heap.size 1 A n (ints zs)) (hn : n < 9223372036854775807) :
    Calls Tryd.prog 11 #[.int .i64 b, .slice A n c, .int .i64 p] w (HistPost (cntB b (expAll zs p)) b (codeE b n zs p) w) := by
  by_cases h0 : codeE b n zs p = 0
  · obtain ⟨h1, h2, h3, h4⟩ := codeE_zero h0
    refine (Expected_ok b A n c zs p w hr h1 h2 h3 h4).mono ?_
    rintro e w'' ⟨v, cs, rfl, g1, g2, g3⟩
    rw [h0]
    exact ⟨v, rfl, fun _ => ⟨cs, g1, g2.r⟩, fun h => absurd rfl h, g3⟩
  · refine (Expected_no b A n c zs p w hr hn h0).mono ?_
    rintro e w'' ⟨g1, g2⟩
    exact ⟨_, g1, fun h => absurd h h0, fun _ => rfl, g2⟩
theorem codeE_i64 (b : Int) (n : Nat) (zs : List Int) (p : Int) : I64 (codeE b n zs p) := by
  have h1 := codeV_i64 b n zs
  unfold I64 at *
  unfold codeE
  repeat' split <;> omega
theorem fine_exp {b : Int} {n : Nat} {zs : List Int} {p : Int} (h : codeE b n zs p = 0) : Fine b (expAll zs p) := by
  obtain ⟨h1, h2, h3, h4⟩ := codeE_zero h
  obtain ⟨g1, g2, g3, g4⟩ := codeV_zero h1
  have := sumE_length zs p
  exact ⟨g1, g2, expAll_fine zs p g4 h2, by omega⟩
theorem exp_told {b : Int} {n : Nat} {zs : List Int} {p : Int} (h : codeE b n zs p = 0) : ∀ cs, IsHist (cntB b (expAll zs p)) cs → (∀ c ∈ cs, I64 c.1 ∧ I64 c.2) ∧ cs.length ≤ 100000000 := fun cs hh => hist_tell ((fine_exp h).good hh).1
theorem expAll_append (za zb : List Int) (p : Int) : expAll (za ++ zb) p = expAll za p ++ expAll zb p := by simp [expAll]

attribute [local go_sem ↓] Go.wp_at_zero Go.wp_at_succ

set_option maxHeartbeats 8000000 in
set_option maxRecDepth 100000 in
theorem law_expected (b p : Int) (Aa Ab : Option Addr) (na ca nb cb : Nat) (za zb : List Int) (w : World) (ht : Tab w.heap.size w) (hra : Rd w 0 w.heap.size 1 Aa na (ints za)) (hrb : Rd w 0 w.heap.size 1 Ab nb (ints zb))
    (hN : na + nb ≤ 2000000) (hAa : Aa = none → na = 0 ∧ ca = 0) (hAb : Ab = none → nb = 0 ∧ cb = 0) :
    Calls Tryd.prog 8 #[.int .i64 b, .slice Aa na ca, .slice Ab nb cb, .int .i64 p] w fun e w' => e = .returned (.bool true) ∧ Below w.heap.size w w' := by
  obtain ⟨i0, hi0, hz0, hz1', hz2'⟩ := info_parts Tryd.infoI
  have HT := Lib.hid ht
  have HRA := Lib.hid hra
  have HRB := Lib.hid hrb
  have HAA := Lib.hid hAa
  have HAB := Lib.hid hAb
  have HO1 := Lib.hid ((Expected_post b Aa na ca za p w hra (by omega)).mono (fun e w' h => h.form))
  have HST0 := Lib.hid (St.start w)
  clear ht hra hrb hAa hAb
  go_enter Tryd.func8, Tryd.ntmps8
  go_wp2_with fail
  refine HO1.out.mono ?_
  rintro e w1 ⟨b1, A1, n1, c1, rfl, hs1, hz1, hb1⟩
  have HS1 := Lib.hid hs1
  have HZ1 := Lib.hid hz1
  clear hs1 hz1
  obtain ⟨W1, hW1⟩ : ∃ W1, W1 = w1.alloc (.cells #[Value.int .i64 b1, Value.slice A1 n1 c1] 24) := ⟨_, rfl⟩
  have hsz1 := hb1.size
  have hszW1 : w1.heap.size + 1 ≤ W1.heap.size := by rw [hW1]; simp
  have HBW1 := Lib.hid (show Below w.heap.size w W1 by rw [hW1]; exact below_next hb1 ((Below.refl _ w1).alloc (Nat.le_refl _) _))
  have HBX1 := Lib.hid (show Below w1.heap.size w1 W1 by rw [hW1]; exact (Below.refl _ w1).alloc (Nat.le_refl _) _)
  have HSTw1 := Lib.hid (HST0.out.call hb1)
  have HSTb1 := Lib.hid (show St w W1 [(w1.heap.size, Obj.cells #[Value.int .i64 b1, Value.slice A1 n1 c1] 24 (0, 0))] by rw [hW1]; exact HSTw1.out.alloc _ _ rfl)
  clear hb1
  have HT1 := Lib.hid (show Tab W1.heap.size W1 from (HT.out.on HSTb1.out.below).mono HSTb1.out.below.size)
  have TA := Lib.hid (show TellsAs (.agg #[.int .i64 b1, .slice A1 n1 c1]) (codeE b na za p) (inkOf b (cntB b (expAll za p)) (codeE b na za p)) W1 from
    TellsAs.on (tells_form ((HT.out.on HSTw1.out.below).mono HSTw1.out.below.size) (codeE_i64 b na za p) HS1.out HZ1.out (fun h => by have := fine_exp h; have h1 := this.lo; have h2 := this.hi; unfold I64; omega) exp_told) HBX1.out)
  have HRE := Lib.hid (show Makes 26 #[.int .i64 b, .slice Aa na ca, .int .i64 p] (codeE b na za p) (inkOf b (cntB b (expAll za p)) (codeE b na za p)) W1 from
    makes_of HT1.out (codeE_i64 b na za p) (fun h => by have := fine_exp h; have h1 := this.lo; have h2 := this.hi; unfold I64; omega) exp_told (fun w' hb' => RExpected_any b Aa na ca za p w' (HRA.out.old (HSTb1.out.old hb')) (by omega)))
  go_wp2_with fail
  rw [← hW1]
  clear hW1
  refine (TA.out _ (Below.refl _ _)).mono ?_
  rintro e wA ⟨rfl, hbA⟩
  have hszA := hbA.size
  have HBA := Lib.hid hbA
  clear hbA
  go_wp2_with fail
  refine (HRE.out _ HBA.out).mono ?_
  rintro e wB ⟨vB, rfl, htB, hbB⟩
  have hszB := hbB.size
  have HTB := Lib.hid htB
  have HBB := Lib.hid (below_next HBA.out hbB)
  clear htB hbB
  go_wp2_with fail
  refine (HTB.out _ (Below.refl _ _)).mono ?_
  rintro e wC ⟨rfl, hbC⟩
  have hszC := hbC.size
  have HBC := Lib.hid (below_next HBB.out hbC)
  have HSTc := Lib.hid (HSTb1.out.call HBC.out)
  clear hbC
  have HO2 := Lib.hid ((Expected_post b Ab nb cb zb p wC (HRB.out.old HSTc.out.below) (by omega)).mono (fun e w' h => h.form))
  go_wp2_with fail
  refine HO2.out.mono ?_
  rintro e w2 ⟨b2, A2, n2, c2, rfl, hs2, hz2, hb2⟩
  have HS2 := Lib.hid hs2
  have HZ2 := Lib.hid hz2
  clear hs2 hz2
  obtain ⟨W2, hW2⟩ : ∃ W2, W2 = w2.alloc (.cells #[Value.int .i64 b2, Value.slice A2 n2 c2] 24) := ⟨_, rfl⟩
  have hsz2 := hb2.size
  have hszW2 : w2.heap.size + 1 ≤ W2.heap.size := by rw [hW2]; simp
  have HBW2 := Lib.hid (show Below wC.heap.size wC W2 by rw [hW2]; exact below_next hb2 ((Below.refl _ w2).alloc (Nat.le_refl _) _))
  have HBX2 := Lib.hid (show Below w2.heap.size w2 W2 by rw [hW2]; exact (Below.refl _ w2).alloc (Nat.le_refl _) _)
  have HSTw2 := Lib.hid (HSTc.out.call hb2)
  have k0_0 : w2.cell? ⟨w1.heap.size, 0, none⟩ = some (Value.int .i64 b1) := HSTw2.out.cell 0 0 rfl rfl
  have k0_1 : w2.cell? ⟨w1.heap.size, 1, none⟩ = some (Value.slice A1 n1 c1) := HSTw2.out.cell 0 1 rfl rfl
  have l0_ : w1.heap.size < w2.heap.size := HSTw2.out.lt 0 rfl
  have HSTb2 := Lib.hid (show St w W2 [(w1.heap.size, Obj.cells #[Value.int .i64 b1, Value.slice A1 n1 c1] 24 (0, 0)), (w2.heap.size, Obj.cells #[Value.int .i64 b2, Value.slice A2 n2 c2] 24 (0, 0))] by rw [hW2]; exact HSTw2.out.alloc _ _ rfl)
  clear hb2
  have HRA2 := Lib.hid (show Rd (w2.alloc (.cells #[.int .i64 b2, .slice A2 n2 c2] 24)) 0 (w2.alloc (.cells #[.int .i64 b2, .slice A2 n2 c2] 24)).heap.size 1 Aa na (ints za) by rw [← hW2]; exact HRA.out.old HSTb2.out.below)
  have HN := Lib.hid (show (w2.alloc (.cells #[.int .i64 b2, .slice A2 n2 c2] 24)).ownsRow (w2.heap.size + 1) 3 1 (.slice none 0 0) 0 [] from ⟨by simp, .inl ⟨rfl, rfl⟩⟩)
  go_wp2_with (at_builtin; refine wpList_append_rd rfl (.const (.slice none 0 0)) (.tmp 44) 28 rfl (w2.heap.size + 1) 3 i0 _ 1 8 Tryd.underlying28 hi0 hz0 hz1' hz2' rfl (by decide) (.slice none 0 0) 0 [] rfl HN.out Aa na ca _ _ (ints za) rfl HAA.out HRA2.out (ints_one za) ?k1 ?k2 ?k3 ?_)
  case k1 => unfold maxLen; omega
  case k2 => omega
  case k3 => simp
  intro v5 w5 ho5 hg5
  have hb5 : Below W2.heap.size W2 w5 := by
    rw [hW2]
    exact (Below.refl _ _).grown hg5 (Nat.le_refl _) (fun k hk => by cases hk)
  have HO5 := Lib.hid ho5
  have HB5 := Lib.hid hb5
  have HRB5 := Lib.hid (HRB.out.old (HSTb2.out.old hb5))
  have hsz5 := hb5.size
  clear ho5 hg5 hb5
  clear k0_0 k0_1 l0_
  go_wp2_with (at_builtin; refine wpList_append_rd rfl (.tmp 45) (.tmp 46) 28 rfl (w2.heap.size + 1) 3 i0 _ 1 8 Tryd.underlying28 hi0 hz0 hz1' hz2' rfl (by decide) v5 na (ints za) rfl HO5.out Ab nb cb _ _ (ints zb) rfl HAB.out HRB5.out (ints_one zb) ?k4 ?k5 ?k6 ?_)
  case k4 => unfold maxLen; omega
  case k5 => omega
  case k6 => omega
  intro v6 w6 ho6 hg6
  have hb6 : Below (w2.heap.size + 1) w5 w6 := (Below.refl _ _).grown hg6 (by omega) (fun k hk => (ownsRow_block HO5.out hk.symm).1)
  have hW2s : W2.heap.size = w2.heap.size + 1 := by rw [hW2]; simp
  have hb26 : Below W2.heap.size W2 w6 := HB5.out.trans (hb6.mono (by omega))
  obtain ⟨A6, cap6, rfl, _, _, _⟩ := ownsRow_shape ho6
  have hr6 : Rd w6 0 w6.heap.size 1 A6 (na + nb) (ints (za ++ zb)) := by rw [ints_append]; exact (Rd.of_own ho6).more (Nat.zero_le _) (Nat.le_refl _)
  have HO6 := Lib.hid ((Expected_post b A6 (na + nb) cap6 (za ++ zb) p w6 hr6 (by omega)).mono (fun e w' h => h.form))
  have HB26 := Lib.hid hb26
  have hsz6 := hb26.size
  have HST6 := Lib.hid (HSTb2.out.call hb26)
  clear ho6 hg6 hb6 hb26 hr6 hW2s hW2
  have k0_0 : w6.cell? ⟨w1.heap.size, 0, none⟩ = some (Value.int .i64 b1) := HST6.out.cell 0 0 rfl rfl
  have k0_1 : w6.cell? ⟨w1.heap.size, 1, none⟩ = some (Value.slice A1 n1 c1) := HST6.out.cell 0 1 rfl rfl
  have l0_ : w1.heap.size < w6.heap.size := HST6.out.lt 0 rfl
  have k1_0 : w6.cell? ⟨w2.heap.size, 0, none⟩ = some (Value.int .i64 b2) := HST6.out.cell 1 0 rfl rfl
  have k1_1 : w6.cell? ⟨w2.heap.size, 1, none⟩ = some (Value.slice A2 n2 c2) := HST6.out.cell 1 1 rfl rfl
  have l1_ : w2.heap.size < w6.heap.size := HST6.out.lt 1 rfl
  go_wp2_with fail
  refine HO6.out.mono ?_
  rintro e w7 ⟨b7, A7, n7, c7, rfl, hs7, hz7, hb7⟩
  have HS7 := Lib.hid hs7
  have HZ7 := Lib.hid hz7
  clear hs7 hz7
  clear k0_0 k0_1 l0_ k1_0 k1_1 l1_
  obtain ⟨W7, hW7⟩ : ∃ W7, W7 = w7.alloc (.cells #[Value.int .i64 b7, Value.slice A7 n7 c7] 24) := ⟨_, rfl⟩
  have hsz7 := hb7.size
  have hszW7 : w7.heap.size + 1 ≤ W7.heap.size := by rw [hW7]; simp
  have HBW7 := Lib.hid (show Below w6.heap.size w6 W7 by rw [hW7]; exact below_next hb7 ((Below.refl _ w7).alloc (Nat.le_refl _) _))
  have HBX7 := Lib.hid (show Below w7.heap.size w7 W7 by rw [hW7]; exact (Below.refl _ w7).alloc (Nat.le_refl _) _)
  have HSTw7 := Lib.hid (HST6.out.call hb7)
  have k0_0 : w7.cell? ⟨w1.heap.size, 0, none⟩ = some (Value.int .i64 b1) := HSTw7.out.cell 0 0 rfl rfl
  have k0_1 : w7.cell? ⟨w1.heap.size, 1, none⟩ = some (Value.slice A1 n1 c1) := HSTw7.out.cell 0 1 rfl rfl
  have l0_ : w1.heap.size < w7.heap.size := HSTw7.out.lt 0 rfl
  have k1_0 : w7.cell? ⟨w2.heap.size, 0, none⟩ = some (Value.int .i64 b2) := HSTw7.out.cell 1 0 rfl rfl
  have k1_1 : w7.cell? ⟨w2.heap.size, 1, none⟩ = some (Value.slice A2 n2 c2) := HSTw7.out.cell 1 1 rfl rfl
  have l1_ : w2.heap.size < w7.heap.size := HSTw7.out.lt 1 rfl
  have HSTb7 := Lib.hid (show St w W7 [(w1.heap.size, Obj.cells #[Value.int .i64 b1, Value.slice A1 n1 c1] 24 (0, 0)), (w2.heap.size, Obj.cells #[Value.int .i64 b2, Value.slice A2 n2 c2] 24 (0, 0)), (w7.heap.size, Obj.cells #[Value.int .i64 b7, Value.slice A7 n7 c7] 24 (0, 0))] by rw [hW7]; exact HSTw7.out.alloc _ _ rfl)
  clear hb7
  by_cases h1 : codeE b na za p = 0
  · have h1' : (codeE b na za p == 0) = true := by simp [h1]
    have H1 := Lib.hid h1
    clear h1
    by_cases h2 : codeE b nb zb p = 0
    · have h2' : (codeE b nb zb p == 0) = true := by simp [h2]
      have H2 := Lib.hid h2
      clear h2
      by_cases h3 : codeE b (na + nb) (za ++ zb) p = 0
      · have h3' : (codeE b (na + nb) (za ++ zb) p == 0) = true := by simp [h3]
        have H3 := Lib.hid h3
        clear h3
        obtain ⟨cs1, hh1, e1, e2, hr1⟩ := HS1.out H1.out
        obtain ⟨cs2, hh2, e3, e4, hr2⟩ := HS2.out H2.out
        obtain ⟨cs7, hh7, e5, e6, hr7⟩ := HS7.out H3.out
        subst b1 n1 b2 n2 b7 n7
        obtain ⟨hg1, ht1⟩ := (fine_exp H1.out).good hh1
        obtain ⟨hg2, ht2⟩ := (fine_exp H2.out).good hh2
        obtain ⟨hg7, ht7⟩ := (fine_exp H3.out).good hh7
        have hlen1 := hg1.2.2.1
        have hlen2 := hg2.2.2.1
        have R1 := Lib.hid (show Rd W7 0 W7.heap.size 2 A1 cs1.length (cells2 cs1) from (((((hr1.more (Nat.zero_le _) (Nat.le_refl _)).old HBX1.out).old HBC.out).old HBW2.out).old HB26.out).old HBW7.out)
        have R2 := Lib.hid (show Rd W7 0 W7.heap.size 2 A2 cs2.length (cells2 cs2) from (((hr2.more (Nat.zero_le _) (Nat.le_refl _)).old HBX2.out).old HB26.out).old HBW7.out)
        have R7 := Lib.hid (show Rd W7 0 W7.heap.size 2 A7 cs7.length (cells2 cs7) from ((hr7.more (Nat.zero_le _) (Nat.le_refl _)).old HBX7.out))
        have hm := Merge_any b b A1 A2 c1 c2 cs1 cs2 W7 R1.out R2.out (by omega) (by omega)
        have e7 : sumAt id (cs1 ++ cs2) = cntB b (expAll (za ++ zb) p) := by rw [expAll_append]; exact hist_both hh1 hh2
        rw [codeG_good hg1 hg2 (by omega), e7] at hm
        have HM8 := Lib.hid (hm.mono (fun e w' h => h.form))
        have HH7 := Lib.hid hh7
        have G7 := Lib.hid hg7
        clear hh1 hh2 hh7 hr1 hr2 hr7 hg1 hg2 hg7 hm e7 HS1 HS2 HS7 HZ1 HZ2 HZ7 TA
        go_wp2_with fail
        rw [← hW7]
        clear hW7
        clear k0_0 k0_1 l0_ k1_0 k1_1 l1_
        refine HM8.out.mono ?_
        rintro e w8 ⟨b8, A8, n8, c8, rfl, hs8, hz8, hb8⟩
        have HS8 := Lib.hid hs8
        have HZ8 := Lib.hid hz8
        clear hs8 hz8
        obtain ⟨W8, hW8⟩ : ∃ W8, W8 = w8.alloc (.cells #[Value.int .i64 b8, Value.slice A8 n8 c8] 24) := ⟨_, rfl⟩
        have hsz8 := hb8.size
        have hszW8 : w8.heap.size + 1 ≤ W8.heap.size := by rw [hW8]; simp
        have HBW8 := Lib.hid (show Below W7.heap.size W7 W8 by rw [hW8]; exact below_next hb8 ((Below.refl _ w8).alloc (Nat.le_refl _) _))
        have HBX8 := Lib.hid (show Below w8.heap.size w8 W8 by rw [hW8]; exact (Below.refl _ w8).alloc (Nat.le_refl _) _)
        have HSTw8 := Lib.hid (HSTb7.out.call hb8)
        have k0_0 : w8.cell? ⟨w1.heap.size, 0, none⟩ = some (Value.int .i64 b) := HSTw8.out.cell 0 0 rfl rfl
        have k0_1 : w8.cell? ⟨w1.heap.size, 1, none⟩ = some (Value.slice A1 cs1.length c1) := HSTw8.out.cell 0 1 rfl rfl
        have l0_ : w1.heap.size < w8.heap.size := HSTw8.out.lt 0 rfl
        have k1_0 : w8.cell? ⟨w2.heap.size, 0, none⟩ = some (Value.int .i64 b) := HSTw8.out.cell 1 0 rfl rfl
        have k1_1 : w8.cell? ⟨w2.heap.size, 1, none⟩ = some (Value.slice A2 cs2.length c2) := HSTw8.out.cell 1 1 rfl rfl
        have l1_ : w2.heap.size < w8.heap.size := HSTw8.out.lt 1 rfl
        have k2_0 : w8.cell? ⟨w7.heap.size, 0, none⟩ = some (Value.int .i64 b) := HSTw8.out.cell 2 0 rfl rfl
        have k2_1 : w8.cell? ⟨w7.heap.size, 1, none⟩ = some (Value.slice A7 cs7.length c7) := HSTw8.out.cell 2 1 rfl rfl
        have l2_ : w7.heap.size < w8.heap.size := HSTw8.out.lt 2 rfl
        have HSTb8 := Lib.hid (show St w W8 [(w1.heap.size, Obj.cells #[Value.int .i64 b, Value.slice A1 cs1.length c1] 24 (0, 0)), (w2.heap.size, Obj.cells #[Value.int .i64 b, Value.slice A2 cs2.length c2] 24 (0, 0)), (w7.heap.size, Obj.cells #[Value.int .i64 b, Value.slice A7 cs7.length c7] 24 (0, 0)), (w8.heap.size, Obj.cells #[Value.int .i64 b8, Value.slice A8 n8 c8] 24 (0, 0))] by rw [hW8]; exact HSTw8.out.alloc _ _ rfl)
        clear hb8
        obtain ⟨cs8, hh8, e1, e2, hr8⟩ := HS8.out (by trivial)
        subst b8 n8
        obtain rfl := IsHist.uniq hh8 HH7.out
        have HT8 := Lib.hid (show Tab W8.heap.size W8 from (HT.out.on HSTb8.out.below).mono HSTb8.out.below.size)
        have i00 : I64 0 := by unfold I64; omega
        have TM := Lib.hid (show TellsAs (.agg #[.int .i64 b, .slice A8 cs8.length c8]) 0 (inkHist b cs8 ++ inkInt 0) W8 from tells_of HT8.out ⟨A8, c8, rfl, ((hr8.more (Nat.zero_le _) (Nat.le_refl _)).old HBX8.out)⟩ (I64_good G7.out) i00 (hist_tell G7.out).1 (hist_tell G7.out).2)
        have TZ := Lib.hid (show TellsAs (.agg #[.int .i64 b, .slice A7 cs8.length c7]) 0 (inkHist b cs8 ++ inkInt 0) W8 from tells_of HT8.out ⟨A7, c7, rfl, R7.out.old HBW8.out⟩ (I64_good G7.out) i00 (hist_tell G7.out).1 (hist_tell G7.out).2)
        have HCN := Lib.hid (fun W' => counts_any W')
        clear hh8 hr8 HS8 HZ8
        go_wp2
        rw [← hW8]
        clear hW8
        clear k0_0 k0_1 l0_ k1_0 k1_1 l1_ k2_0 k2_1 l2_
        have HKS := Lib.hid (show ∀ w', Below W8.heap.size W8 w' → w'.cell? ⟨w1.heap.size, 0, none⟩ = some (Value.int .i64 b) ∧ w'.cell? ⟨w1.heap.size, 1, none⟩ = some (Value.slice A1 cs1.length c1) ∧ w'.cell? ⟨w2.heap.size, 0, none⟩ = some (Value.int .i64 b) ∧ w'.cell? ⟨w2.heap.size, 1, none⟩ = some (Value.slice A2 cs2.length c2) ∧ w'.cell? ⟨w7.heap.size, 0, none⟩ = some (Value.int .i64 b) ∧ w'.cell? ⟨w7.heap.size, 1, none⟩ = some (Value.slice A7 cs8.length c7) ∧ w'.cell? ⟨w8.heap.size, 0, none⟩ = some (Value.int .i64 b) ∧ w'.cell? ⟨w8.heap.size, 1, none⟩ = some (Value.slice A8 cs8.length c8) ∧ Below W8.heap.size W8 w' from fun w' hb => ⟨(HSTb8.out.call hb).cell 0 0 rfl rfl, (HSTb8.out.call hb).cell 0 1 rfl rfl, (HSTb8.out.call hb).cell 1 0 rfl rfl, (HSTb8.out.call hb).cell 1 1 rfl rfl, (HSTb8.out.call hb).cell 2 0 rfl rfl, (HSTb8.out.call hb).cell 2 1 rfl rfl, (HSTb8.out.call hb).cell 3 0 rfl rfl, (HSTb8.out.call hb).cell 3 1 rfl rfl, hb⟩)
        have k0_0 : W8.cell? ⟨w1.heap.size, 0, none⟩ = some (Value.int .i64 b) := HSTb8.out.cell 0 0 rfl rfl
        have k0_1 : W8.cell? ⟨w1.heap.size, 1, none⟩ = some (Value.slice A1 cs1.length c1) := HSTb8.out.cell 0 1 rfl rfl
        have l0_ : w1.heap.size < W8.heap.size := HSTb8.out.lt 0 rfl
        have k1_0 : W8.cell? ⟨w2.heap.size, 0, none⟩ = some (Value.int .i64 b) := HSTb8.out.cell 1 0 rfl rfl
        have k1_1 : W8.cell? ⟨w2.heap.size, 1, none⟩ = some (Value.slice A2 cs2.length c2) := HSTb8.out.cell 1 1 rfl rfl
        have l1_ : w2.heap.size < W8.heap.size := HSTb8.out.lt 1 rfl
        have k2_0 : W8.cell? ⟨w7.heap.size, 0, none⟩ = some (Value.int .i64 b) := HSTb8.out.cell 2 0 rfl rfl
        have k2_1 : W8.cell? ⟨w7.heap.size, 1, none⟩ = some (Value.slice A7 cs8.length c7) := HSTb8.out.cell 2 1 rfl rfl
        have l2_ : w7.heap.size < W8.heap.size := HSTb8.out.lt 2 rfl
        have k3_0 : W8.cell? ⟨w8.heap.size, 0, none⟩ = some (Value.int .i64 b) := HSTb8.out.cell 3 0 rfl rfl
        have k3_1 : W8.cell? ⟨w8.heap.size, 1, none⟩ = some (Value.slice A8 cs8.length c8) := HSTb8.out.cell 3 1 rfl rfl
        have l3_ : w8.heap.size < W8.heap.size := HSTb8.out.lt 3 rfl
        go_region_held3 (fun w' => w'.cell? ⟨w1.heap.size, 0, none⟩ = some (Value.int .i64 b) ∧ w'.cell? ⟨w1.heap.size, 1, none⟩ = some (Value.slice A1 cs1.length c1) ∧ w'.cell? ⟨w2.heap.size, 0, none⟩ = some (Value.int .i64 b) ∧ w'.cell? ⟨w2.heap.size, 1, none⟩ = some (Value.slice A2 cs2.length c2) ∧ w'.cell? ⟨w7.heap.size, 0, none⟩ = some (Value.int .i64 b) ∧ w'.cell? ⟨w7.heap.size, 1, none⟩ = some (Value.slice A7 cs8.length c7) ∧ w'.cell? ⟨w8.heap.size, 0, none⟩ = some (Value.int .i64 b) ∧ w'.cell? ⟨w8.heap.size, 1, none⟩ = some (Value.slice A8 cs8.length c8) ∧ Below W8.heap.size W8 w')
          (first
            | exact HKS.out _ (Below.refl _ W8).drew
            | (go_split_ands; refine HKS.out _ (below_next ?_ hbK); assumption)
            | (go_split_ands; refine HKS.out _ (below_next ?_ hbT); assumption)
            | (go_split_ands; refine HKS.out _ (below_next ?_ hbR); assumption))
          (first
            | (go_at_call_of 13 (Value.agg #[.int .i64 b, .slice A8 cs8.length c8]); refine (TM.out _ ?_).mono ?_; (go_split_ands; assumption); rintro e wR ⟨rfl, hbR⟩)
            | (go_at_call_of 13 (Value.agg #[.int .i64 b, .slice A7 cs8.length c7]); refine (TZ.out _ ?_).mono ?_; (go_split_ands; assumption); rintro e wT ⟨rfl, hbT⟩)
            | (go_at_call 12; refine (HCN.out _).mono ?_; rintro e wK ⟨rfl, hbK⟩))
        have hbel31 : Below W8.heap.size W8 wK := by go_split_ands; assumption
        have HST31 := Lib.hid (HSTb8.out.call hbel31)
        have hsz31 := hbel31.size
        clear k0_0 k0_1 l0_ k1_0 k1_1 l1_ k2_0 k2_1 l2_ k3_0 k3_1 l3_
        have HBEL31 := Lib.hid hbel31
        clear hbel31
        have k0_0 : wK.cell? ⟨w1.heap.size, 0, none⟩ = some (Value.int .i64 b) := HST31.out.cell 0 0 rfl rfl
        have k0_1 : wK.cell? ⟨w1.heap.size, 1, none⟩ = some (Value.slice A1 cs1.length c1) := HST31.out.cell 0 1 rfl rfl
        have l0_ : w1.heap.size < wK.heap.size := HST31.out.lt 0 rfl
        have k1_0 : wK.cell? ⟨w2.heap.size, 0, none⟩ = some (Value.int .i64 b) := HST31.out.cell 1 0 rfl rfl
        have k1_1 : wK.cell? ⟨w2.heap.size, 1, none⟩ = some (Value.slice A2 cs2.length c2) := HST31.out.cell 1 1 rfl rfl
        have l1_ : w2.heap.size < wK.heap.size := HST31.out.lt 1 rfl
        have k2_0 : wK.cell? ⟨w7.heap.size, 0, none⟩ = some (Value.int .i64 b) := HST31.out.cell 2 0 rfl rfl
        have k2_1 : wK.cell? ⟨w7.heap.size, 1, none⟩ = some (Value.slice A7 cs8.length c7) := HST31.out.cell 2 1 rfl rfl
        have l2_ : w7.heap.size < wK.heap.size := HST31.out.lt 2 rfl
        have k3_0 : wK.cell? ⟨w8.heap.size, 0, none⟩ = some (Value.int .i64 b) := HST31.out.cell 3 0 rfl rfl
        have k3_1 : wK.cell? ⟨w8.heap.size, 1, none⟩ = some (Value.slice A8 cs8.length c8) := HST31.out.cell 3 1 rfl rfl
        have l3_ : w8.heap.size < wK.heap.size := HST31.out.lt 3 rfl
        clear hbR hbT hbK HKS
        go_wp2
        go_ret
        exact ⟨rfl, HST31.out.below⟩
      · have h3' : (codeE b (na + nb) (za ++ zb) p == 0) = false := by simp [h3]
        clear h3
        go_wp2_with (go_at_call 12; refine (counts_any _).mono ?_; rintro e wK ⟨rfl, hbK⟩)
        go_ret
        exact ⟨rfl, below_next (by rw [← hW7]; exact HSTb7.out.below) hbK⟩
    · have h2' : (codeE b nb zb p == 0) = false := by simp [h2]
      clear h2
      go_wp2_with (go_at_call 12; refine (counts_any _).mono ?_; rintro e wK ⟨rfl, hbK⟩)
      go_ret
      exact ⟨rfl, below_next (by rw [← hW7]; exact HSTb7.out.below) hbK⟩
  · have h1' : (codeE b na za p == 0) = false := by simp [h1]
    clear h1
    go_wp2_with (go_at_call 12; refine (counts_any _).mono ?_; rintro e wK ⟨rfl, hbK⟩)
    go_ret
    exact ⟨rfl, below_next (by rw [← hW7]; exact HSTb7.out.below) hbK⟩
end Go.Proofs.YtgmbgclhljobaaaDoor
