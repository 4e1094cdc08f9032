import Derived.Test.YtnpfdelklolchaaGreatDoorG29
import Derived.Test.YtnpfdelklolchaaGreatDoorG34
import Derived.Test.YtnpfdelklolchaaGreatDoorCus
import Derived.Test.YtnpfdelklolchaaGreatDoorG37
import Derived.Test.YtnpfdelklolchaaGreatDoorG31
import Derived.Test.YtnpfdelklolchaaGreatDoorG17
import Derived.Test.YtnpfdelklolchaaGreatDoorG11
import Derived.Test.YtnpfdelklolchaaGreatDoorNatDivK
import Derived.Test.YtnpfdelklolchaaGreatDoorG6
import Derived.Test.YtnpfdelklolchaaGreatDoorG35
/- JudgeChangesMatchSpec: the law's walk. -/
namespace Go.Proofs.YtnpfdelklolchaaGreatDoor
open Go Go.RowKit Go.Proofs

/-- the places that Changes returns -/
def chZ (l : List Int) (pen : Int) : List Int := if chC l pen = 0 then (chB l pen).2.map (fun n : Nat => (n : Int)) else []
def chR (l : List Int) (pen : Int) : List UInt8 × List UInt8 := if chC l pen = 0 then rtT (chQ l pen) else ([], [])
theorem chg_val {l : List Int} {pen : Int} {w w' : World} {e : Ending} (h : ChgPost l pen w e w') :
    ∃ B d, e = .returned (.tuple #[.slice B (chZ l pen).length d, ratOf (chR l pen), .int .i64 (chC l pen)]) ∧ Rd w' 0 w'.heap.size 1 B (chZ l pen).length (ints (chZ l pen)) ∧ Below w.heap.size w w' := by
  unfold chZ chR
  rcases h with ⟨h0, rfl, hb⟩ | ⟨h0, B, d, rfl, hr, hb⟩
  · rw [if_neg h0, if_neg h0]
    exact ⟨none, 0, rfl, ⟨rfl, fun h => absurd h (by simp)⟩, hb⟩
  · rw [if_pos h0, if_pos h0, h0]
    have e1 : ints ((chB l pen).2.map (fun n : Nat => (n : Int))) = nInts (chB l pen).2 := by simp [ints, nInts]
    rw [e1]
    exact ⟨B, d, by simp, by simpa using hr, hb⟩
theorem Val.lt : ∀ {i j : Nat} {r : List Nat}, Val i j r → ∀ k ∈ r, k < j
  | _, _, [], _, k, hk => by cases hk
  | i, j, q :: r, h, k, hk => by
    rcases List.mem_cons.1 hk with rfl | hk
    · exact h.2.1
    · exact Val.lt h.2.2 k hk
theorem chZ_ok (l : List Int) (pen : Int) : (chZ l pen).length ≤ 300 ∧ ∀ z ∈ chZ l pen, I64 z := by
  unfold chZ
  by_cases h : chC l pen = 0
  · rw [if_pos h]
    have h1 : 0 < l.length := by
      rcases Nat.eq_zero_or_pos l.length with h1 | h1
      · rw [chC_empty (by omega)] at h; cases h
      · exact h1
    have h2 : l.length ≤ 300 := by
      rcases Nat.lt_or_ge 300 l.length with h2 | h2
      · rw [chC_long h2] at h; cases h
      · exact h2
    have h3 := (chB_min (pen := pen) h1).1
    refine ⟨by rw [List.length_map]; exact best_len h2, fun z hz => ?_⟩
    obtain ⟨k, hk, rfl⟩ := List.mem_map.1 hz
    have := Val.lt h3 k hk
    exact ⟨by omega, by omega⟩
  · rw [if_neg h]
    exact ⟨by simp, fun z hz => by cases hz⟩
theorem cusV_shape (l : List Int) (t sl lim : Int) : ∃ i b e, cusV l t sl lim = .tuple #[.int .i64 i, .bool b, .int .i64 e] := by
  unfold cusV
  split
  · exact ⟨_, _, _, rfl⟩
  · split
    · split
      · cases cusF t sl lim 0 0 l with
        | none => exact ⟨_, _, _, rfl⟩
        | some i => exact ⟨_, _, _, rfl⟩
      · exact ⟨_, _, _, rfl⟩
    · exact ⟨_, _, _, rfl⟩
set_option maxHeartbeats 8000000 in
set_option maxRecDepth 100000 in
theorem lawChg_any (A : Option Addr) (c : Nat) (l : List Int) (pen t sl lim : Int) (w : World) (htab : Tab w.heap.size w) (hr : Rd w 0 w.heap.size 1 A l.length (ints l)) (hm : l.length ≤ 4000000000000000000)
    (hj : ∀ W, Below w.heap.size w W → Calls Tryz.prog 6 #[.slice A l.length c, .int .i64 pen] W (ChgPost l pen W)) (hrr : ∀ W, Below w.heap.size w W → Calls Tryz.prog 11 #[.slice A l.length c, .int .i64 pen] W (ChgPost l pen W)) :
    Calls Tryz.prog 4 #[.slice A l.length c, .int .i64 pen, .int .i64 t, .int .i64 sl, .int .i64 lim] w fun e w' => e = .returned (.bool true) ∧ Below w.heap.size w w' := by
  have HH := Lib.hid (fun W (hW : Below w.heap.size w W) => halves_any W ((htab.on hW).mono hW.size))
  have HTB := Lib.hid htab
  have HJ1 := Lib.hid (fun W (hW : Below w.heap.size w W) => (hj W hW).mono fun e w' h => chg_val h)
  have HR1 := Lib.hid (fun W (hW : Below w.heap.size w W) => (hrr W hW).mono fun e w' h => chg_val h)
  have HJ2 := Lib.hid (fun W (hW : Below w.heap.size w W) => jCusum_any A c l t sl lim W (hr.old hW) (by omega))
  have HR2 := Lib.hid (fun W (hW : Below w.heap.size w W) => r10Cusum_any A c l t sl lim W (hr.old hW) (by omega))
  obtain ⟨ci, cb, ce, hcv⟩ := cusV_shape l t sl lim
  rw [hcv] at HJ2 HR2
  obtain ⟨zs, hzs⟩ : ∃ z, z = chZ l pen := ⟨_, rfl⟩
  have HZ := Lib.hid (chZ_ok l pen)
  rw [← hzs] at HJ1 HR1 HZ
  obtain ⟨ec, hec⟩ : ∃ z, z = chC l pen := ⟨_, rfl⟩
  rw [← hec] at HJ1 HR1
  obtain ⟨S1, S2, hS⟩ : ∃ S1 S2 : ByteArray, ratOf (chR l pen) = .agg #[.string S1, .string S2] := ⟨_, _, rfl⟩
  rw [hS] at HJ1 HR1
  clear hcv hzs hec hS htab hr hm hj hrr
  go_enter Tryz.func4, Tryz.ntmps4
  go_wp2_with fail
  (with_reducible refine (HJ1.out _ (Below.refl _ _)).mono ?_)
  rintro e w1 ⟨B1, d1, rfl, hrd1, hb1⟩
  obtain ⟨W2, hW2⟩ : ∃ W2, W2 = w1.alloc (.cells #[.string S1, .string S2] 24) := ⟨_, rfl⟩
  have hb12 : Below w1.heap.size w1 W2 := by rw [hW2]; exact (Below.refl _ w1).alloc (Nat.le_refl _) _
  have HX2 := Lib.hid (show Txt2 W2 w1.heap.size S1 S2 by rw [hW2]; exact alloc_at _ _ _ rfl)
  have HB2 := Lib.hid (below_next hb1 hb12)
  have HP2 := Lib.hid ((hrd1.below hb12 (Nat.le_refl _)).more (Nat.le_refl _) hb12.size)
  clear hrd1 hb1 hb12
  go_wp2_with fail
  rw [← hW2]
  obtain ⟨k1, hk1⟩ : ∃ B, B = w1.heap.size := ⟨_, rfl⟩
  rw [← hk1] at HX2 ⊢
  clear hW2 hk1
  (with_reducible refine (HR1.out _ HB2.out).mono ?_)
  rintro e w3 ⟨B2, d2, rfl, hrd3, hb3⟩
  obtain ⟨W4, hW4⟩ : ∃ W4, W4 = w3.alloc (.cells #[.string S1, .string S2] 24) := ⟨_, rfl⟩
  have hb34 : Below w3.heap.size w3 W4 := by rw [hW4]; exact (Below.refl _ w3).alloc (Nat.le_refl _) _
  have HX4 := Lib.hid (HX2.out.on (below_next hb3 hb34))
  have HY4 := Lib.hid (show Txt2 W4 w3.heap.size S1 S2 by rw [hW4]; exact alloc_at _ _ _ rfl)
  have HB4 := Lib.hid (below_next HB2.out (below_next hb3 hb34))
  have HP4 := Lib.hid ((HP2.out.below (below_next hb3 hb34) (Nat.le_refl _)).more (Nat.le_refl _) (below_next hb3 hb34).size)
  have HQ4 := Lib.hid ((hrd3.below hb34 (Nat.le_refl _)).more (Nat.le_refl _) hb34.size)
  have hs4 : W4.heap.size = w3.heap.size + 1 := by rw [hW4]; simp
  clear hrd3 hb3 hb34
  go_wp2_with fail
  obtain ⟨W6, hW6⟩ : ∃ W, W = (W4.alloc (.cells #[.slice none 0 0] 40)).alloc (.cells #[.slice none 0 0] 40) := ⟨_, rfl⟩
  have hb46 : Below W4.heap.size W4 W6 := by rw [hW6]; exact two_on _ _
  have hs6 : W6.heap.size = w3.heap.size + 1 + 1 + 1 := by rw [hW6]; simp [hs4]
  have hk1 : W6.heap[w3.heap.size + 1]? = some (.cells #[.slice none 0 0] 40 (0, 0)) := by
    rw [hW6, Below.heap_alloc _ _ _ (by simp [hs4]), ← hs4]
    exact alloc_at _ _ _ rfl
  have hk2 : W6.heap[w3.heap.size + 1 + 1]? = some (.cells #[.slice none 0 0] 40 (0, 0)) := by
    have e : w3.heap.size + 1 + 1 = (W4.alloc (.cells #[.slice none 0 0] 40)).heap.size := by simp [hs4]
    rw [hW6, e]
    exact alloc_at _ _ _ rfl
  have hb6 := below_next HB4.out hb46
  have hw3 : w.heap.size ≤ w3.heap.size + 1 := by have := HB4.out.size; omega
  have hi6 : InkAt W6 (w3.heap.size + 1) (w3.heap.size + 1 + 1 + 1) [] := ⟨by omega, by omega, (HTB.out.on hb6).mono hw3, _, hk1, ⟨by simp [Lib.byteCells], .inl ⟨rfl, rfl⟩⟩⟩
  have hp6 := HP4.out.below hb46 (Nat.le_refl _)
  have hq6 := HQ4.out.below hb46 (Nat.le_refl _)
  rw [hs4] at hp6 hq6
  have hlen := inkIs_length zs HZ.out.2
  have l2 := inkInt_length (zs.length : Int) (by omega) (by have := HZ.out.1; omega)
  have hlt : (inkInts zs).length < 100000000000 := by have := HZ.out.1; simp only [inkInts, List.length_append]; omega
  have HLT := Lib.hid hlt
  have HX6 := Lib.hid (HX4.out.on hb46)
  have HY6 := Lib.hid (HY4.out.on hb46)
  have HXL := Lib.hid (show k1 < w3.heap.size + 1 by have := heap_lt HX4.out; omega)
  have HK2 := Lib.hid hk2
  have HQ6 := Lib.hid hq6
  have HB6 := Lib.hid hb6
  have HS6 := Lib.hid hs6
  have HW3 := Lib.hid hw3
  have HN1 := Lib.hid (inkInts_any (w3.heap.size + 1) (w3.heap.size + 1 + 1 + 1) [] B1 d1 zs W6 hi6 (by simp) HZ.out.2 (by have := HZ.out.1; omega) hp6)
  rw [hW4] at hW6
  rw [← hW6]
  clear hW4 hW6 hb46 hk1 hk2 hb6 hw3 hi6 hp6 hq6 hlen l2 hlt hs6 hs4
  obtain ⟨n3, hn3⟩ : ∃ n, n = w3.heap.size := ⟨_, rfl⟩
  rw [← hn3] at HY6 HXL HK2 HQ6 HS6 HW3 HN1 ⊢
  clear hn3
  (with_reducible refine (HN1.out).mono ?_)
  rintro e w7 ⟨rfl, hi7, hf7⟩
  rw [List.nil_append] at hi7
  have hb7 : Below (n3 + 1) W6 w7 := Fr.below hf7 (by have := HS6.out; omega) (fun i hi hm => by rcases hm with h | h <;> omega)
  have hs7 := hf7.size
  have hk7 : w7.heap[n3 + 1 + 1]? = _ := (hf7.block (n3 + 1 + 1) (by have := HS6.out; omega) (fun hm => by rcases hm with h | h <;> omega)).trans HK2.out
  have hi2 : InkAt w7 (n3 + 1 + 1) w7.heap.size [] := ⟨heap_lt hk7, Nat.le_refl _, (HTB.out.on (HB6.out.trans (Fr.below hf7 HB6.out.size (fun i hi hm => by have := HW3.out; rcases hm with h | h <;> omega)))).mono (by have := HW3.out; omega), _, hk7, ⟨by simp [Lib.byteCells], .inl ⟨rfl, rfl⟩⟩⟩
  have HN2 := Lib.hid (inkInts_any (n3 + 1 + 1) w7.heap.size [] B2 d2 zs w7 hi2 (by simp) HZ.out.2 (by have := HZ.out.1; omega) ((HQ6.out.below hb7 (Nat.le_refl _)).more (Nat.le_refl _) (by omega)))
  have HI7 := Lib.hid hi7
  have HX7 := Lib.hid (show Txt2 w7 k1 S1 S2 from (hb7.block k1 HXL.out).trans HX6.out)
  have HY7 := Lib.hid (show Txt2 w7 n3 S1 S2 from (hb7.block n3 (by omega)).trans HY6.out)
  have HB7 := Lib.hid (show Below w.heap.size w w7 from HB6.out.trans (Fr.below hf7 HB6.out.size (fun i hi hm => by have := HW3.out; rcases hm with h | h <;> omega)))
  have HS7 := Lib.hid (show n3 + 1 + 1 + 1 ≤ w7.heap.size by have := HS6.out; omega)
  clear hi7 hf7 hb7 hs7 hk7 hi2
  go_wp2_with fail
  (with_reducible refine (HN2.out).mono ?_)
  rintro e w8 ⟨rfl, hi8, hf8⟩
  rw [List.nil_append] at hi8
  have hb8 : Below (n3 + 1) w7 w8 := Fr.below hf8 (by have := HS7.out; omega) (fun i hi hm => by have := HS7.out; rcases hm with h | h <;> omega)
  have HI8 := Lib.hid (HI7.out.fr hf8 (fun i hi hm => by have := HS7.out; rcases hm with h | h <;> omega) (fun i hi h2 hm => by rcases hm with h | h <;> omega))
  have HJ8 := Lib.hid hi8
  have HB8 := Lib.hid (show Below w.heap.size w w8 from HB7.out.trans (Fr.below hf8 HB7.out.size (fun i hi hm => by have := HW3.out; have := HB7.out.size; rcases hm with h | h <;> omega)))
  have HT1 := Lib.hid (told_any0 _ _ _ _ HI8.out HLT.out)
  have HT2 := Lib.hid (told_any0 _ _ _ _ HJ8.out HLT.out)
  obtain ⟨x0, x1, -⟩ := Txt2.facts (show Txt2 w8 k1 S1 S2 from (hb8.block k1 HXL.out).trans HX7.out)
  obtain ⟨y0, y1, -⟩ := Txt2.facts (show Txt2 w8 n3 S1 S2 from (hb8.block n3 (by omega)).trans HY7.out)
  obtain ⟨bs, hbs⟩ : ∃ b : ByteArray, b = ⟨(inkInts zs).toArray⟩ := ⟨_, rfl⟩
  rw [← hbs] at HT1 HT2
  clear hi8 hf8 hb8 hbs
  go_wp2_with fail
  (with_reducible refine (HT1.out).mono ?_)
  rintro e w9 ⟨rfl, rfl⟩
  go_wp2_with fail
  (with_reducible refine (HT2.out).mono ?_)
  rintro e w9 ⟨rfl, rfl⟩
  have HSM := Lib.hid (same_any S1 S2 ec w8)
  go_wp2_with fail
  (with_reducible refine (HSM.out).mono ?_)
  rintro e w9 ⟨rfl, hb9⟩
  have HB9 := Lib.hid (below_next HB8.out hb9)
  clear hb9 x0 x1 y0 y1
  go_wp2_with fail
  (with_reducible refine (HJ2.out _ HB9.out).mono ?_)
  rintro e w10 ⟨rfl, hb10⟩
  have HB10 := Lib.hid (below_next HB9.out hb10)
  clear hb10
  go_wp2_with fail
  (with_reducible refine (HR2.out _ HB10.out).mono ?_)
  rintro e w11 ⟨rfl, hb11⟩
  have HB11 := Lib.hid (below_next HB10.out hb11)
  clear hb11
  go_wp2_with fail
  (with_reducible refine (HH.out _ HB11.out).mono ?_)
  rintro e w12 ⟨rfl, hb12⟩
  have HB12 := Lib.hid (below_next HB11.out hb12)
  clear hb12
  go_wp2
  go_ret
  exact ⟨by rfl, HB12.out⟩
end Go.Proofs.YtnpfdelklolchaaGreatDoor

/- Package judge: common (the least number that all numbers up to n divide). -/
namespace Go.Proofs.YtnpfdelklolchaaGreatDoor
open Go Go.RowKit Go.Proofs

set_option maxHeartbeats 8000000 in
set_option maxRecDepth 100000 in
theorem jCommon_any (n : Nat) (w : World) (hn : n ≤ 300) : Calls Tryz.prog 24 #[.int .i64 (n : Int)] w (NatPost (cmn n) w) := by
  have HSM := Lib.hid (fun W A c l x (h : NatR W A c l x) (hx : x < W64 ^ 7) => (show (l : List Nat).length ≤ 7 from h.len hx))
  have HC := Lib.hid (fun k (hk : k ≤ 300) => (show cmn k < W64 ^ 7 from (cmn_small hk).1))
  go_enter Tryz.func24, Tryz.ntmps24
  go_wp2_with fail
  (with_reducible refine (natOf_any 1 w (by omega)).mono ?_)
  rintro e w1 ⟨A1, c1, l1, rfl, h1, hb1⟩
  go_wp2
  go_loopw [3, 4] (fun ov kv wr => ∃ (k : Nat) (A : Option Addr) (c : Nat) (l : List Nat), kv = .int .i64 (k : Int) ∧ 2 ≤ k ∧ k ≤ n + 2 ∧ (k ≤ n + 1 ∨ k = 2) ∧ ov = .slice A l.length c ∧ NatR wr A c l (cmn (k - 1)) ∧ Below w.heap.size w wr) (fun _ kv _ => n + 1 - (intOf kv).toNat)
  case atStart => exact ⟨2, A1, c1, l1, rfl, by omega, by omega, .inr rfl, rfl, h1, hb1⟩
  case round =>
    obtain ⟨k, A, c, l, rfl, hk1, hk2, hk3, rfl, ho, hb⟩ := hrel
    by_cases hlt : k ≤ n
    · have HB := Lib.hid hb
      have HO := Lib.hid ho
      have HLO := Lib.hid (HSM.out _ _ _ _ _ ho (HC.out _ (by omega)))
      have HNX := Lib.hid (cmn_next (k := k) (by omega))
      have HG0 := Lib.hid (cmn_gcd (k := k))
      have HGK := Lib.hid (show Nat.gcd (cmn (k - 1)) k ≤ k from Nat.gcd_le_right _ (by omega))
      have HKW := Lib.hid (show ∀ x, x ≤ k → x < W64 ^ 7 from fun x hx => Nat.lt_of_le_of_lt hx (by unfold W64; omega))
      obtain ⟨C, hC⟩ : ∃ C, C = cmn (k - 1) := ⟨_, rfl⟩
      rw [← hC] at HO HNX HG0 HGK
      obtain ⟨G, hG⟩ : ∃ G, G = Nat.gcd C k := ⟨_, rfl⟩
      rw [← hG] at HNX HG0 HGK
      have HGE := Lib.hid hG
      clear hG hC ho hb
      go_wp2_with fail
      (with_reducible refine (natOf_any (k : Int) wr (by omega)).mono ?_)
      rintro e w2 ⟨A2, c2, l2, rfl, h2, hb2⟩
      rw [Int.toNat_natCast] at h2
      have HL2 := Lib.hid (HSM.out _ _ _ _ _ h2 (HKW.out _ (Nat.le_refl _)))
      have HGC := Lib.hid (natGcd_any A A2 c c2 l l2 C k w2 (HO.out.on hb2) h2 (by have := HLO.out; omega) (by have := HL2.out; omega))
      rw [← HGE.out] at HGC
      have HB2 := Lib.hid (below_next HB.out hb2)
      have HO2 := Lib.hid (HO.out.on hb2)
      clear h2 hb2 HO HB
      go_wp2_with fail
      (with_reducible refine (HGC.out).mono ?_)
      rintro e w3 ⟨A3, c3, l3, rfl, h3, hb3⟩
      have HL3 := Lib.hid (HSM.out _ _ _ _ _ h3 (HKW.out _ HGK.out))
      have HB3 := Lib.hid (below_next HB2.out hb3)
      have HO3 := Lib.hid (HO2.out.on hb3)
      have H3 := Lib.hid h3
      clear h3 hb3 HO2 HB2 HGC
      go_wp2_with fail
      (with_reducible refine (natOf_any (k : Int) w3 (by omega)).mono ?_)
      rintro e w4 ⟨A4, c4, l4, rfl, h4, hb4⟩
      rw [Int.toNat_natCast] at h4
      have HL4 := Lib.hid (HSM.out _ _ _ _ _ h4 (HKW.out _ (Nat.le_refl _)))
      have HDM := Lib.hid (natDivMod_any A4 A3 c4 c3 l4 l3 k G w4 h4 (H3.out.on hb4) (by have := HL4.out; omega) (by have := HL3.out; omega) HG0.out)
      have HB4 := Lib.hid (below_next HB3.out hb4)
      have HO4 := Lib.hid (HO3.out.on hb4)
      clear h4 hb4 HO3 HB3 H3
      go_wp2_with fail
      (with_reducible refine (HDM.out).mono ?_)
      rintro e w5 ⟨A5, c5, l5, A6, c6, l6, rfl, h5, -, hb5⟩
      have HL5 := Lib.hid (HSM.out _ _ _ _ _ h5 (HKW.out _ (Nat.div_le_self _ _)))
      have HMU := Lib.hid (natMul_any A A5 c c5 l l5 C (k / G) w5 (HO4.out.on hb5) h5 (by have := HLO.out; omega) (by have := HL5.out; omega))
      rw [HNX.out] at HMU
      have HB5 := Lib.hid (below_next HB4.out hb5)
      clear h5 hb5 HO4 HB4 HDM
      go_wp2_with fail
      (with_reducible refine (HMU.out).mono ?_)
      rintro e w6 ⟨A7, c7, l7, rfl, h7, hb7⟩
      have H7 := Lib.hid h7
      have HB7 := Lib.hid (below_next HB5.out hb7)
      clear h7 hb7 HB5 HMU
      go_wp2
      go_roundw
      case rel => exact ⟨k + 1, A7, c7, l7, by go_num, by omega, by omega, .inl (by omega), rfl, by rw [Nat.add_sub_cancel]; exact H7.out, HB7.out⟩
      case measure => simp [intOf]; omega
    · have HE := Lib.hid (show cmn (k - 1) = cmn n by
        rcases hk3 with h | h
        · rw [show k - 1 = n by omega]
        · subst h
          have : n = 0 ∨ n = 1 := by omega
          rcases this with rfl | rfl <;> decide)
      have HO := Lib.hid ho
      have HB := Lib.hid hb
      clear ho hb
      go_wp2
      go_ret
      exact ⟨A, c, l, rfl, by rw [← HE.out]; exact HO.out, HB.out⟩
end Go.Proofs.YtnpfdelklolchaaGreatDoor

/- One operation of a drawn region, where it comes up: what it does as a closed fact for the kernel. No program in sight. -/
namespace Go.Proofs.YtnpfdelklolchaaGreatDoor
open Go Go.RowKit

section
variable {P : Program} {Q : Exit → Act → World → Prop}
/-- a call, by its contract -/
theorem wp_call {o : Oper} {a : Act} {w : World} {K : Act → World → Prop} {f : FuncId} {args : Array Value} {R : Ending → World → Prop} (hc : Calls P f args w R) (hrun : (execOp a.eval o).run P w = .ok (.enter f args) w)
    (h : ∀ e w', R e w' → ∃ v, e = .returned v ∧ K (a.put o.dst v) w') : o.wp P a w K Q := by
  unfold Oper.wp
  rw [hrun, Oper.upon_enter]
  refine hc.mono fun e w' hh => ?_
  obtain ⟨v, rfl, hk⟩ := h e w' hh
  exact hk
/-- an operation that yields a value -/
theorem wp_val {o : Oper} {a : Act} {w w' : World} {K : Act → World → Prop} {v : Value} (hrun : (execOp a.eval o).run P w = .ok (.value v) w') (h : K (a.put o.dst v) w') : o.wp P a w K Q := by
  unfold Oper.wp
  rw [hrun, Oper.upon_value]
  exact h
end
end Go.Proofs.YtnpfdelklolchaaGreatDoor

/- slices.Clip at integers. -/
namespace Go.Proofs.YtnpfdelklolchaaGreatDoor
open Go Go.RowKit Go.Proofs

set_option maxHeartbeats 1000000 in
set_option maxRecDepth 100000 in
theorem clipInts_any (A : Option Addr) (n c : Nat) (w : World) (hnc : n ≤ c) :
    Calls Tryz.prog 35 #[.slice A n c] w fun e w' => e = .returned (.slice A n n) ∧ w = w' := by
  go_enter Tryz.func35, Tryz.ntmps35
  go_wp2
  go_ret
  exact ⟨rfl, by trivial⟩
end Go.Proofs.YtnpfdelklolchaaGreatDoor
