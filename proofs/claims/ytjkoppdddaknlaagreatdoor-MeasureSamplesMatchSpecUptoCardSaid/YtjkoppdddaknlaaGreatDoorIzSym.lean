/- slices.symMergeCmpFunc at numbers. Printed by gen_stsym.py. -/
import Derived.Test.YtjkoppdddaknlaaGreatDoorG8
import Derived.Deep.DeepCutAuto
namespace Go.Proofs.YtjkoppdddaknlaaGreatDoor
open Go Go.RowKit Go.Proofs

/-- what follows behind rotate: the two merges (a part of its own: the kernel's memory) -/
noncomputable def izTail : Code := match Tryz.f68.body with
  | some (.seq _ (.seq _ (.seq _ (.seq _ (.seq _ (.seq _ (.seq _ (.seq _ (.seq _ (.seq _ t)))))))))) => t
  | _ => .skip
theorem at_K {P : Program} {code : Code} {Q : Exit → Act → World → Prop} {K : Act → World → Prop} {a : Act} {w : World} (hK : ∀ (a : Act) (w : World), Code.wp P code Q a w → K a w) (h : Code.wp P code Q a w) : K a w := hK a w h
set_option maxHeartbeats 8000000 in
set_option maxRecDepth 100000 in
theorem izTail_any (dt : Nat → Int) (nS : Nat) (cap : Value) (g c a m b mid s e : Nat) (l l1 : List Nat) (w w1 : World) (hb : b ≤ l.length) (hma : a < mid) (hmb2 : mid < b) (d1 : a ≤ s) (hse1 : s ≤ mid) (hse2 : mid ≤ e) (d4 : e ≤ b) (hn1 : l1.length = l.length) (hrow1 : RowC dt nS cap w1 g l1) (hfr1 : Fr (fun q => q = g) w w1) (hp1 : PrmI dt nS l l1 a b)
    (hrt : SrtOn (ltW dt) l1 a s ∧ SrtOn (ltW dt) l1 s mid ∧ SrtOn (ltW dt) l1 mid e ∧ SrtOn (ltW dt) l1 e b ∧ Crs (ltW dt) l1 a mid b) (hok1 : OkI dt nS l1)
    (IH : ∀ (a' m' b' : Nat) (l2 : List Nat) (w2 : World), b' - a' < b - a → l2.length = l.length → RowC dt nS cap w2 g l2 → a' < m' → m' < b' → b' ≤ l2.length → OkI dt nS l2 → SrtOn (ltW dt) l2 a' m' → SrtOn (ltW dt) l2 m' b' →
      Calls Tryz.prog 68 #[.slice (some ⟨g, 0, none⟩) l.length c, .int .i64 (a' : Int), .int .i64 (m' : Int), .int .i64 (b' : Int), .func (.func 34) #[] #[cap]] w2 fun e w' => e = .returned (.tuple #[]) ∧ ∃ l', RowC dt nS cap w' g l' ∧ PrmI dt nS l2 l' a' b' ∧ SrtOn (ltW dt) l' a' b' ∧ Fr (fun q => q = g) w2 w')
    (u23 u25 u26 u27 u28 u29 u30 u31 u32 u33 u34 u35 u36 u37 u38 u39 u40 u41 u42 u43 u44 u45 u46 u47 u48 u49 u50 u51 u52 u53 u54 u55 u56 u57 u58 u59 u60 u61 u62 u63 u64 u65 u66 u67 u68 u69 u70 u71 u72 u73 u74 u75 u76 u77 u78 u79 u80 u81 u82 u83 u84 u85 u86 u87 u88 u89 u90 u91 u92 u93 u94 u95 u96 u97 u98 u99 u100 u101 u102 u103 u104 u105 u106 u107 u108 u109 u110 u111 u112 u113 u114 u115 u116 u117 u118 u119 u120 u121 u122 u123 u124 u125 u126 u127 u128 u129 u130 u131 u132 u133 u134 u135 u136 u137 u138 u139 u140 u141 u142 u143 u144 u145 u146 u147 u148 u149 u150 u151 u152 u153 u154 u155 u156 u157 u158 u159 u160 u161 u162 u163 u164 u165 u166 u167 u168 u169 u170 u171 u172 u173 u174 u175 u176 u177 u178 u179 u180 u181 u182 u183 u184 u185 u186 u187 u188 u189 u190 u191 u192 u193 u194 u195 u196 u197 u198 u199 u200 u201 u202 u203 u204 u205 u206 u207 u208 u209 u210 u211 u212 u213 u214 u215 u216 u217 u218 u219 : Value) :
    Code.wp Tryz.prog izTail (bodyPost Tryz.prog Tryz.f68 fun e w' => e = .returned (.tuple #[]) ∧ ∃ l', RowC dt nS cap w' g l' ∧ PrmI dt nS l l' a b ∧ SrtOn (ltW dt) l' a b ∧ Fr (fun q => q = g) w w') { tmps := #[Value.slice (some ⟨g, 0, none⟩) l.length c, .int .i64 (a : Int), .int .i64 (m : Int), .int .i64 (b : Int), .func (.func 34) #[] #[cap], undef, undef, undef, undef, undef, undef, undef, undef, undef, undef, undef, undef, undef, .int .i64 (mid : Int), .int .i64 ((mid : Int) + (m : Int)), .int .i64 (s : Int), .int .i64 (s : Int), .int .i64 ((mid : Int) + (m : Int) - 1), u23, .int .i64 (e : Int), u25, u26, u27, u28, u29, u30, u31, u32, u33, u34, u35, u36, u37, u38, u39, u40, u41, u42, u43, u44, u45, u46, u47, u48, u49, u50, u51, u52, u53, u54, u55, u56, u57, u58, u59, u60, u61, u62, u63, u64, u65, u66, u67, u68, u69, u70, u71, u72, u73, u74, u75, u76, u77, u78, u79, u80, u81, u82, u83, u84, u85, u86, u87, u88, u89, u90, u91, u92, u93, u94, u95, u96, u97, u98, u99, u100, u101, u102, u103, u104, u105, u106, u107, u108, u109, u110, u111, u112, u113, u114, u115, u116, u117, u118, u119, u120, u121, u122, u123, u124, u125, u126, u127, u128, u129, u130, u131, u132, u133, u134, u135, u136, u137, u138, u139, u140, u141, u142, u143, u144, u145, u146, u147, u148, u149, u150, u151, u152, u153, u154, u155, u156, u157, u158, u159, u160, u161, u162, u163, u164, u165, u166, u167, u168, u169, u170, u171, u172, u173, u174, u175, u176, u177, u178, u179, u180, u181, u182, u183, u184, u185, u186, u187, u188, u189, u190, u191, u192, u193, u194, u195, u196, u197, u198, u199, u200, u201, u202, u203, u204, u205, u206, u207, u208, u209, u210, u211, u212, u213, u214, u215, u216, u217, u218, u219], defers := [] } w1 := by
  generalize hQ : bodyPost Tryz.prog Tryz.f68 _ = Q
  unfold izTail
  dsimp only [Tryz.f68]
  subst hQ
  have HR1 := Lib.hid hrow1
  have HF1 := Lib.hid hfr1
  have HP1 := Lib.hid hp1
  have HRT := Lib.hid hrt
  have HOK1 := Lib.hid hok1
  have HIH := Lib.hid IH
  clear hrow1 hfr1 hp1 hrt hok1 IH
  go_upto_region 41 with fail
  go_cut [24, 199] (fun ev bv wc => ev = .int .i64 (e : Int) ∧ bv = .bool (decide (a < s ∧ s < mid)) ∧ w1 = wc)
  case first =>
    by_cases hrr : a < s ∧ s < mid
    · have q1z : (a : Int) < (s : Int) := by omega
      have q2z : (s : Int) < (mid : Int) := by omega
      have q1 := hrr.1
      have q2 := hrr.2
      go_wp2
      go_meet
      exact ⟨rfl, by rw [decide_eq_true hrr], rfl⟩
    · by_cases q1 : a < s
      · have q1z : (a : Int) < (s : Int) := by omega
        have q2 : ¬ s < mid := fun h => hrr ⟨q1, h⟩
        have q2z : ¬ (s : Int) < (mid : Int) := by omega
        go_wp2
        go_meet
        exact ⟨rfl, by rw [decide_eq_false hrr], rfl⟩
      · have q1z : ¬ (a : Int) < (s : Int) := by omega
        go_wp2
        go_meet
        exact ⟨rfl, by rw [decide_eq_false hrr], rfl⟩
  case rest =>
    obtain ⟨rfl, rfl, rfl⟩ := hcut
    go_upto_if 199 with fail
    go_cut [24] (fun ev wc => ev = .int .i64 (e : Int) ∧ ∃ l2, RowC dt nS cap wc g l2 ∧ PrmI dt nS l1 l2 a mid ∧ SrtOn (ltW dt) l2 a mid ∧ Fr (fun q => q = g) w wc)
    case first =>
      obtain ⟨t1, t2, t3, t4, t5⟩ := HRT.out
      by_cases hrr : a < s ∧ s < mid
      · rw [decide_eq_true hrr]
        obtain ⟨q1, q2⟩ := hrr
        have q1z : (a : Int) < (s : Int) := by omega
        have q2z : (s : Int) < (mid : Int) := by omega
        have HRO := Lib.hid (HIH.out a s mid l1 w1 (by omega) hn1 HR1.out q1 q2 (by omega) HOK1.out t1 t2)
        clear t1 t2 t3 t4 t5
        go_wp2_with fail
        (with_reducible refine (HRO.out).mono ?_)
        rintro e' w2 ⟨rfl, l2, hr2, hp2, hs2', hf2⟩
        have HR2 := Lib.hid hr2
        have HP2 := Lib.hid hp2
        have HS2 := Lib.hid hs2'
        have HF2 := Lib.hid (HF1.out.trans hf2 (fun _ _ h => h))
        clear hr2 hf2 hp2 hs2'
        go_wp2
        go_meet
        exact ⟨rfl, l2, HR2.out, HP2.out, HS2.out, HF2.out⟩
      · have hst : SrtOn (ltW dt) l1 a mid := by
          rcases Nat.lt_or_ge a s with q1 | q1
          · obtain rfl : s = mid := by omega
            exact t1
          · obtain rfl : s = a := by omega
            exact t2
        have HST := Lib.hid hst
        clear t1 t2 t3 t4 t5 hst
        rw [decide_eq_false hrr]
        go_wp2
        go_meet
        exact ⟨rfl, l1, HR1.out, PrmI.refl _ _ _, HST.out, HF1.out⟩
    case rest =>
      obtain ⟨rfl, l2, hrow2, hp2, hst2, hfr2⟩ := hcut
      obtain ⟨w2, rfl⟩ : ∃ W : World, W = wc := ⟨_, rfl⟩
      obtain ⟨t1, t2, t3, t4, t5⟩ := HRT.out
      have hn2 := hp2.len
      have u3 : SrtOn (ltW dt) l2 mid e := t3.eq (fun k k1 k2 => hp2.out k (.inr k1))
      have u4 : SrtOn (ltW dt) l2 e b := t4.eq (fun k k1 k2 => hp2.out k (.inr (by omega)))
      have HOK2 := Lib.hid (HOK1.out.perm (hp2.all (by omega)))
      have HFIN := Lib.hid (fun l3 (hp3 : PrmI dt nS l2 l3 mid b) (hs3' : SrtOn (ltW dt) l3 mid b) => izDone (d := dt) (N := nS) (l := l) (l1 := l1) (l2 := l2) (l3 := l3) (a := a) (mid := mid) (b := b) hb (by omega) (by omega) HP1.out t5 hp2 hst2 hp3 hs3')
      have HR2 := Lib.hid hrow2
      have HF2 := Lib.hid hfr2
      clear hrow2 hfr2 t1 t2 t3 t4 t5 hp2 hst2
      by_cases hrr : mid < e ∧ e < b
      · obtain ⟨q1, q2⟩ := hrr
        have q1z : (mid : Int) < (e : Int) := by omega
        have q2z : (e : Int) < (b : Int) := by omega
        have HRO := Lib.hid (HIH.out mid e b l2 w2 (by omega) (by omega) HR2.out q1 q2 (by omega) HOK2.out u3 u4)
        clear u3 u4
        go_wp2_with fail
        (with_reducible refine (HRO.out).mono ?_)
        rintro e' w3 ⟨rfl, l3, hr3, hp3, hs3', hf3⟩
        obtain ⟨hpp, hss⟩ := HFIN.out l3 hp3 hs3'
        have HR3 := Lib.hid hr3
        have HPP := Lib.hid hpp
        have HSS := Lib.hid hss
        have HF3 := Lib.hid (HF2.out.trans hf3 (fun _ _ h => h))
        clear hr3 hf3 hp3 hs3' hpp hss
        go_wp2
        go_end0
        exact ⟨rfl, l3, HR3.out, HPP.out, HSS.out, HF3.out⟩
      · have hst : SrtOn (ltW dt) l2 mid b := by
          rcases Nat.lt_or_ge mid e with q1 | q1
          · obtain rfl : e = b := by omega
            exact u3
          · have q3 : e = mid := by omega
            rw [← q3]; exact u4
        obtain ⟨hpp, hss⟩ := HFIN.out l2 (PrmI.refl _ _ _) hst
        have HPP := Lib.hid hpp
        have HSS := Lib.hid hss
        clear u3 u4 hst hpp hss
        by_cases q1 : mid < e
        · have q1z : (mid : Int) < (e : Int) := by omega
          have q2 : ¬ e < b := fun h => hrr ⟨q1, h⟩
          have q2z : ¬ (e : Int) < (b : Int) := by omega
          go_wp2
          go_end0
          exact ⟨rfl, l2, HR2.out, HPP.out, HSS.out, HF2.out⟩
        · have q1z : ¬ (mid : Int) < (e : Int) := by omega
          go_wp2
          go_end0
          exact ⟨rfl, l2, HR2.out, HPP.out, HSS.out, HF2.out⟩
set_option maxHeartbeats 8000000 in
set_option maxRecDepth 100000 in
theorem izSymG_any (dt : Nat → Int) (nS : Nat) (cap : Value) (g c a m b : Nat) (l : List Nat) (w : World) (h : RowC dt nS cap w g l) (ham : a < m) (hmb : m < b) (ham1 : m ≠ a + 1) (hmb1 : b ≠ m + 1) (hb : b ≤ l.length) (hl : l.length ≤ 1000000) (hok : OkI dt nS l) (hsa : SrtOn (ltW dt) l a m) (hsb : SrtOn (ltW dt) l m b)
    (IH : ∀ (a' m' b' : Nat) (l2 : List Nat) (w2 : World), b' - a' < b - a → l2.length = l.length → RowC dt nS cap w2 g l2 → a' < m' → m' < b' → b' ≤ l2.length → OkI dt nS l2 → SrtOn (ltW dt) l2 a' m' → SrtOn (ltW dt) l2 m' b' →
      Calls Tryz.prog 68 #[.slice (some ⟨g, 0, none⟩) l.length c, .int .i64 (a' : Int), .int .i64 (m' : Int), .int .i64 (b' : Int), .func (.func 34) #[] #[cap]] w2 fun e w' => e = .returned (.tuple #[]) ∧ ∃ l', RowC dt nS cap w' g l' ∧ PrmI dt nS l2 l' a' b' ∧ SrtOn (ltW dt) l' a' b' ∧ Fr (fun q => q = g) w2 w') :
    Calls Tryz.prog 68 #[.slice (some ⟨g, 0, none⟩) l.length c, .int .i64 (a : Int), .int .i64 (m : Int), .int .i64 (b : Int), .func (.func 34) #[] #[cap]] w fun e w' => e = .returned (.tuple #[]) ∧ ∃ l', RowC dt nS cap w' g l' ∧ PrmI dt nS l l' a b ∧ SrtOn (ltW dt) l' a b ∧ Fr (fun q => q = g) w w' := by
  have H0 := Lib.hid h
  have HOK := Lib.hid hok
  have HIH := Lib.hid IH
  have HSA := Lib.hid hsa
  have HSB := Lib.hid hsb
  have hw0 : IntKind.i64.wrap ((m : Int) - (a : Int)) = (m : Int) - (a : Int) := IntWalk.i64_in _ (by omega)
  have hz0 : ((m : Int) - (a : Int) == 1) = false := by rw [beq_eq_false_iff_ne]; omega
  have hz00 : ¬ (m : Int) - (a : Int) = 1 := by omega
  have hw1 : IntKind.i64.wrap ((b : Int) - (m : Int)) = (b : Int) - (m : Int) := IntWalk.i64_in _ (by omega)
  have hz1 : ((b : Int) - (m : Int) == 1) = false := by rw [beq_eq_false_iff_ne]; omega
  have hz11 : ¬ (b : Int) - (m : Int) = 1 := by omega
  obtain ⟨mid, hmid⟩ : ∃ q, q = (a + b) / 2 := ⟨_, rfl⟩
  have hh : ((a : Int) + (b : Int)) / 2 = (mid : Int) := by omega
  have HMID := Lib.hid hmid
  have hma : a < mid := by omega
  have hmb2 : mid < b := by omega
  have hmm : 2 * mid ≤ a + b ∧ a + b ≤ 2 * mid + 1 := by omega
  have hwn : IntKind.i64.wrap ((mid : Int) + (m : Int)) = (mid : Int) + (m : Int) := IntWalk.i64_in _ (by omega)
  have hwp : IntKind.i64.wrap ((mid : Int) + (m : Int) - 1) = (mid : Int) + (m : Int) - 1 := IntWalk.i64_in _ (by omega)
  obtain ⟨s0, hs0⟩ : ∃ z, z = (if m > mid then mid + m - b else a) := ⟨_, rfl⟩
  obtain ⟨r0, hr0⟩ : ∃ z, z = (if m > mid then mid else m) := ⟨_, rfl⟩
  have hcut := fun s hs1 hs2 g1 g2 => cut_of (izT dt) (l := l) (a := a) (m := m) (b := b) (mid := mid) (s := s) hb ham hmb hmid hsa hsb hs1 hs2 g1 g2
  rw [← hs0, ← hr0] at hcut
  have HCUT := Lib.hid hcut
  have hb0 : s0 ≤ r0 ∧ a ≤ s0 ∧ mid + m ≤ s0 + b ∧ r0 ≤ m ∧ r0 ≤ mid := by
    rw [hs0, hr0]
    by_cases hgt : m > mid
    · rw [if_pos hgt, if_pos hgt]; omega
    · rw [if_neg hgt, if_neg hgt]; omega
  obtain ⟨hb00, hb01, hb02, hb03, hb04⟩ := hb0
  have HS0 := Lib.hid hs0
  have HR0 := Lib.hid hr0
  clear h hok IH hsa hsb hmid hs0 hr0 hcut
  go_enter Tryz.func68, Tryz.ntmps68
  go_upto_if 140 with fail
  go_cut [20, 21] (fun sv rv wc => sv = .int .i64 (s0 : Int) ∧ rv = .int .i64 (r0 : Int) ∧ w = wc)
  case first =>
    by_cases hgt : mid < m
    · have e1 : s0 = mid + m - b := by rw [HS0.out, if_pos hgt]
      have e2 : r0 = mid := by rw [HR0.out, if_pos hgt]
      have hgz : (mid : Int) < (m : Int) := by omega
      have hw3 : IntKind.i64.wrap ((mid : Int) + (m : Int) - (b : Int)) = (s0 : Int) := by rw [IntWalk.i64_in _ (by omega)]; omega
      go_wp2
      go_meet
      exact ⟨by first | rfl | rw [e1], by first | rfl | rw [e2], rfl⟩
    · have e1 : s0 = a := by rw [HS0.out, if_neg hgt]
      have e2 : r0 = m := by rw [HR0.out, if_neg hgt]
      have hgz : ¬ (mid : Int) < (m : Int) := by omega
      go_wp2
      go_meet
      exact ⟨by first | rfl | rw [e1], by first | rfl | rw [e2], rfl⟩
  case rest =>
    obtain ⟨rfl, rfl, rfl⟩ := hcut
    go_wp2
    go_loopw [20, 21] (fun sv rv wr => ∃ s r : Nat, sv = .int .i64 (s : Int) ∧ rv = .int .i64 (r : Int) ∧ s0 ≤ s ∧ s ≤ r ∧ r ≤ r0 ∧ (s0 < s → ∀ x y, l[s - 1]? = some x → l[mid + m - s]? = some y → ltW dt x y) ∧ (r < r0 → ∀ x y, l[r]? = some x → l[mid + m - 1 - r]? = some y → ltW dt y x) ∧ RowC dt nS cap wr g l ∧ Fr (fun q => q = g) w wr) (fun sv rv _ => (intOf rv).toNat - (intOf sv).toNat)
    case atStart => exact ⟨s0, r0, rfl, rfl, Nat.le_refl _, hb00, Nat.le_refl _, fun h => absurd h (Nat.lt_irrefl _), fun h => absurd h (Nat.lt_irrefl _), H0.out, Fr.refl _ _⟩
    case round =>
      obtain ⟨s, r, rfl, rfl, hs1, hs2, hs3, hg1, hg2, hrow, hfr⟩ := hrel
      have HG1 := Lib.hid hg1
      have HG2 := Lib.hid hg2
      have HR := Lib.hid hrow
      have HF := Lib.hid hfr
      clear hg1 hg2 hrow hfr
      by_cases hlt : s < r
      · have hltz : (s : Int) < (r : Int) := by omega
        obtain ⟨wj, rfl⟩ : ∃ W : World, W = wr := ⟨_, rfl⟩
        obtain ⟨q, hq⟩ : ∃ q, q = (s + r) / 2 := ⟨_, rfl⟩
        have hh2 : ((s : Int) + (r : Int)) / 2 = (q : Int) := by omega
        have hq1 : s ≤ q := by omega
        have hq2 : q < r := by omega
        clear hq
        obtain ⟨pc, hpc⟩ : ∃ z, z = mid + m - 1 - q := ⟨_, rfl⟩
        have hpc1 : pc < l.length := by omega
        have hpq : pc ≠ q := by
          have e1 := HS0.out
          have e2 := HR0.out
          by_cases hgt : m > mid
          · rw [if_pos hgt] at e1 e2; omega
          · rw [if_neg hgt] at e1 e2; omega
        obtain ⟨x, hlq⟩ : ∃ x, l[q]? = some x := ⟨_, List.getElem?_eq_getElem (by omega)⟩
        obtain ⟨y, hlp⟩ : ∃ y, l[pc]? = some y := ⟨_, List.getElem?_eq_getElem hpc1⟩
        have HKS35 := Lib.hid (show ∀ X, Below wj.heap.size wj X → (fun X => Below wj.heap.size wj X ∧ X.cell? ⟨g, pc, none⟩ = some (.int .i64 (y : Int)) ∧ X.cell? ⟨g, q, none⟩ = some (.int .i64 (x : Int))) X from fun X hX => by
          have a0 := HR.out.drw hX hlp
          have b0 := HR.out.drw hX hlq
          exact ⟨hX, a0, b0⟩)
        have HCM := Lib.hid (fun X (hX : Below wj.heap.size wj X) => (HR.out.on hX).cmp y x (HOK.out.sm hlp) (HOK.out.sm hlq))
        have hwpc : IntKind.i64.wrap ((mid : Int) + (m : Int) - 1 - (q : Int)) = (pc : Int) := by rw [IntWalk.i64_in _ (by omega)]; omega
        have hj0 : (0 : Int) ≤ (q : Int) := by omega
        have hj1' : (q : Int) < (l.length : Int) := by omega
        have hj5' : q < l.length := by omega
        have ha0' : (0 : Int) ≤ (pc : Int) := by omega
        have ha1' : (pc : Int) < (l.length : Int) := by omega
        have HPC := Lib.hid hpc
        clear hpc
        go_wp2_with fail
        skip
        {
 refine wp_region_noPanic ?_
 refine wp_region_held_drew (S := (fun X => Below wj.heap.size wj X ∧ X.cell? ⟨g, pc, none⟩ = some (.int .i64 (y : Int)) ∧ X.cell? ⟨g, q, none⟩ = some (.int .i64 (x : Int)))) (by kernel_rfl) (HKS35.out _ (Below.refl _ wj).drew) (fun HS0 => ?_)
 have hbx0 : Below wj.heap.size wj wj.drew := (Below.refl _ _).drew
 obtain ⟨Xx0, hXx0⟩ : ∃ X, X = wj.drew := ⟨_, rfl⟩
 rw [← hXx0] at hbx0 HS0 ⊢
 have HBx0 := Lib.hid hbx0
 clear hbx0 hXx0
 refine wpAnyH_take (i := 0) (v := ?_) rfl (by kernel_rfl) (by kernel_rfl) (by kernel_rfl) (fun _ _ _ h => h) (Or.inl ⟨by kernel_rfl, ?_⟩) HS0 ?_
 rotate_left
 · intro W hW; (try dsimp only at hW); go_simp; try (with_reducible rfl)
 refine wpAnyH_take (i := 1) (v := ?_) rfl (by kernel_rfl) (by kernel_rfl) (by kernel_rfl) (fun _ _ _ h => h) (Or.inl ⟨by kernel_rfl, ?_⟩) HS0 ?_
 rotate_left
 · intro W hW; (try dsimp only at hW); go_simp; try (with_reducible rfl)
 refine wpAnyH_take (i := 2) (v := ?_) rfl (by kernel_rfl) (by kernel_rfl) (by kernel_rfl) (fun _ _ _ h => h) (Or.inl ⟨by kernel_rfl, ?_⟩) HS0 ?_
 rotate_left
 · intro W hW; (try dsimp only at hW); go_simp; try (with_reducible rfl)
 refine wpAnyH_take (i := 3) (v := ?_) rfl (by kernel_rfl) (by kernel_rfl) (by kernel_rfl) (fun _ _ _ h => h) (Or.inl ⟨by kernel_rfl, ?_⟩) HS0 ?_
 rotate_left
 · intro W hW; (try dsimp only at hW); go_simp; try (with_reducible rfl)
 refine wpAnyH_take (i := 4) (v := ?_) rfl (by kernel_rfl) (by kernel_rfl) (by kernel_rfl) (fun _ _ _ h => h) (Or.inl ⟨by kernel_rfl, ?_⟩) HS0 ?_
 rotate_left
 · intro W hW; (try dsimp only at hW); go_simp; try (with_reducible rfl)
 refine wpAnyH_take (i := 5) (v := ?_) rfl (by kernel_rfl) (by kernel_rfl) (by kernel_rfl) (fun _ _ _ h => h) (Or.inl ⟨by kernel_rfl, ?_⟩) HS0 ?_
 rotate_left
 · intro W hW; (try dsimp only at hW); go_simp; try (with_reducible rfl)
 refine wpAnyH_take (i := 6) (v := ?_) rfl (by kernel_rfl) (by kernel_rfl) (by kernel_rfl) (fun _ _ _ h => h) (Or.inl ⟨by kernel_rfl, ?_⟩) HS0 ?_
 rotate_left
 · intro W hW; (try dsimp only at hW); go_simp; try (with_reducible rfl)
 refine wpAnyH_take (i := 7) (v := ?_) rfl (by kernel_rfl) (by kernel_rfl) (by kernel_rfl) (fun _ _ _ h => h) (Or.inl ⟨by kernel_rfl, ?_⟩) HS0 ?_
 rotate_left
 · intro W hW; (try dsimp only at hW); go_simp; try (with_reducible rfl)
 refine wpAnyH_take (i := 8) (v := ?_) rfl (by kernel_rfl) (by kernel_rfl) (by kernel_rfl) (fun _ _ _ h => h) (Or.inl ⟨by kernel_rfl, ?_⟩) HS0 ?_
 rotate_left
 · intro W hW; (try dsimp only at hW); go_simp; try (with_reducible rfl)
 refine wpAnyH_take (i := 9) (v := ?_) rfl (by kernel_rfl) (by kernel_rfl) (by kernel_rfl) (fun _ _ _ h => h) (Or.inl ⟨by kernel_rfl, ?_⟩) HS0 ?_
 rotate_left
 · intro W hW; (try dsimp only at hW); go_simp; try (with_reducible rfl)
 refine wpAnyH_take (i := 10) (v := ?_) rfl (by kernel_rfl) (by kernel_rfl) (by kernel_rfl) (fun _ _ _ h => h) (Or.inl ⟨by kernel_rfl, ?_⟩) HS0 ?_
 rotate_left
 · intro W hW; (try dsimp only at hW); go_simp; try (with_reducible rfl)
 clear HS0
 refine run_one (i := 11) (by kernel_rfl) rfl rfl ?_
 intro K hK
 go_simp
 (with_reducible refine (HCM.out Xx0 HBx0.out).mono ?_)
 rintro e Xx1 ⟨rfl, hbx1⟩
 have HBx1 := Lib.hid (below_next (HBx0.out) hbx1)
 refine hK.out _ _ (HKS35.out _ HBx1.out) ?_
 clear hK K
 intro _
 have HS0 := HKS35.out _ (HBx1.out)
 refine wpAnyH_take (i := 12) (v := ?_) rfl (by kernel_rfl) (by kernel_rfl) (by kernel_rfl) (fun _ _ _ h => h) (Or.inl ⟨by kernel_rfl, ?_⟩) HS0 ?_
 rotate_left
 · intro W hW; (try dsimp only at hW); go_simp; try (with_reducible rfl)
 clear HS0
 have HS0 := HKS35.out _ (HBx1.out)
 refine wpAnyH_take (i := 13) (v := ?_) rfl (by kernel_rfl) (by kernel_rfl) (by kernel_rfl) (fun _ _ _ h => h) (Or.inl ⟨by kernel_rfl, ?_⟩) HS0 ?_
 rotate_left
 · intro W hW; (try dsimp only at hW); go_simp; try (with_reducible rfl)
 clear HS0
 refine wpAnyH_done (by kernel_rfl) ?_ _
 refine NoPanic.normal ?_
 (try go_simp)
 obtain ⟨cv, hcv⟩ : ∃ z, z = cmpW dt y x := ⟨_, rfl⟩
 rw [← hcv]
 obtain ⟨cb, hcb⟩ : ∃ z, z = (!decide (cv < 0)) := ⟨_, rfl⟩
 rw [← hcb]
 have HRN := Lib.hid (HR.out.on (HBx1.out))
 have HFN := Lib.hid (HF.out.trans (Fr.of_b (may := fun q => q = g) (HBx1.out)) (fun _ _ h => h))
 by_cases hc : cv < 0
 · have hyx : ltW dt y x := cmpW_lt (by rw [← hcv]; exact hc)
   obtain rfl : cb = false := by rw [hcb, decide_eq_true hc]; rfl
   clear hcb hcv
   go_wp2
   go_roundw
   case rel => exact ⟨s, q, rfl, rfl, hs1, by omega, by omega, HG1.out, fun _ u v hu hv => by rw [hlq] at hu; rw [← HPC.out, hlp] at hv; cases hu; cases hv; exact hyx, HRN.out, HFN.out⟩
   case measure => simp [intOf]; omega
 · have hxy : ltW dt x y := HOK.out.nlt (p := q) (q := pc) (by have := HPC.out; omega) hlq hlp (by rw [← hcv]; exact hc)
   obtain rfl : cb = true := by rw [hcb, decide_eq_false hc]; rfl
   clear hcb hcv
   go_wp2
   go_roundw
   case rel => exact ⟨q + 1, r, by go_num, rfl, by omega, by omega, hs3, fun _ u v hu hv => by rw [Nat.add_sub_cancel, hlq] at hu; rw [show mid + m - (q + 1) = pc by have := HPC.out; omega, hlp] at hv; cases hu; cases hv; exact hxy, HG2.out, HRN.out, HFN.out⟩
   case measure => simp [intOf]; omega
        }
      · obtain rfl : s = r := by omega
        have hltz : ¬ (s : Int) < (s : Int) := by omega
        have hcs := HCUT.out s hs1 hs3 HG1.out HG2.out
        obtain ⟨e, he⟩ : ∃ e, e = mid + m - s := ⟨_, rfl⟩
        have hwe : IntKind.i64.wrap ((mid : Int) + (m : Int) - (s : Int)) = (e : Int) := by rw [IntWalk.i64_in _ (by omega)]; omega
        have d1 := hcs.lo
        have d2 := hcs.hi
        have d3 := hcs.elo
        have d4 := hcs.ehi
        have hrt := hcs.rot hb ham hmb HMID.out HSA.out HSB.out
        rw [← he] at d3 d4 hrt
        have HRT := Lib.hid hrt
        have hse : s ≤ mid ∧ mid ≤ e := by omega
        obtain ⟨hse1, hse2⟩ := hse
        have HSE := Lib.hid (show s + (e - m) = mid by omega)
        clear he
        clear hcs hrt HG1 HG2 HCUT
        go_upto_region 39 with fail
        go_cut [24, 185] (fun ev bv wc => ev = .int .i64 (e : Int) ∧ bv = .bool (decide (s < m ∧ m < e)) ∧ wr = wc)
        case first =>
          by_cases hrr : s < m ∧ m < e
          · have q1z : (s : Int) < (m : Int) := by omega
            have q2z : (m : Int) < (e : Int) := by omega
            have q1 := hrr.1
            have q2 := hrr.2
            go_wp2
            go_meet
            exact ⟨rfl, by rw [decide_eq_true hrr], rfl⟩
          · by_cases q1 : s < m
            · have q1z : (s : Int) < (m : Int) := by omega
              have q2 : ¬ m < e := fun h => hrr ⟨q1, h⟩
              have q2z : ¬ (m : Int) < (e : Int) := by omega
              go_wp2
              go_meet
              exact ⟨rfl, by rw [decide_eq_false hrr], rfl⟩
            · have q1z : ¬ (s : Int) < (m : Int) := by omega
              go_wp2
              go_meet
              exact ⟨rfl, by rw [decide_eq_false hrr], rfl⟩
        case rest =>
          obtain ⟨rfl, rfl, rfl⟩ := hcut
          go_upto_if 185 with fail
          go_cut [24] (fun ev wc => ev = .int .i64 (e : Int) ∧ RowC dt nS cap wc g (rot l s m e) ∧ Fr (fun q => q = g) w wc)
          case first =>
            by_cases hrr : s < m ∧ m < e
            · rw [decide_eq_true hrr]
              obtain ⟨q1, q2⟩ := hrr
              have q1z : (s : Int) < (m : Int) := by omega
              have q2z : (m : Int) < (e : Int) := by omega
              have HRO := Lib.hid (izRot_any g c s m e (.func (.func 34) #[] #[cap]) l wr HR.out q1 q2 (by omega) hl)
              go_wp2_with fail
              (with_reducible refine (HRO.out).mono ?_)
              rintro e' w2 ⟨rfl, hr2, hf2⟩
              have HR2 := Lib.hid hr2
              have HF2 := Lib.hid (HF.out.trans hf2 (fun _ _ h => h))
              clear hr2 hf2
              go_wp2
              go_meet
              exact ⟨rfl, HR2.out, HF2.out⟩
            · have HNR := Lib.hid (rot_none (l := l) (s := s) (m := m) (e := e) d2 d3 (by omega) (by omega))
              rw [decide_eq_false hrr]
              go_wp2
              go_meet
              exact ⟨rfl, by rw [HNR.out]; exact HR.out, HF.out⟩
          case rest =>
            obtain ⟨rfl, hrow1, hfr1⟩ := hcut
            obtain ⟨w1, rfl⟩ : ∃ W : World, W = wc := ⟨_, rfl⟩
            obtain ⟨l1, hl1⟩ : ∃ z, z = rot l s m e := ⟨_, rfl⟩
            have hp1 := PrmI.turn (d := dt) (N := nS) (l := l) (a := a) (b := b) d2 d3 (by omega) HRT.out.2.2.2.2 HSE.out d1 d4 hb
            rw [← hl1] at hrow1 hp1 HRT
            have hn1 := hp1.len
            have HOK1 := Lib.hid (HOK.out.perm (hp1.all (by omega)))
            clear hl1
            refine at_K (P := Tryz.prog) (code := ?tailC) (Q := ?tailQ) ?tailK ?tailW
            case tailK => assumption
            exact izTail_any dt nS cap g c a m b mid s e l l1 w w1 hb hma hmb2 d1 hse1 hse2 d4 hn1 hrow1 hfr1 hp1 HRT.out HOK1.out HIH.out u23 u25 u26 u27 u28 u29 u30 u31 u32 u33 u34 u35 u36 u37 u38 u39 u40 u41 u42 u43 u44 u45 u46 u47 u48 u49 u50 u51 u52 u53 u54 u55 u56 u57 u58 u59 u60 u61 u62 u63 u64 u65 u66 u67 u68 u69 u70 u71 u72 u73 u74 u75 u76 u77 u78 u79 u80 u81 u82 u83 u84 u85 u86 u87 u88 u89 u90 u91 u92 u93 u94 u95 u96 u97 u98 u99 u100 u101 u102 u103 u104 u105 u106 u107 u108 u109 u110 u111 u112 u113 u114 u115 u116 u117 u118 u119 u120 u121 u122 u123 u124 u125 u126 u127 u128 u129 u130 u131 u132 u133 u134 u135 u136 u137 u138 u139 u140 u141 u142 u143 u144 u145 u146 u147 u148 u149 u150 u151 u152 u153 u154 u155 u156 u157 u158 u159 u160 u161 u162 u163 u164 u165 u166 u167 u168 u169 u170 u171 u172 u173 u174 u175 u176 u177 u178 u179 u180 u181 u182 u183 u184 u185 u186 u187 u188 u189 u190 u191 u192 u193 u194 u195 u196 u197 u198 u199 u200 u201 u202 u203 u204 u205 u206 u207 u208 u209 u210 u211 u212 u213 u214 u215 u216 u217 u218 u219
theorem izSym_any (dt : Nat → Int) (nS : Nat) (cap : Value) (g c : Nat) : ∀ (N a m b : Nat) (l : List Nat) (w : World), b - a ≤ N → RowC dt nS cap w g l → a < m → m < b → b ≤ l.length → l.length ≤ 1000000 → OkI dt nS l → SrtOn (ltW dt) l a m → SrtOn (ltW dt) l m b →
    Calls Tryz.prog 68 #[.slice (some ⟨g, 0, none⟩) l.length c, .int .i64 (a : Int), .int .i64 (m : Int), .int .i64 (b : Int), .func (.func 34) #[] #[cap]] w fun e w' => e = .returned (.tuple #[]) ∧ ∃ l', RowC dt nS cap w' g l' ∧ PrmI dt nS l l' a b ∧ SrtOn (ltW dt) l' a b ∧ Fr (fun q => q = g) w w'
  | 0, a, m, b, l, w, hN, _, h1, h2, _, _, _, _, _ => by omega
  | N + 1, a, m, b, l, w, hN, h, h1, h2, h3, h4, h5, h6, h7 => by
    by_cases e1 : m = a + 1
    · exact izSymL_any dt nS cap g c a m b l w h e1 h2 h3 h4 h5 h7
    · by_cases e2 : b = m + 1
      · exact izSymR_any dt nS cap g c a m b l w h h1 e1 e2 h3 h4 h5 h6
      · refine izSymG_any dt nS cap g c a m b l w h h1 h2 e1 e2 h3 h4 h5 h6 h7 fun a' m' b' l2 w2 k1 k2 k3 k4 k5 k6 k7 k8 k9 => ?_
        have := izSym_any dt nS cap g c N a' m' b' l2 w2 (by omega) k3 k4 k5 k6 (by omega) k7 k8 k9
        rw [k2] at this
        exact this
end Go.Proofs.YtjkoppdddaknlaaGreatDoor
