import Derived.Test.YtnpfdelklolchaaGreatDoorG28
import Derived.Test.YtnpfdelklolchaaGreatDoorG38
import Derived.Test.YtnpfdelklolchaaGreatDoorStSym
import Derived.Test.YtnpfdelklolchaaGreatDoorG29
import Derived.Test.YtnpfdelklolchaaGreatDoorG31
import Derived.Test.YtnpfdelklolchaaGreatDoorShelf
import Derived.Test.YtnpfdelklolchaaGreatDoorAlMath
import Derived.Test.YtnpfdelklolchaaGreatDoorG33
/- Sorted blocks of a list, merged two by two: plain (slices.stable's loops). -/
namespace Go.Proofs.YtnpfdelklolchaaGreatDoor
section
variable {α : Type} {lt : α → α → Prop}
theorem dv_of {p bs i : Nat} (h1 : bs * i ≤ p) (h2 : p < bs * i + bs) : p / bs = i := by
  have hb : 0 < bs := by omega
  apply Nat.div_eq_of_lt_le
  · rw [Nat.mul_comm]; exact h1
  · rw [Nat.succ_mul, Nat.mul_comm]; exact h2
theorem dv_ge {p bs i : Nat} (hb : 0 < bs) (h : i ≤ p / bs) : bs * i ≤ p := by
  have := (Nat.le_div_iff_mul_le hb).1 h
  rw [Nat.mul_comm]; exact this
/-- each block of bs elements is sorted, up to k -/
def SrtB (lt : α → α → Prop) (l : List α) (bs k : Nat) : Prop := ∀ p q x y, p < q → q < k → p / bs = q / bs → l[p]? = some x → l[q]? = some y → lt x y
theorem SrtB.none (l : List α) (bs : Nat) : SrtB lt l bs 0 := fun p q x y h1 h2 => by omega
theorem SrtB.ins {l l' : List α} {bs i a b : Nat} (hb : 0 < bs) (ha : a = bs * i) (hab : b ≤ a + bs) (h : SrtB lt l bs a) (hp : PermOn l l' a b) (hs : SrtOn lt l' a b) : SrtB lt l' bs b := by
  intro p q x y h1 h2 h3 h4 h5
  rcases Nat.lt_or_ge q a with h6 | h6
  · exact h p q x y h1 h6 h3 (by rw [← hp.out p (.inl (by omega))]; exact h4) (by rw [← hp.out q (.inl h6)]; exact h5)
  · have hq : q / bs = i := dv_of (by omega) (by omega)
    have hpa : a ≤ p := by rw [ha]; exact dv_ge hb (by omega)
    exact hs p q x y hpa h1 h2 h4 h5
theorem SrtB.whole {l : List α} {bs n : Nat} (h : SrtB lt l bs n) (hn : n ≤ bs) : SrtOn lt l 0 n := by
  intro p q x y _ h1 h2 h3 h4
  exact h p q x y h1 h2 (by rw [Nat.div_eq_of_lt (by omega), Nat.div_eq_of_lt (by omega)]) h3 h4
/-- up to a the blocks of twice the size are sorted, behind it those of bs -/
def SrtM (lt : α → α → Prop) (l : List α) (bs a n : Nat) : Prop :=
  (∀ p q x y, p < q → q < a → p / (2 * bs) = q / (2 * bs) → l[p]? = some x → l[q]? = some y → lt x y) ∧
  (∀ p q x y, a ≤ p → p < q → q < n → p / bs = q / bs → l[p]? = some x → l[q]? = some y → lt x y)
theorem SrtM.start {l : List α} {bs n : Nat} (h : SrtB lt l bs n) : SrtM lt l bs 0 n :=
  ⟨fun p q x y h1 h2 => by omega, fun p q x y _ h1 h2 h3 h4 h5 => h p q x y h1 h2 h3 h4 h5⟩
theorem SrtM.left {l : List α} {bs a n i k : Nat} (ha : a = 2 * bs * i) (h : SrtM lt l bs a n) (hk : k ≤ a + bs) (hn : k ≤ n) : SrtOn lt l a k := by
  intro p q x y h1 h2 h3 h4 h5
  have e : a = bs * (2 * i) := by rw [ha, Nat.mul_comm 2 bs, Nat.mul_assoc]
  refine h.2 p q x y h1 h2 (by omega) ?_ h4 h5
  rw [dv_of (i := 2 * i) (by omega) (by omega), dv_of (i := 2 * i) (by omega) (by omega)]
theorem SrtM.right {l : List α} {bs a n i k : Nat} (ha : a = 2 * bs * i) (h : SrtM lt l bs a n) (hk : k ≤ a + bs + bs) (hn : k ≤ n) : SrtOn lt l (a + bs) k := by
  intro p q x y h1 h2 h3 h4 h5
  have e : a + bs = bs * (2 * i + 1) := by rw [ha, Nat.mul_succ, Nat.mul_comm 2 bs, Nat.mul_assoc]
  refine h.2 p q x y (by omega) h2 (by omega) ?_ h4 h5
  rw [dv_of (i := 2 * i + 1) (by omega) (by omega), dv_of (i := 2 * i + 1) (by omega) (by omega)]
theorem SrtM.step {l l' : List α} {bs a n i : Nat} (hb : 0 < bs) (ha : a = 2 * bs * i) (h : SrtM lt l bs a n) (hp : PermOn l l' a (a + 2 * bs)) (hs : SrtOn lt l' a (a + 2 * bs)) : SrtM lt l' bs (a + 2 * bs) n := by
  refine ⟨fun p q x y h1 h2 h3 h4 h5 => ?_, fun p q x y h1 h2 h3 h4 h5 h6 => ?_⟩
  · rcases Nat.lt_or_ge q a with h6 | h6
    · exact h.1 p q x y h1 h6 h3 (by rw [← hp.out p (.inl (by omega))]; exact h4) (by rw [← hp.out q (.inl h6)]; exact h5)
    · have hq : q / (2 * bs) = i := dv_of (by omega) (by omega)
      have hpa : a ≤ p := by rw [ha]; exact dv_ge (by omega) (by omega)
      exact hs p q x y hpa h1 h2 h4 h5
  · exact h.2 p q x y (by omega) h2 h3 h4 (by rw [← hp.out p (.inr h1)]; exact h5) (by rw [← hp.out q (.inr (by omega))]; exact h6)
theorem SrtM.last {l l' : List α} {bs a n i : Nat} (hb : 0 < bs) (ha : a = 2 * bs * i) (hn : n < a + 2 * bs) (h : SrtM lt l bs a n) (hp : PermOn l l' a n) (hs : SrtOn lt l' a n) : SrtB lt l' (2 * bs) n := by
  intro p q x y h1 h2 h3 h4 h5
  rcases Nat.lt_or_ge q a with h6 | h6
  · exact h.1 p q x y h1 h6 h3 (by rw [← hp.out p (.inl (by omega))]; exact h4) (by rw [← hp.out q (.inl h6)]; exact h5)
  · have hq : q / (2 * bs) = i := dv_of (by omega) (by omega)
    have hpa : a ≤ p := by rw [ha]; exact dv_ge (by omega) (by omega)
    exact hs p q x y hpa h1 h2 h4 h5
end
end Go.Proofs.YtnpfdelklolchaaGreatDoor

/- slices.stableCmpFunc and SortStableFunc at alerts. Printed by gen_ststab.py. -/
namespace Go.Proofs.YtnpfdelklolchaaGreatDoor
open Go Go.RowKit Go.Proofs

/-- the contract of symMergeCmpFunc at rows as long as this one -/
def SymOk (g c n : Nat) : Prop := ∀ (a m b : Nat) (l : List Al) (w : World), l.length = n → RowA w g l → a < m → m < b → b ≤ l.length → OkA l → SrtOn ltA l a m → SrtOn ltA l m b →
  Calls Tryz.prog 110 #[.slice (some ⟨g, 0, none⟩) n c, .int .i64 (a : Int), .int .i64 (m : Int), .int .i64 (b : Int), .func (.func 63) #[] #[]] w fun e w' => e = .returned (.tuple #[]) ∧ ∃ l', RowA w' g l' ∧ PermOn l l' a b ∧ SrtOn ltA l' a b ∧ Fr (fun q => q = g) w w'
set_option maxHeartbeats 8000000 in
set_option maxRecDepth 100000 in
theorem stStab_any (g c n : Nat) (l : List Al) (w : World) (hsym : SymOk g c n) (h : RowA w g l) (hn : l.length = n) (hl : n ≤ 1000000) (hok : OkA l) :
    Calls Tryz.prog 95 #[.slice (some ⟨g, 0, none⟩) n c, .int .i64 (n : Int), .func (.func 63) #[] #[]] w fun e w' => e = .returned (.tuple #[]) ∧ ∃ l', RowA w' g l' ∧ PermOn l l' 0 n ∧ SrtOn ltA l' 0 n ∧ Fr (fun q => q = g) w w' := by
  have H0 := Lib.hid h
  have HOK := Lib.hid hok
  have HN := Lib.hid hn
  have HSYM := Lib.hid hsym
  have HINS := Lib.hid (fun (a b : Nat) (l2 : List Al) (w2 : World) (h1 : l2.length = n) (h2 : RowA w2 g l2) (h3 : a ≤ b) (h4 : b ≤ n) (h5 : OkA l2) => (show Calls Tryz.prog 109 #[.slice (some ⟨g, 0, none⟩) n c, .int .i64 (a : Int), .int .i64 (b : Int), .func (.func 63) #[] #[]] w2 (fun e w' => e = .returned (.tuple #[]) ∧ ∃ l', RowA w' g l' ∧ PermOn l2 l' a b ∧ SrtOn ltA l' a b ∧ Fr (fun q => q = g) w2 w') by
    have := stIns_any g c a b l2 w2 h2 h3 (by omega) (by omega) h5
    rw [h1] at this; exact this))
  clear h hok hn hsym
  go_enter Tryz.func95, Tryz.ntmps95
  go_wp2
  go_loopw [7, 8] (fun av bv wr => ∃ (a b i : Nat) (lc : List Al), av = .int .i64 (a : Int) ∧ bv = .int .i64 (b : Int) ∧ b = a + 20 ∧ a = 20 * i ∧ a ≤ n ∧ PermOn l lc 0 n ∧ SrtB ltA lc 20 a ∧ RowA wr g lc ∧ Fr (fun q => q = g) w wr) (fun _ bv _ => n + 21 - (intOf bv).toNat)
  case atStart => exact ⟨0, 20, 0, l, rfl, rfl, rfl, rfl, Nat.zero_le _, PermOn.refl _ _ _, SrtB.none _ _, H0.out, Fr.refl _ _⟩
  case round =>
    obtain ⟨a, b, i, lc, rfl, rfl, hb, ha, han, hp, hs, hrow, hfr⟩ := hrel
    have HB := Lib.hid hb
    have HA := Lib.hid ha
    have HP := Lib.hid hp
    have HS := Lib.hid hs
    have HR := Lib.hid hrow
    have HF := Lib.hid hfr
    have hlc := hp.len
    have HLC := Lib.hid (hlc.trans HN.out)
    have HOK2 := Lib.hid (HOK.out.perm (hp.all (Nat.zero_le _)))
    clear hp hs hrow hfr hlc H0
    by_cases hbn : b ≤ n
    · have hbz : (b : Int) ≤ (n : Int) := by omega
      have HC := Lib.hid (HINS.out a b lc wr HLC.out HR.out (by omega) hbn HOK2.out)
      have hw : IntKind.i64.wrap ((b : Int) + 20) = (b : Int) + 20 := IntWalk.i64_in _ (by omega)
      have HB0 := Lib.hid hb
      have hab : a ≤ b := by omega
      have hba : b ≤ a + 20 := by omega
      clear hb ha
      go_wp2_with fail
      (with_reducible refine (HC.out).mono ?_)
      rintro e w2 ⟨rfl, l2, hr2, hp2, hs2, hf2⟩
      have HR2 := Lib.hid hr2
      have HP2 := Lib.hid (HP.out.trans (hp2.within (by have := HLC.out; omega) (Nat.zero_le _) hab hbn))
      have HS2 := Lib.hid (HS.out.ins (bs := 20) (i := i) (by omega) HA.out hba hp2 hs2)
      have HF2 := Lib.hid (HF.out.trans hf2 (fun _ _ h => h))
      clear hr2 hp2 hs2 hf2
      go_wp2
      go_roundw
      case rel => exact ⟨b, b + 20, i + 1, l2, rfl, by go_num, rfl, by have := HB.out; have := HA.out; omega, hbn, HP2.out, HS2.out, HR2.out, HF2.out⟩
      case measure => simp [intOf]; omega
    · have hbz : ¬ (b : Int) ≤ (n : Int) := by omega
      have hba : n ≤ a + 20 := by omega
      have HC := Lib.hid (HINS.out a n lc wr HLC.out HR.out han (Nat.le_refl _) HOK2.out)
      clear hb ha
      go_wp2_with fail
      (with_reducible refine (HC.out).mono ?_)
      rintro e w2 ⟨rfl, l2, hr2, hp2, hs2, hf2⟩
      have HR2 := Lib.hid hr2
      have HP2 := Lib.hid (HP.out.trans (hp2.within (by have := HLC.out; omega) (Nat.zero_le _) han (Nat.le_refl _)))
      have HS2 := Lib.hid (HS.out.ins (bs := 20) (i := i) (by omega) HA.out hba hp2 hs2)
      have HF2 := Lib.hid (HF.out.trans hf2 (fun _ _ h => h))
      clear hr2 hp2 hs2 hf2 HR HF HS HP HOK2 HLC
      go_wp2
      go_loopw [6] (fun sv wr => ∃ (bs : Nat) (lc : List Al), sv = .int .i64 (bs : Int) ∧ 0 < bs ∧ bs ≤ 2 * n + 20 ∧ PermOn l lc 0 n ∧ SrtB ltA lc bs n ∧ RowA wr g lc ∧ Fr (fun q => q = g) w wr) (fun sv _ => 2 * n + 20 - (intOf sv).toNat)
      case atStart => exact ⟨20, l2, rfl, by omega, by omega, HP2.out, HS2.out, HR2.out, HF2.out⟩
      case round =>
        obtain ⟨bs, lc, rfl, hbs0, hbs1, hp, hs, hrow, hfr⟩ := hrel
        have HP := Lib.hid hp
        have HS := Lib.hid hs
        have HR := Lib.hid hrow
        have HF := Lib.hid hfr
        clear hp hs hrow hfr HP2 HS2 HR2 HF2
        by_cases hbn2 : bs < n
        · have hbnz : (bs : Int) < (n : Int) := by omega
          obtain ⟨d, hd⟩ : ∃ d, d = 2 * bs := ⟨_, rfl⟩
          have hw2 : IntKind.i64.wrap (2 * (bs : Int)) = (d : Int) := by rw [IntWalk.i64_in _ (by omega)]; omega
          have hw22 : IntKind.i64.wrap ((bs : Int) * 2) = (d : Int) := by rw [IntWalk.i64_in _ (by omega)]; omega
          have HD := Lib.hid hd
          have hbd : bs < d := by omega
          have hdn : d ≤ 2 * n := by omega
          have hd0 : 0 < d := by omega
          clear hd
          go_wp2
          go_loopw [7, 8] (fun av bv wr => ∃ (a b i : Nat) (lc : List Al), av = .int .i64 (a : Int) ∧ bv = .int .i64 (b : Int) ∧ b = a + d ∧ a = d * i ∧ a ≤ n ∧ PermOn l lc 0 n ∧ SrtM ltA lc bs a n ∧ RowA wr g lc ∧ Fr (fun q => q = g) w wr) (fun _ bv _ => n + 1 + d - (intOf bv).toNat)
          case atStart => exact ⟨0, d, 0, lc, rfl, rfl, by omega, rfl, Nat.zero_le _, HP.out, SrtM.start HS.out, HR.out, HF.out⟩
          case round =>
            obtain ⟨a, b, i, l4, rfl, rfl, hb, ha, han, hp, hs, hrow, hfr⟩ := hrel
            have HB4 := Lib.hid hb
            have HA4 := Lib.hid (show a = 2 * bs * i by rw [← HD.out]; exact ha)
            have HA5 := Lib.hid ha
            have HP4 := Lib.hid hp
            have HS4 := Lib.hid hs
            have HR4 := Lib.hid hrow
            have HF4 := Lib.hid hfr
            have hlc := hp.len
            have HLC := Lib.hid (hlc.trans HN.out)
            have HOK2 := Lib.hid (HOK.out.perm (hp.all (Nat.zero_le _)))
            obtain ⟨m, hm⟩ : ∃ m, m = a + bs := ⟨_, rfl⟩
            have hwm : IntKind.i64.wrap ((a : Int) + (bs : Int)) = (m : Int) := by rw [IntWalk.i64_in _ (by omega)]; omega
            have HM := Lib.hid hm
            have ham : a < m := by omega
            clear hp hs hrow hfr hlc HR HF HS HP
            by_cases hbn : b ≤ n
            · have hbz : (b : Int) ≤ (n : Int) := by omega
              have hmb : m < b := by have := HD.out; omega
              have HC := Lib.hid (HSYM.out a m b l4 wr HLC.out HR4.out ham hmb (by have := HLC.out; omega) HOK2.out (HS4.out.left HA4.out (by omega) (by omega)) (by rw [hm]; exact HS4.out.right HA4.out (by have := HD.out; omega) hbn))
              have hw3 : IntKind.i64.wrap ((b : Int) + (d : Int)) = (b : Int) + (d : Int) := IntWalk.i64_in _ (by omega)
              have hab : a ≤ b := by omega
              clear hb ha hm
              go_wp2_with fail
              (with_reducible refine (HC.out).mono ?_)
              rintro e w2 ⟨rfl, l5, hr2, hp2, hs2, hf2⟩
              have HR5 := Lib.hid hr2
              have HP5 := Lib.hid (HP4.out.trans (hp2.within (by have := HLC.out; omega) (Nat.zero_le _) hab hbn))
              have hbe : b = a + 2 * bs := by have := HB4.out; have := HD.out; omega
              have HS5 := Lib.hid (show SrtM ltA l5 bs b n by rw [hbe] at hp2 hs2 ⊢; exact HS4.out.step hbs0 HA4.out hp2 hs2)
              have HF5 := Lib.hid (HF4.out.trans hf2 (fun _ _ h => h))
              clear hr2 hp2 hs2 hf2 hbe
              go_wp2
              go_roundw
              case rel => exact ⟨b, b + d, i + 1, l5, rfl, by go_num, rfl, by rw [HB4.out, Nat.mul_succ, ← HA5.out], hbn, HP5.out, HS5.out, HR5.out, HF5.out⟩
              case measure => simp [intOf]; omega
            · have hbz : ¬ (b : Int) ≤ (n : Int) := by omega
              have hnd : n < a + 2 * bs := by have := HD.out; omega
              by_cases hmn : m < n
              · have hmz : (m : Int) < (n : Int) := by omega
                have HC := Lib.hid (HSYM.out a m n l4 wr HLC.out HR4.out ham hmn (by have := HLC.out; omega) HOK2.out (HS4.out.left HA4.out (by omega) (by omega)) (by rw [hm]; exact HS4.out.right HA4.out (by omega) (Nat.le_refl _)))
                clear hb ha hm
                go_wp2_with fail
                (with_reducible refine (HC.out).mono ?_)
                rintro e w2 ⟨rfl, l5, hr2, hp2, hs2, hf2⟩
                have HR5 := Lib.hid hr2
                have HP5 := Lib.hid (HP4.out.trans (hp2.within (by have := HLC.out; omega) (Nat.zero_le _) han (Nat.le_refl _)))
                have HS5 := Lib.hid (show SrtB ltA l5 d n by rw [HD.out]; exact HS4.out.last hbs0 HA4.out hnd hp2 hs2)
                have HF5 := Lib.hid (HF4.out.trans hf2 (fun _ _ h => h))
                clear hr2 hp2 hs2 hf2
                go_wp2
                go_roundw
                case rel => exact ⟨d, l5, by first | rfl | go_num, hd0, by omega, HP5.out, HS5.out, HR5.out, HF5.out⟩
                case measure => simp [intOf]; omega
              · have hmz : ¬ (m : Int) < (n : Int) := by omega
                have HS5 := Lib.hid (show SrtB ltA l4 d n by rw [HD.out]; exact HS4.out.last hbs0 HA4.out hnd (PermOn.refl _ _ _) (HS4.out.left HA4.out (by omega) (Nat.le_refl _)))
                clear hb ha hm
                go_wp2
                go_roundw
                case rel => exact ⟨d, l4, by first | rfl | go_num, hd0, by omega, HP4.out, HS5.out, HR4.out, HF4.out⟩
                case measure => simp [intOf]; omega
        · have hbnz : ¬ (bs : Int) < (n : Int) := by omega
          have HSS := Lib.hid (HS.out.whole (by omega))
          go_wp2
          go_end0
          exact ⟨rfl, lc, HR.out, HP.out, HSS.out, HF.out⟩
set_option maxHeartbeats 1000000 in
set_option maxRecDepth 100000 in
theorem stSort_any (g c n : Nat) (l : List Al) (w : World) (hsym : SymOk g c n) (h : RowA w g l) (hn : l.length = n) (hl : n ≤ 1000000) (hok : OkA l) :
    Calls Tryz.prog 62 #[.slice (some ⟨g, 0, none⟩) n c, .func (.func 63) #[] #[]] w fun e w' => e = .returned (.tuple #[]) ∧ ∃ l', RowA w' g l' ∧ PermOn l l' 0 n ∧ SrtOn ltA l' 0 n ∧ Fr (fun q => q = g) w w' := by
  have HS := Lib.hid (stStab_any g c n l w hsym h hn hl hok)
  clear h hn hok hsym
  go_enter Tryz.func62, Tryz.ntmps62
  go_wp2_with fail
  (with_reducible refine (HS.out).mono ?_)
  rintro e w2 ⟨rfl, l2, hr2, hp2, hs2, hf2⟩
  have HR2 := Lib.hid hr2
  have HP2 := Lib.hid hp2
  have HS2 := Lib.hid hs2
  have HF2 := Lib.hid hf2
  clear hr2 hp2 hs2 hf2
  go_wp2
  go_end0
  exact ⟨rfl, l2, HR2.out, HP2.out, HS2.out, HF2.out⟩
end Go.Proofs.YtnpfdelklolchaaGreatDoor

/- slices.SortStableFunc at alerts, whole. -/
namespace Go.Proofs.YtnpfdelklolchaaGreatDoor
open Go Go.RowKit Go.Proofs

theorem symOk (g c n : Nat) (hn : n ≤ 1000000) : SymOk g c n := by
  intro a m b l w h1 h2 h3 h4 h5 h6 h7 h8
  have := stSym_any g c (b - a) a m b l w (Nat.le_refl _) h2 h3 h4 h5 (by omega) h6 h7 h8
  rw [h1] at this
  exact this
/-- the sorted list: a permutation, each pair in order -/
theorem sortStable_any (g c n : Nat) (l : List Al) (w : World) (h : RowA w g l) (hn : l.length = n) (hl : n ≤ 1000000) (hok : OkA l) :
    Calls Tryz.prog 62 #[.slice (some ⟨g, 0, none⟩) n c, .func (.func 63) #[] #[]] w fun e w' => e = .returned (.tuple #[]) ∧ ∃ l', RowA w' g l' ∧ l.Perm l' ∧ SrtOn ltA l' 0 n ∧ Fr (fun q => q = g) w w' :=
  (stSort_any g c n l w (symOk g c n hl) h hn hl hok).mono fun e w' ⟨he, l', h1, h2, h3, h4⟩ => ⟨he, l', h1, h2.all (Nat.zero_le _), h3, h4⟩
end Go.Proofs.YtnpfdelklolchaaGreatDoor

/- judge.atLeast; slices.Clip at alerts. -/
namespace Go.Proofs.YtnpfdelklolchaaGreatDoor
open Go Go.RowKit Go.Proofs

theorem mul_ge {p q M : Nat} (hM : 0 < M) : q ≤ p ↔ q / M < p / M ∨ (q / M = p / M ∧ q % M ≤ p % M) := by
  have e1 := Nat.div_add_mod p M
  have e2 := Nat.div_add_mod q M
  have m1 := Nat.mod_lt p hM
  have m2 := Nat.mod_lt q hM
  constructor
  · intro h
    rcases Nat.lt_or_ge (q / M) (p / M) with h1 | h1
    · exact .inl h1
    · have h2 : q / M = p / M := Nat.le_antisymm (Nat.div_le_div_right h) h1
      refine .inr ⟨h2, ?_⟩
      rw [h2] at e2; omega
  · rintro (h | ⟨h, h2⟩)
    · have h3 : M * (q / M + 1) ≤ M * (p / M) := Nat.mul_le_mul_left _ h
      rw [Nat.mul_add, Nat.mul_one] at h3
      omega
    · rw [h] at e2; omega
set_option maxHeartbeats 8000000 in
set_option maxRecDepth 100000 in
theorem jAtLeast_any (a b c d : Nat) (w : World) (ha : a ≤ 9223372036854775807) (hb : b ≤ 9223372036854775807) (hc : c ≤ 9223372036854775807) (hd : d ≤ 9223372036854775807) :
    Calls Tryz.prog 94 #[.int .i64 (a : Int), .int .i64 (b : Int), .int .i64 (c : Int), .int .i64 (d : Int)] w fun e w' => e = .returned (.bool (decide (c * d ≤ a * b))) ∧ w = w' := by
  have HV := Lib.hid (mul_ge (p := a * b) (q := c * d) (M := 18446744073709551616) (by decide))
  have HM1 := Lib.hid (Tryz.bits_Mul64 a b (by omega) (by omega) w)
  have HM2 := Lib.hid (Tryz.bits_Mul64 c d (by omega) (by omega) w)
  obtain ⟨h1, hh1⟩ : ∃ z, z = a * b / 18446744073709551616 := ⟨_, rfl⟩
  obtain ⟨l1, hl1⟩ : ∃ z, z = a * b % 18446744073709551616 := ⟨_, rfl⟩
  obtain ⟨h2, hh2⟩ : ∃ z, z = c * d / 18446744073709551616 := ⟨_, rfl⟩
  obtain ⟨l2, hl2⟩ : ∃ z, z = c * d % 18446744073709551616 := ⟨_, rfl⟩
  rw [← hh1, ← hl1] at HM1
  rw [← hh2, ← hl2] at HM2
  rw [← hh1, ← hl1, ← hh2, ← hl2] at HV
  obtain ⟨rb, hrb⟩ : ∃ z, z = decide (c * d ≤ a * b) := ⟨_, rfl⟩
  rw [← hrb]
  have hval : rb = decide (h2 < h1 ∨ (h2 = h1 ∧ l2 ≤ l1)) := by rw [hrb, decide_eq_decide]; exact HV.out
  have HR := Lib.hid hval
  clear hh1 hl1 hh2 hl2 hrb hval HV
  rcases Nat.lt_trichotomy h2 h1 with q | q | q
  · have qz : (h2 : Int) < (h1 : Int) := by omega
    have HRR := Lib.hid (show rb = true by rw [HR.out]; exact decide_eq_true (.inl q))
    go_enter Tryz.func94, Tryz.ntmps94
    go_wp2_with fail
    (with_reducible refine (HM1.out).mono ?_)
    rintro e w' ⟨rfl, rfl⟩
    go_wp2_with fail
    (with_reducible refine (HM2.out).mono ?_)
    rintro e w' ⟨rfl, rfl⟩
    go_wp2
    go_ret
    exact ⟨by rw [HRR.out]; first | rfl | simp [q], by trivial⟩
  · subst q
    have qz : ¬ (h2 : Int) < (h2 : Int) := by omega
    have HRR := Lib.hid (show rb = decide (l2 ≤ l1) by rw [HR.out, decide_eq_decide]; omega)
    by_cases q2 : l2 ≤ l1
    · have q2z : (l2 : Int) ≤ (l1 : Int) := by omega
      have HR2 := Lib.hid (show rb = true by rw [HRR.out]; exact decide_eq_true q2)
      go_enter Tryz.func94, Tryz.ntmps94
      go_wp2_with fail
      (with_reducible refine (HM1.out).mono ?_)
      rintro e w' ⟨rfl, rfl⟩
      go_wp2_with fail
      (with_reducible refine (HM2.out).mono ?_)
      rintro e w' ⟨rfl, rfl⟩
      go_wp2
      go_ret
      exact ⟨by rw [HR2.out]; first | rfl | simp [q2], by trivial⟩
    · have q2z : ¬ (l2 : Int) ≤ (l1 : Int) := by omega
      have HR2 := Lib.hid (show rb = false by rw [HRR.out]; exact decide_eq_false q2)
      go_enter Tryz.func94, Tryz.ntmps94
      go_wp2_with fail
      (with_reducible refine (HM1.out).mono ?_)
      rintro e w' ⟨rfl, rfl⟩
      go_wp2_with fail
      (with_reducible refine (HM2.out).mono ?_)
      rintro e w' ⟨rfl, rfl⟩
      go_wp2
      go_ret
      exact ⟨by rw [HR2.out]; first | rfl | simp [q2], by trivial⟩
  · have qz : ¬ (h2 : Int) < (h1 : Int) := by omega
    have qe : ((h1 : Int) == (h2 : Int)) = false := by rw [beq_eq_false_iff_ne]; omega
    have qn : (h1 == h2) = false := by rw [beq_eq_false_iff_ne]; omega
    have HR2 := Lib.hid (show rb = false by rw [HR.out]; exact decide_eq_false (by omega))
    go_enter Tryz.func94, Tryz.ntmps94
    go_wp2_with fail
    (with_reducible refine (HM1.out).mono ?_)
    rintro e w' ⟨rfl, rfl⟩
    go_wp2_with fail
    (with_reducible refine (HM2.out).mono ?_)
    rintro e w' ⟨rfl, rfl⟩
    go_wp2
    go_ret
    exact ⟨by rw [HR2.out]; first | rfl | simp [show ¬ h2 < h1 by omega], by trivial⟩
theorem clipAl_any (A : Option Addr) (n c : Nat) (w : World) (hnc : n ≤ c) :
    Calls Tryz.prog 64 #[.slice A n c] w fun e w' => e = .returned (.slice A n n) ∧ w = w' := by
  go_enter Tryz.func64, Tryz.ntmps64
  go_wp2
  go_ret
  exact ⟨rfl, by trivial⟩
end Go.Proofs.YtnpfdelklolchaaGreatDoor

/- slices.SortStableFunc at no alerts. -/
namespace Go.Proofs.YtnpfdelklolchaaGreatDoor
open Go Go.RowKit Go.Proofs

set_option maxHeartbeats 8000000 in
set_option maxRecDepth 100000 in
theorem stIns_nil (w : World) :
    Calls Tryz.prog 109 #[.slice none 0 0, .int .i64 0, .int .i64 0, .func (.func 63) #[] #[]] w fun e w' => e = .returned (.tuple #[]) ∧ Below w.heap.size w w' := by
  go_enter Tryz.func109, Tryz.ntmps109
  go_wp2
  go_loopw [8] (fun iv wr => iv = .int .i64 1 ∧ Below w.heap.size w wr) (fun _ _ => 0)
  case atStart => exact ⟨by go_num, Below.refl _ _⟩
  case round =>
    obtain ⟨rfl, hb⟩ := hrel
    have HB := Lib.hid hb
    clear hb
    go_wp2
    go_end0
    exact ⟨rfl, HB.out⟩
set_option maxHeartbeats 8000000 in
set_option maxRecDepth 100000 in
theorem stStab_nil (w : World) :
    Calls Tryz.prog 95 #[.slice none 0 0, .int .i64 0, .func (.func 63) #[] #[]] w fun e w' => e = .returned (.tuple #[]) ∧ Below w.heap.size w w' := by
  have HI := Lib.hid (fun W => stIns_nil W)
  go_enter Tryz.func95, Tryz.ntmps95
  go_wp2
  go_loopw [7, 8] (fun av bv wr => av = .int .i64 0 ∧ bv = .int .i64 20 ∧ Below w.heap.size w wr) (fun _ _ _ => 0)
  case atStart => exact ⟨rfl, rfl, Below.refl _ _⟩
  case round =>
    obtain ⟨rfl, rfl, hb⟩ := hrel
    have HB := Lib.hid hb
    clear hb
    go_wp2_with fail
    (with_reducible refine (HI.out wr).mono ?_)
    rintro e w2 ⟨rfl, hb2⟩
    have HB2 := Lib.hid (below_next HB.out hb2)
    clear hb2
    go_wp2_with fail
    go_loopw [6] (fun sv wr => sv = .int .i64 20 ∧ Below w.heap.size w wr) (fun _ _ => 0)
    case atStart => exact ⟨rfl, HB2.out⟩
    case round =>
      obtain ⟨rfl, hb⟩ := hrel
      have HB3 := Lib.hid hb
      clear hb
      go_wp2
      go_end0
      exact ⟨rfl, HB3.out⟩
set_option maxHeartbeats 8000000 in
set_option maxRecDepth 100000 in
theorem stSort_nil (w : World) :
    Calls Tryz.prog 62 #[.slice none 0 0, .func (.func 63) #[] #[]] w fun e w' => e = .returned (.tuple #[]) ∧ Below w.heap.size w w' := by
  have HS := Lib.hid (stStab_nil w)
  go_enter Tryz.func62, Tryz.ntmps62
  go_wp2_with fail
  (with_reducible refine (HS.out).mono ?_)
  rintro e w2 ⟨rfl, hb⟩
  have HB := Lib.hid hb
  clear hb
  go_wp2
  go_end0
  exact ⟨rfl, HB.out⟩
end Go.Proofs.YtnpfdelklolchaaGreatDoor

/- judge.window; the window of the reference (in). -/
namespace Go.Proofs.YtnpfdelklolchaaGreatDoor
open Go Go.RowKit Go.Proofs

/-- the sum of a window so far: what is missing yet -/
theorem win_bd {l : List Pt} (ho : OkPts l) (lo : Int) (n : Nat) (hn : n ≤ l.length) : (0 ≤ winS fB l lo n ∧ winS fB l lo n ≤ 2000000000) ∧ (0 ≤ winS fA l lo n ∧ winS fA l lo n ≤ 2000000000) := by
  have h1 := winS_bd (lo := lo) ho.fB n
  have h2 := winS_bd (lo := lo) ho.fA n
  have := ho.le
  omega
set_option maxHeartbeats 8000000 in
set_option maxRecDepth 100000 in
theorem jWindow_any (A : Option Addr) (c : Nat) (l : List Pt) (i : Nat) (t : Int) (p : Pt) (w : World) (hr : Rd w 0 w.heap.size 3 A l.length (al3 l)) (ho : OkPts l) (hp : l[i]? = some p) (t0 : 0 ≤ t) (t1 : t ≤ 1000000000000) :
    Calls Tryz.prog 93 #[.slice A l.length c, .int .i64 (i : Int), .int .i64 t] w fun e w' => e = .returned (.tuple #[.int .i64 (winS fB l (p.1 - t) (i + 1)), .int .i64 (winS fA l (p.1 - t) (i + 1))]) ∧ Below w.heap.size w w' := by
  have hil := (List.getElem?_eq_some_iff.1 hp).1
  obtain ⟨b, o, p', rfl, -, -, hp', q0, -, -⟩ := hr.atP hil
  obtain rfl : p' = p := by rw [hp] at hp'; exact (Option.some.inj hp').symm
  have HR := Lib.hid hr
  have hQ := Lib.hid (fun W (hW : Below w.heap.size w W) => (show W.cell? ⟨b, o + i * 3, none⟩ = some (.int .i64 p'.1) from by
    obtain ⟨b', o', e, _, _, hc⟩ := (hr.old hW).2 (by omega)
    simp only [Option.some.injEq, Addr.mk.injEq, and_true] at e
    obtain ⟨rfl, rfl⟩ := e
    exact hc _ _ (al3_get hp').1))
  have HO := Lib.hid ho
  have HP := Lib.hid hp
  have hok := ho.ok i p' hp
  have hle := ho.le
  unfold OkPt at hok
  obtain ⟨x, hx⟩ : ∃ x, x = p'.1 := ⟨_, rfl⟩
  obtain ⟨lo, hlo⟩ : ∃ z, z = x - t := ⟨_, rfl⟩
  rw [← hx] at q0 hok hQ ⊢
  rw [← hlo]
  have hw1 : IntKind.i64.wrap (x - t) = lo := by rw [hlo]; exact IntWalk.i64_in _ (by omega)
  obtain ⟨tb, htb⟩ : ∃ z, z = winS fB l lo (i + 1) := ⟨_, rfl⟩
  obtain ⟨ta, hta⟩ : ∃ z, z = winS fA l lo (i + 1) := ⟨_, rfl⟩
  have HT := Lib.hid (And.intro htb hta)
  rw [← htb, ← hta]
  clear hr ho hp hp' hx htb hta
  go_enter Tryz.func93, Tryz.ntmps93
  go_wp2_with fail
  go_loopw [6, 7, 8] (fun bv av kv wr => ∃ (n : Nat) (sb sa : Int), bv = .int .i64 sb ∧ av = .int .i64 sa ∧ kv = .int .i64 ((n : Int) - 1) ∧ n ≤ i + 1 ∧ sb + winS fB l lo n = tb ∧ sa + winS fA l lo n = ta ∧ 0 ≤ sb ∧ 0 ≤ sa ∧ Below w.heap.size w wr) (fun _ _ kv _ => (intOf kv + 1).toNat)
  case atStart => exact ⟨i + 1, 0, 0, rfl, rfl, by go_num, Nat.le_refl _, by rw [HT.out.1]; omega, by rw [HT.out.2]; omega, Int.le_refl _, Int.le_refl _, Below.refl _ _⟩
  case round =>
    obtain ⟨n, sb, sa, rfl, rfl, rfl, hn, hb, ha, b0, a0, hbw⟩ := hrel
    have HB := Lib.hid hbw
    obtain ⟨wk, rfl⟩ : ∃ W : World, W = wr := ⟨_, rfl⟩
    have q0k := (hQ.out wk HB.out)
    cases n with
    | zero =>
      have hz : ¬ (0 : Int) ≤ ((0 : Nat) : Int) - 1 := by omega
      have HV1 := Lib.hid (show sb = tb by rw [← hb]; simp [winS])
      have HV2 := Lib.hid (show sa = ta by rw [← ha]; simp [winS])
      clear hb ha
      go_wp2_with fail
      go_quiet (fail)
      go_wp2_with fail
      go_ret2
      exact ⟨by rw [HV1.out, HV2.out]; rfl, below_drewN HB.out _⟩
    | succ n =>
      rw [show ((n + 1 : Nat) : Int) - 1 = (n : Int) by omega]
      have hz : (0 : Int) ≤ (n : Int) := by omega
      have hnl : n < l.length := by omega
      obtain ⟨b', o', q, e1, -, -, hq, r0, r1, r2⟩ := (HR.out.old HB.out).atP hnl
      simp only [Option.some.injEq, Addr.mk.injEq, and_true] at e1
      obtain ⟨rfl, rfl⟩ := e1
      have hqk := HO.out.ok n q hq
      unfold OkPt at hqk
      obtain ⟨qx, qa, qb⟩ := q
      simp only at hqk r0 r1 r2
      have hnz : (n : Int) < (l.length : Int) := by omega
      by_cases hlt : lo < qx
      · have HI := Lib.hid (And.intro (winS_in (f := fB) hq hlt) (winS_in (f := fA) hq hlt))
        rw [HI.out.1] at hb
        rw [HI.out.2] at ha
        have hb : sb + (qb + winS fB l lo n) = tb := hb
        have ha : sa + (qa + winS fA l lo n) = ta := ha
        have hbd := win_bd HO.out lo n (by omega)
        have htt := win_bd HO.out lo (i + 1) (by omega)
        rw [← HT.out.1, ← HT.out.2] at htt
        have hs1 : IntKind.i64.wrap (sb + qb) = sb + qb := IntWalk.i64_in _ (by omega)
        have hs2 : IntKind.i64.wrap (sa + qa) = sa + qa := IntWalk.i64_in _ (by omega)
        have hs3 : IntKind.i64.wrap ((n : Int) - 1) = (n : Int) - 1 := IntWalk.i64_in _ (by omega)
        go_wp2_with fail
        go_quiet (fail)
        go_wp2_with fail
        go_quiet (fail)
        go_wp2
        go_roundw
        case rel => exact ⟨n, sb + qb, sa + qa, rfl, rfl, by go_num, by omega, by omega, by omega, by omega, by omega, below_drewN HB.out _⟩
        case measure => simp [intOf]
      · have HI := Lib.hid (And.intro (winS_out (f := fB) hq hlt) (winS_out (f := fA) hq hlt))
        have HV1 := Lib.hid (show sb = tb by rw [← hb, HI.out.1]; omega)
        have HV2 := Lib.hid (show sa = ta by rw [← ha, HI.out.2]; omega)
        clear hb ha
        go_wp2_with fail
        go_quiet (fail)
        go_wp2_with fail
        go_ret2
        exact ⟨by rw [HV1.out, HV2.out]; rfl, below_drewN HB.out _⟩
end Go.Proofs.YtnpfdelklolchaaGreatDoor
