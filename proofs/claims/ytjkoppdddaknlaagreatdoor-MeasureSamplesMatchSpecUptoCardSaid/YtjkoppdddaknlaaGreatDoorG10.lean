import Derived.Test.YtjkoppdddaknlaaGreatDoorStbRot
import Derived.Test.YtjkoppdddaknlaaGreatDoorIzIns
import Derived.Test.YtjkoppdddaknlaaGreatDoorIzSym
import Derived.Test.YtjkoppdddaknlaaGreatDoorRows
import Derived.WalkKit
import Derived.ProofKit
import Derived.OpenShut
import Derived.JoinedCond
/- Sorted blocks of a list, merged two by two: plain (slices.stable's loops). -/
namespace Go.Proofs.YtjkoppdddaknlaaGreatDoor
section
variable {α : Type} {lt : α → α → Prop}
theorem dv_of {p bs i : Nat} (h1 : bs * i ≤ p) (h2 : p < bs * i + bs) : p / bs = i := by
  have hb : 0 < bs := by omega
  apply Nat.div_eq_of_lt_le
  · rw [Nat.mul_comm]; exact h1
  · rw [Nat.succ_mul, Nat.mul_comm]; exact h2
theorem dv_ge {p bs i : Nat} (hb : 0 < bs) (h : i ≤ p / bs) : bs * i ≤ p := by
  have := (Nat.le_div_iff_mul_le hb).1 h
  rw [Nat.mul_comm]; exact this
/-- each block of bs elements is sorted, up to k -/
def SrtB (lt : α → α → Prop) (l : List α) (bs k : Nat) : Prop := ∀ p q x y, p < q → q < k → p / bs = q / bs → l[p]? = some x → l[q]? = some y → lt x y
theorem SrtB.none (l : List α) (bs : Nat) : SrtB lt l bs 0 := fun p q x y h1 h2 => by omega
theorem SrtB.ins {l l' : List α} {bs i a b : Nat} (hb : 0 < bs) (ha : a = bs * i) (hab : b ≤ a + bs) (h : SrtB lt l bs a) (hp : PermOn l l' a b) (hs : SrtOn lt l' a b) : SrtB lt l' bs b := by
  intro p q x y h1 h2 h3 h4 h5
  rcases Nat.lt_or_ge q a with h6 | h6
  · exact h p q x y h1 h6 h3 (by rw [← hp.out p (.inl (by omega))]; exact h4) (by rw [← hp.out q (.inl h6)]; exact h5)
  · have hq : q / bs = i := dv_of (by omega) (by omega)
    have hpa : a ≤ p := by rw [ha]; exact dv_ge hb (by omega)
    exact hs p q x y hpa h1 h2 h4 h5
theorem SrtB.whole {l : List α} {bs n : Nat} (h : SrtB lt l bs n) (hn : n ≤ bs) : SrtOn lt l 0 n := by
  intro p q x y _ h1 h2 h3 h4
  exact h p q x y h1 h2 (by rw [Nat.div_eq_of_lt (by omega), Nat.div_eq_of_lt (by omega)]) h3 h4
/-- up to a the blocks of twice the size are sorted, behind it those of bs -/
def SrtM (lt : α → α → Prop) (l : List α) (bs a n : Nat) : Prop :=
  (∀ p q x y, p < q → q < a → p / (2 * bs) = q / (2 * bs) → l[p]? = some x → l[q]? = some y → lt x y) ∧
  (∀ p q x y, a ≤ p → p < q → q < n → p / bs = q / bs → l[p]? = some x → l[q]? = some y → lt x y)
theorem SrtM.start {l : List α} {bs n : Nat} (h : SrtB lt l bs n) : SrtM lt l bs 0 n :=
  ⟨fun p q x y h1 h2 => by omega, fun p q x y _ h1 h2 h3 h4 h5 => h p q x y h1 h2 h3 h4 h5⟩
theorem SrtM.left {l : List α} {bs a n i k : Nat} (ha : a = 2 * bs * i) (h : SrtM lt l bs a n) (hk : k ≤ a + bs) (hn : k ≤ n) : SrtOn lt l a k := by
  intro p q x y h1 h2 h3 h4 h5
  have e : a = bs * (2 * i) := by rw [ha, Nat.mul_comm 2 bs, Nat.mul_assoc]
  refine h.2 p q x y h1 h2 (by omega) ?_ h4 h5
  rw [dv_of (i := 2 * i) (by omega) (by omega), dv_of (i := 2 * i) (by omega) (by omega)]
theorem SrtM.right {l : List α} {bs a n i k : Nat} (ha : a = 2 * bs * i) (h : SrtM lt l bs a n) (hk : k ≤ a + bs + bs) (hn : k ≤ n) : SrtOn lt l (a + bs) k := by
  intro p q x y h1 h2 h3 h4 h5
  have e : a + bs = bs * (2 * i + 1) := by rw [ha, Nat.mul_succ, Nat.mul_comm 2 bs, Nat.mul_assoc]
  refine h.2 p q x y (by omega) h2 (by omega) ?_ h4 h5
  rw [dv_of (i := 2 * i + 1) (by omega) (by omega), dv_of (i := 2 * i + 1) (by omega) (by omega)]
theorem SrtM.step {l l' : List α} {bs a n i : Nat} (hb : 0 < bs) (ha : a = 2 * bs * i) (h : SrtM lt l bs a n) (hp : PermOn l l' a (a + 2 * bs)) (hs : SrtOn lt l' a (a + 2 * bs)) : SrtM lt l' bs (a + 2 * bs) n := by
  refine ⟨fun p q x y h1 h2 h3 h4 h5 => ?_, fun p q x y h1 h2 h3 h4 h5 h6 => ?_⟩
  · rcases Nat.lt_or_ge q a with h6 | h6
    · exact h.1 p q x y h1 h6 h3 (by rw [← hp.out p (.inl (by omega))]; exact h4) (by rw [← hp.out q (.inl h6)]; exact h5)
    · have hq : q / (2 * bs) = i := dv_of (by omega) (by omega)
      have hpa : a ≤ p := by rw [ha]; exact dv_ge (by omega) (by omega)
      exact hs p q x y hpa h1 h2 h4 h5
  · exact h.2 p q x y (by omega) h2 h3 h4 (by rw [← hp.out p (.inr h1)]; exact h5) (by rw [← hp.out q (.inr (by omega))]; exact h6)
theorem SrtM.last {l l' : List α} {bs a n i : Nat} (hb : 0 < bs) (ha : a = 2 * bs * i) (hn : n < a + 2 * bs) (h : SrtM lt l bs a n) (hp : PermOn l l' a n) (hs : SrtOn lt l' a n) : SrtB lt l' (2 * bs) n := by
  intro p q x y h1 h2 h3 h4 h5
  rcases Nat.lt_or_ge q a with h6 | h6
  · exact h.1 p q x y h1 h6 h3 (by rw [← hp.out p (.inl (by omega))]; exact h4) (by rw [← hp.out q (.inl h6)]; exact h5)
  · have hq : q / (2 * bs) = i := dv_of (by omega) (by omega)
    have hpa : a ≤ p := by rw [ha]; exact dv_ge (by omega) (by omega)
    exact hs p q x y hpa h1 h2 h4 h5
end
end Go.Proofs.YtjkoppdddaknlaaGreatDoor

/- slices.stableCmpFunc and SortStableFunc at numbers. Printed by gen_ststab.py. -/
namespace Go.Proofs.YtjkoppdddaknlaaGreatDoor
open Go Go.RowKit Go.Proofs

/-- the contract of symMergeCmpFunc at rows as long as this one -/
def IzSymOk (dt : Nat → Int) (nS : Nat) (cap : Value) (g c n : Nat) : Prop := ∀ (a m b : Nat) (l : List Nat) (w : World), l.length = n → RowC dt nS cap w g l → a < m → m < b → b ≤ l.length → OkI dt nS l → SrtOn (ltW dt) l a m → SrtOn (ltW dt) l m b →
  Calls Tryz.prog 68 #[.slice (some ⟨g, 0, none⟩) n c, .int .i64 (a : Int), .int .i64 (m : Int), .int .i64 (b : Int), .func (.func 34) #[] #[cap]] w fun e w' => e = .returned (.tuple #[]) ∧ ∃ l', RowC dt nS cap w' g l' ∧ PrmI dt nS l l' a b ∧ SrtOn (ltW dt) l' a b ∧ Fr (fun q => q = g) w w'
set_option maxHeartbeats 8000000 in
set_option maxRecDepth 100000 in
theorem izStab_any (dt : Nat → Int) (nS : Nat) (cap : Value) (g c n : Nat) (l : List Nat) (w : World) (hsym : IzSymOk dt nS cap g c n) (h : RowC dt nS cap w g l) (hn : l.length = n) (hl : n ≤ 1000000) (hok : OkI dt nS l) :
    Calls Tryz.prog 49 #[.slice (some ⟨g, 0, none⟩) n c, .int .i64 (n : Int), .func (.func 34) #[] #[cap]] w fun e w' => e = .returned (.tuple #[]) ∧ ∃ l', RowC dt nS cap w' g l' ∧ PrmI dt nS l l' 0 n ∧ SrtOn (ltW dt) l' 0 n ∧ Fr (fun q => q = g) w w' := by
  have H0 := Lib.hid h
  have HOK := Lib.hid hok
  have HN := Lib.hid hn
  have HSYM := Lib.hid hsym
  have HINS := Lib.hid (fun (a b : Nat) (l2 : List Nat) (w2 : World) (h1 : l2.length = n) (h2 : RowC dt nS cap w2 g l2) (h3 : a ≤ b) (h4 : b ≤ n) (h5 : OkI dt nS l2) => (show Calls Tryz.prog 67 #[.slice (some ⟨g, 0, none⟩) n c, .int .i64 (a : Int), .int .i64 (b : Int), .func (.func 34) #[] #[cap]] w2 (fun e w' => e = .returned (.tuple #[]) ∧ ∃ l', RowC dt nS cap w' g l' ∧ PrmI dt nS l2 l' a b ∧ SrtOn (ltW dt) l' a b ∧ Fr (fun q => q = g) w2 w') by
    have := izIns_any dt nS cap g c a b l2 w2 h2 h3 (by omega) (by omega) h5
    rw [h1] at this; exact this))
  clear h hok hn hsym
  go_enter Tryz.func49, Tryz.ntmps49
  go_wp2
  go_loopw [7, 8] (fun av bv wr => ∃ (a b i : Nat) (lc : List Nat), av = .int .i64 (a : Int) ∧ bv = .int .i64 (b : Int) ∧ b = a + 20 ∧ a = 20 * i ∧ a ≤ n ∧ PrmI dt nS l lc 0 n ∧ SrtB (ltW dt) lc 20 a ∧ RowC dt nS cap wr g lc ∧ Fr (fun q => q = g) w wr) (fun _ bv _ => n + 21 - (intOf bv).toNat)
  case atStart => exact ⟨0, 20, 0, l, rfl, rfl, rfl, rfl, Nat.zero_le _, PrmI.refl _ _ _, SrtB.none _ _, H0.out, Fr.refl _ _⟩
  case round =>
    obtain ⟨a, b, i, lc, rfl, rfl, hb, ha, han, hp, hs, hrow, hfr⟩ := hrel
    have HB := Lib.hid hb
    have HA := Lib.hid ha
    have HP := Lib.hid hp
    have HS := Lib.hid hs
    have HR := Lib.hid hrow
    have HF := Lib.hid hfr
    have hlc := hp.len
    have HLC := Lib.hid (hlc.trans HN.out)
    have HOK2 := Lib.hid (HOK.out.perm (hp.all (Nat.zero_le _)))
    clear hp hs hrow hfr hlc H0
    by_cases hbn : b ≤ n
    · have hbz : (b : Int) ≤ (n : Int) := by omega
      have HC := Lib.hid (HINS.out a b lc wr HLC.out HR.out (by omega) hbn HOK2.out)
      have hw : IntKind.i64.wrap ((b : Int) + 20) = (b : Int) + 20 := IntWalk.i64_in _ (by omega)
      have HB0 := Lib.hid hb
      have hab : a ≤ b := by omega
      have hba : b ≤ a + 20 := by omega
      clear hb ha
      go_wp2_with fail
      (with_reducible refine (HC.out).mono ?_)
      rintro e w2 ⟨rfl, l2, hr2, hp2, hs2, hf2⟩
      have HR2 := Lib.hid hr2
      have HP2 := Lib.hid (HP.out.trans (hp2.within (by have := HLC.out; omega) (Nat.zero_le _) hab hbn))
      have HS2 := Lib.hid (HS.out.ins (bs := 20) (i := i) (by omega) HA.out hba hp2.toPermOn hs2)
      have HF2 := Lib.hid (HF.out.trans hf2 (fun _ _ h => h))
      clear hr2 hp2 hs2 hf2
      go_wp2
      go_roundw
      case rel => exact ⟨b, b + 20, i + 1, l2, rfl, by go_num, rfl, by have := HB.out; have := HA.out; omega, hbn, HP2.out, HS2.out, HR2.out, HF2.out⟩
      case measure => simp [intOf]; omega
    · have hbz : ¬ (b : Int) ≤ (n : Int) := by omega
      have hba : n ≤ a + 20 := by omega
      have HC := Lib.hid (HINS.out a n lc wr HLC.out HR.out han (Nat.le_refl _) HOK2.out)
      clear hb ha
      go_wp2_with fail
      (with_reducible refine (HC.out).mono ?_)
      rintro e w2 ⟨rfl, l2, hr2, hp2, hs2, hf2⟩
      have HR2 := Lib.hid hr2
      have HP2 := Lib.hid (HP.out.trans (hp2.within (by have := HLC.out; omega) (Nat.zero_le _) han (Nat.le_refl _)))
      have HS2 := Lib.hid (HS.out.ins (bs := 20) (i := i) (by omega) HA.out hba hp2.toPermOn hs2)
      have HF2 := Lib.hid (HF.out.trans hf2 (fun _ _ h => h))
      clear hr2 hp2 hs2 hf2 HR HF HS HP HOK2 HLC
      go_wp2
      go_loopw [6] (fun sv wr => ∃ (bs : Nat) (lc : List Nat), sv = .int .i64 (bs : Int) ∧ 0 < bs ∧ bs ≤ 2 * n + 20 ∧ PrmI dt nS l lc 0 n ∧ SrtB (ltW dt) lc bs n ∧ RowC dt nS cap wr g lc ∧ Fr (fun q => q = g) w wr) (fun sv _ => 2 * n + 20 - (intOf sv).toNat)
      case atStart => exact ⟨20, l2, rfl, by omega, by omega, HP2.out, HS2.out, HR2.out, HF2.out⟩
      case round =>
        obtain ⟨bs, lc, rfl, hbs0, hbs1, hp, hs, hrow, hfr⟩ := hrel
        have HP := Lib.hid hp
        have HS := Lib.hid hs
        have HR := Lib.hid hrow
        have HF := Lib.hid hfr
        clear hp hs hrow hfr HP2 HS2 HR2 HF2
        by_cases hbn2 : bs < n
        · have hbnz : (bs : Int) < (n : Int) := by omega
          obtain ⟨d, hd⟩ : ∃ d, d = 2 * bs := ⟨_, rfl⟩
          have hw2 : IntKind.i64.wrap (2 * (bs : Int)) = (d : Int) := by rw [IntWalk.i64_in _ (by omega)]; omega
          have hw22 : IntKind.i64.wrap ((bs : Int) * 2) = (d : Int) := by rw [IntWalk.i64_in _ (by omega)]; omega
          have HD := Lib.hid hd
          have hbd : bs < d := by omega
          have hdn : d ≤ 2 * n := by omega
          have hd0 : 0 < d := by omega
          clear hd
          go_wp2
          go_loopw [7, 8] (fun av bv wr => ∃ (a b i : Nat) (lc : List Nat), av = .int .i64 (a : Int) ∧ bv = .int .i64 (b : Int) ∧ b = a + d ∧ a = d * i ∧ a ≤ n ∧ PrmI dt nS l lc 0 n ∧ SrtM (ltW dt) lc bs a n ∧ RowC dt nS cap wr g lc ∧ Fr (fun q => q = g) w wr) (fun _ bv _ => n + 1 + d - (intOf bv).toNat)
          case atStart => exact ⟨0, d, 0, lc, rfl, rfl, by omega, rfl, Nat.zero_le _, HP.out, SrtM.start HS.out, HR.out, HF.out⟩
          case round =>
            obtain ⟨a, b, i, l4, rfl, rfl, hb, ha, han, hp, hs, hrow, hfr⟩ := hrel
            have HB4 := Lib.hid hb
            have HA4 := Lib.hid (show a = 2 * bs * i by rw [← HD.out]; exact ha)
            have HA5 := Lib.hid ha
            have HP4 := Lib.hid hp
            have HS4 := Lib.hid hs
            have HR4 := Lib.hid hrow
            have HF4 := Lib.hid hfr
            have hlc := hp.len
            have HLC := Lib.hid (hlc.trans HN.out)
            have HOK2 := Lib.hid (HOK.out.perm (hp.all (Nat.zero_le _)))
            obtain ⟨m, hm⟩ : ∃ m, m = a + bs := ⟨_, rfl⟩
            have hwm : IntKind.i64.wrap ((a : Int) + (bs : Int)) = (m : Int) := by rw [IntWalk.i64_in _ (by omega)]; omega
            have HM := Lib.hid hm
            have ham : a < m := by omega
            clear hp hs hrow hfr hlc HR HF HS HP
            by_cases hbn : b ≤ n
            · have hbz : (b : Int) ≤ (n : Int) := by omega
              have hmb : m < b := by have := HD.out; omega
              have HC := Lib.hid (HSYM.out a m b l4 wr HLC.out HR4.out ham hmb (by have := HLC.out; omega) HOK2.out (HS4.out.left HA4.out (by omega) (by omega)) (by rw [hm]; exact HS4.out.right HA4.out (by have := HD.out; omega) hbn))
              have hw3 : IntKind.i64.wrap ((b : Int) + (d : Int)) = (b : Int) + (d : Int) := IntWalk.i64_in _ (by omega)
              have hab : a ≤ b := by omega
              clear hb ha hm
              go_wp2_with fail
              (with_reducible refine (HC.out).mono ?_)
              rintro e w2 ⟨rfl, l5, hr2, hp2, hs2, hf2⟩
              have HR5 := Lib.hid hr2
              have HP5 := Lib.hid (HP4.out.trans (hp2.within (by have := HLC.out; omega) (Nat.zero_le _) hab hbn))
              have hbe : b = a + 2 * bs := by have := HB4.out; have := HD.out; omega
              have HS5 := Lib.hid (show SrtM (ltW dt) l5 bs b n by rw [hbe] at hp2 hs2 ⊢; exact HS4.out.step hbs0 HA4.out hp2.toPermOn hs2)
              have HF5 := Lib.hid (HF4.out.trans hf2 (fun _ _ h => h))
              clear hr2 hp2 hs2 hf2 hbe
              go_wp2
              go_roundw
              case rel => exact ⟨b, b + d, i + 1, l5, rfl, by go_num, rfl, by rw [HB4.out, Nat.mul_succ, ← HA5.out], hbn, HP5.out, HS5.out, HR5.out, HF5.out⟩
              case measure => simp [intOf]; omega
            · have hbz : ¬ (b : Int) ≤ (n : Int) := by omega
              have hnd : n < a + 2 * bs := by have := HD.out; omega
              by_cases hmn : m < n
              · have hmz : (m : Int) < (n : Int) := by omega
                have HC := Lib.hid (HSYM.out a m n l4 wr HLC.out HR4.out ham hmn (by have := HLC.out; omega) HOK2.out (HS4.out.left HA4.out (by omega) (by omega)) (by rw [hm]; exact HS4.out.right HA4.out (by omega) (Nat.le_refl _)))
                clear hb ha hm
                go_wp2_with fail
                (with_reducible refine (HC.out).mono ?_)
                rintro e w2 ⟨rfl, l5, hr2, hp2, hs2, hf2⟩
                have HR5 := Lib.hid hr2
                have HP5 := Lib.hid (HP4.out.trans (hp2.within (by have := HLC.out; omega) (Nat.zero_le _) han (Nat.le_refl _)))
                have HS5 := Lib.hid (show SrtB (ltW dt) l5 d n by rw [HD.out]; exact HS4.out.last hbs0 HA4.out hnd hp2.toPermOn hs2)
                have HF5 := Lib.hid (HF4.out.trans hf2 (fun _ _ h => h))
                clear hr2 hp2 hs2 hf2
                go_wp2
                go_roundw
                case rel => exact ⟨d, l5, by first | rfl | go_num, hd0, by omega, HP5.out, HS5.out, HR5.out, HF5.out⟩
                case measure => simp [intOf]; omega
              · have hmz : ¬ (m : Int) < (n : Int) := by omega
                have HS5 := Lib.hid (show SrtB (ltW dt) l4 d n by rw [HD.out]; exact HS4.out.last hbs0 HA4.out hnd (PermOn.refl _ _ _) (HS4.out.left HA4.out (by omega) (Nat.le_refl _)))
                clear hb ha hm
                go_wp2
                go_roundw
                case rel => exact ⟨d, l4, by first | rfl | go_num, hd0, by omega, HP4.out, HS5.out, HR4.out, HF4.out⟩
                case measure => simp [intOf]; omega
        · have hbnz : ¬ (bs : Int) < (n : Int) := by omega
          have HSS := Lib.hid (HS.out.whole (by omega))
          go_wp2
          go_end0
          exact ⟨rfl, lc, HR.out, HP.out, HSS.out, HF.out⟩
set_option maxHeartbeats 1000000 in
set_option maxRecDepth 100000 in
theorem izSort_any (dt : Nat → Int) (nS : Nat) (cap : Value) (g c n : Nat) (l : List Nat) (w : World) (hsym : IzSymOk dt nS cap g c n) (h : RowC dt nS cap w g l) (hn : l.length = n) (hl : n ≤ 1000000) (hok : OkI dt nS l) :
    Calls Tryz.prog 33 #[.slice (some ⟨g, 0, none⟩) n c, .func (.func 34) #[] #[cap]] w fun e w' => e = .returned (.tuple #[]) ∧ ∃ l', RowC dt nS cap w' g l' ∧ PrmI dt nS l l' 0 n ∧ SrtOn (ltW dt) l' 0 n ∧ Fr (fun q => q = g) w w' := by
  have HS := Lib.hid (izStab_any dt nS cap g c n l w hsym h hn hl hok)
  clear h hn hok hsym
  go_enter Tryz.func33, Tryz.ntmps33
  go_wp2_with fail
  (with_reducible refine (HS.out).mono ?_)
  rintro e w2 ⟨rfl, l2, hr2, hp2, hs2, hf2⟩
  have HR2 := Lib.hid hr2
  have HP2 := Lib.hid hp2
  have HS2 := Lib.hid hs2
  have HF2 := Lib.hid hf2
  clear hr2 hp2 hs2 hf2
  go_wp2
  go_end0
  exact ⟨rfl, l2, HR2.out, HP2.out, HS2.out, HF2.out⟩
end Go.Proofs.YtjkoppdddaknlaaGreatDoor

/- slices.SortStableFunc at numbers, whole. -/
namespace Go.Proofs.YtjkoppdddaknlaaGreatDoor
open Go Go.RowKit Go.Proofs

theorem izSymOk (dt : Nat → Int) (nS : Nat) (cap : Value) (g c n : Nat) (hn : n ≤ 1000000) : IzSymOk dt nS cap g c n := by
  intro a m b l w h1 h2 h3 h4 h5 h6 h7 h8
  have := izSym_any dt nS cap g c (b - a) a m b l w (Nat.le_refl _) h2 h3 h4 h5 (by omega) h6 h7 h8
  rw [h1] at this
  exact this
/-- the sorted list: a permutation, each pair in order -/
theorem izSort_all (dt : Nat → Int) (nS : Nat) (cap : Value) (g c n : Nat) (l : List Nat) (w : World) (h : RowC dt nS cap w g l) (hn : l.length = n) (hl : n ≤ 1000000) (hok : OkI dt nS l) :
    Calls Tryz.prog 33 #[.slice (some ⟨g, 0, none⟩) n c, .func (.func 34) #[] #[cap]] w fun e w' => e = .returned (.tuple #[]) ∧ ∃ l', RowC dt nS cap w' g l' ∧ l.Perm l' ∧ SrtOn (ltW dt) l' 0 n ∧ Fr (fun q => q = g) w w' :=
  (izSort_any dt nS cap g c n l w (izSymOk dt nS cap g c n hl) h hn hl hok).mono fun e w' ⟨he, l', h1, h2, h3, h4⟩ => ⟨he, l', h1, h2.toPermOn.all (Nat.zero_le _), h3, h4⟩
end Go.Proofs.YtjkoppdddaknlaaGreatDoor

/- The last step of every law: what was read before the call reads the same behind it, because nothing that was there has turned. -/
namespace Go.Proofs.YtjkoppdddaknlaaGreatDoor
open Go Go.ChangeShapes Go.WideShapes Go.ChangeAt Go.RowKit

theorem own : ownKnob Tryz.prog.godebug = none := by kernel_rfl
theorem laidOut : laidOutB Tryz.prog = true := by kernel_rfl

theorem trodAll_below {H : Type} {enc : TypeId × Value → H} {P : Program} (hl : laidOutB P = true) {W W' : World} (hb : Below W.heap.size W W') :
    ∀ (ts : List TypeId) (vs : List Value) (ds : List (DataW H)) (ps : List MemPlace), (∀ t ∈ ts, P.readableRec t = true ∧ t < P.types.size) → (∀ x ∈ ps, x.block < W.heap.size) →
    DataW.TrodAll enc P W 0 (fun _ => true) true ts vs ds ps → DataW.TrodAll enc P W' 0 (fun b => decide (b < W.heap.size)) true ts vs ds ps := by
  intro ts
  induction ts with
  | nil =>
    intro vs ds ps _ _ h
    obtain ⟨rfl, rfl, rfl⟩ := trodAll_nil h
    exact trodAll_mk0
  | cons t ts ih =>
    intro vs ds ps ht hp h
    obtain ⟨v, vs', d, ds', p, q, rfl, rfl, rfl, h1, h2⟩ := trodAll_cons h
    have ht1 := ht t (by simp)
    exact trodAll_cons_mk (Below.trod hl ht1.1 ht1.2 h1 hb (fun x hx => hp x (by simp [hx]))) (ih vs' ds' q (fun t' h' => ht t' (by simp [h'])) (fun x hx => hp x (by simp [hx])) h2)

/-- a law's post, out of 'nothing that was there has turned' -/
theorem law_post {H : Type} {enc : TypeId × Value → H} {P : Program} (hl : laidOutB P = true) {f : Func} {s : ChangeSpec} {W W' : World} {args : Array Value} {ds gs : List (DataW H)} {before : List MemPlace} {tb : TypeId}
    (hW : DataW.Whole enc P f.params.toList s.vars false W args.toList ds gs before) (hv : s.vars = []) (hfn : s.fn H (ds ++ gs) = { results := [.lit (.bool true)], args := ds })
    (hts : ∀ t ∈ f.params.toList, P.readableRec t = true ∧ t < P.types.size) (hres : f.resultTypes = #[tb]) (htb : P.underlying tb = some .bool) (hb : Below W.heap.size W W') :
    s.post enc P f false true false false W args (.bool true) W' := by
  have hlt : ∀ p ∈ before, p.block < W.heap.size := fun p hp => hW.lt p hp
  obtain ⟨p, q, hA, hV, rfl, hfz, hnd⟩ := id hW
  have hV0 := hV
  rw [hv] at hV
  obtain ⟨rfl, rfl⟩ := trodVars_none hV
  refine ⟨ds, [], p ++ [], [], p, [], hW, ?_, ?_, ?_, hb.frame _, fun h => by cases h⟩
  · rw [hfn, hres]
    exact trodAll_mk1 (shut_bool htb true)
  · rw [hfn]
    exact trodAll_below hl hb _ _ _ _ hts (fun x hx => hlt x (by simp [hx])) hA
  · rw [hfn, hv]
    rfl
end Go.Proofs.YtjkoppdddaknlaaGreatDoor
