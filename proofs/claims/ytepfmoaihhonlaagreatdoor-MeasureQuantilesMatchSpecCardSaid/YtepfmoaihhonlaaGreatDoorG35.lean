import Derived.Test.YtepfmoaihhonlaaGreatDoorLoadMath
import Derived.Test.YtepfmoaihhonlaaGreatDoorG10
import Derived.Test.YtepfmoaihhonlaaGreatDoorRows
import Derived.Test.YtepfmoaihhonlaaGreatDoorProg
import Derived.Handy
import Derived.WalkSpells
import Derived.WalkLawsBesides
import Derived.Deep.QuietTactic
import Derived.BigQuiet
import Derived.Test.YtepfmoaihhonlaaGreatDoorNatDivK
/- Package load: stages in memory; Check, length. -/
namespace Go.Proofs.YtepfmoaihhonlaaGreatDoor
open Go Go.RowKit Go.Proofs

/-- stages as cells -/
def cells3 : List (Int × Int × Int) → List Value
  | [] => []
  | s :: r => .int .i64 s.1 :: .int .i64 s.2.1 :: .int .i64 s.2.2 :: cells3 r
theorem cells3_length : ∀ l : List (Int × Int × Int), (cells3 l).length = l.length * 3
  | [] => rfl
  | s :: r => by simp [cells3, cells3_length r]; omega
theorem cells3_get {l : List (Int × Int × Int)} {i : Nat} {s : Int × Int × Int} (h : l[i]? = some s) : (cells3 l)[i * 3]? = some (.int .i64 s.1) ∧ (cells3 l)[i * 3 + 1]? = some (.int .i64 s.2.1) ∧ (cells3 l)[i * 3 + 2]? = some (.int .i64 s.2.2) := by
  induction l generalizing i with
  | nil => simp at h
  | cons c l ih =>
    rcases i with _ | i
    · simp at h; subst h; simp [cells3]
    · have := ih (i := i) (by simpa using h)
      have e1 : (i + 1) * 3 = i * 3 + 1 + 1 + 1 := by omega
      rw [e1]
      simpa [cells3] using this
theorem Rd.at3 {w : World} {L B n i : Nat} {A : Option Addr} {l : List (Int × Int × Int)} (h : Rd w L B 3 A n (cells3 l)) (hi : i < n) :
    ∃ b o F x y, A = some ⟨b, o, none⟩ ∧ L ≤ b ∧ b < B ∧ l[i]? = some (F, x, y) ∧ w.cell? ⟨b, o + i * 3, none⟩ = some (.int .i64 F) ∧ w.cell? ⟨b, o + i * 3 + 1, none⟩ = some (.int .i64 x) ∧ w.cell? ⟨b, o + i * 3 + 2, none⟩ = some (.int .i64 y) := by
  obtain ⟨b, o, e, hl, hb, hc⟩ := h.2 (by omega)
  have hlen : l.length = n := by have := h.1; rw [cells3_length] at this; omega
  obtain ⟨⟨F, x, y⟩, hx⟩ : ∃ p, l[i]? = some p := ⟨l[i]'(by omega), List.getElem?_eq_getElem (by omega)⟩
  have hg := cells3_get hx
  exact ⟨b, o, F, x, y, e, hl, hb, hx, hc _ _ hg.1, by have := hc _ _ hg.2.1; rwa [← Nat.add_assoc] at this, by have := hc _ _ hg.2.2; rwa [← Nat.add_assoc] at this⟩
/-- a stage within the limits -/
def OkS (s : Int × Int × Int) : Prop := 1 ≤ s.1 ∧ s.1 ≤ 100000000000 ∧ 0 ≤ s.2.1 ∧ s.2.1 ≤ 1000000000 ∧ 0 ≤ s.2.2 ∧ s.2.2 ≤ 1000000000
instance (s : Int × Int × Int) : Decidable (OkS s) := inferInstanceAs (Decidable (_ ∧ _))
def lenS (l : List (Int × Int × Int)) : Int := (l.map (·.1)).sum
theorem lenS_take {l : List (Int × Int × Int)} {i : Nat} {s : Int × Int × Int} (h : l[i]? = some s) : lenS (l.take (i + 1)) = lenS (l.take i) + s.1 := by
  rw [List.take_add_one, h]; simp [lenS]
theorem lenS_bd {l : List (Int × Int × Int)} (h : ∀ s ∈ l, OkS s) : l.length ≤ lenS l ∧ lenS l ≤ l.length * 100000000000 := by
  induction l with
  | nil => simp [lenS]
  | cons c l ih =>
    have := ih (fun x hx => h x (by simp [hx]))
    have h1 := h c (by simp)
    unfold OkS at h1
    simp only [lenS, List.map_cons, List.sum_cons, List.length_cons] at *
    omega
/-- what Check returns -/
def codeS (l : List (Int × Int × Int)) : Int := if l.length = 0 then 13 else if 50 < l.length then 3 else if ∀ s ∈ l, OkS s then (if 1000000000000 < lenS l then 3 else 0) else 9
/-- a line that Check accepts -/
structure OkL (l : List (Int × Int × Int)) : Prop where
  ne : 0 < l.length
  le : l.length ≤ 50
  ok : ∀ s ∈ l, OkS s
  sum : lenS l ≤ 1000000000000
theorem codeS_ok {l : List (Int × Int × Int)} (h : codeS l = 0) : OkL l := by
  unfold codeS at h
  split at h
  · omega
  · split at h
    · omega
    · split at h
      · rename_i h3
        split at h
        · omega
        · exact ⟨by omega, by omega, h3, by omega⟩
      · omega
theorem OkL.code {l : List (Int × Int × Int)} (h : OkL l) : codeS l = 0 := by
  have h1 := h.ne; have h2 := h.le; have h3 := h.sum
  unfold codeS
  rw [if_neg (by omega), if_neg (by omega), if_pos h.ok, if_neg (by omega)]

set_option maxHeartbeats 1000000 in
theorem loadLength_any (A : Option Addr) (c : Nat) (l : List (Int × Int × Int)) (w : World) (hr : Rd w 0 w.heap.size 3 A l.length (cells3 l)) (hl : l.length ≤ 1000) (hok : ∀ s ∈ l, OkS s) :
    Calls Tryz.prog 55 #[.slice A l.length c] w fun e w' => e = .returned (.int .i64 (lenS l)) ∧ Below w.heap.size w w' := by
  have HR := Lib.hid hr
  have HC := Lib.hid hok
  clear hr hok
  go_enter Tryz.func55, Tryz.ntmps55
  go_wp2
  go_loopw [3, 5, 8] (fun s _ i wr => ∃ k : Nat, k ≤ l.length ∧ i = .int .i64 k ∧ s = .int .i64 (lenS (l.take k)) ∧ Below w.heap.size w wr) (fun _ _ i _ => l.length - (intOf i).toNat)
  case atStart => exact ⟨0, Nat.zero_le _, rfl, by simp [lenS], Below.refl _ w⟩
  case round =>
    obtain ⟨k, hk, rfl, rfl, hbw⟩ := hrel
    have hsz := hbw.size
    by_cases hlt : k < l.length
    · obtain ⟨bk, o, F, x, y, rfl, _, hbk, hx, c0, c1, c2⟩ := (HR.out.below hbw (Nat.le_refl _)).at3 hlt
      have ht := lenS_take hx
      have hb1 := lenS_bd (l := l.take k) (fun c hc => HC.out c (List.mem_of_mem_take hc))
      have hm := HC.out _ (List.mem_of_getElem? hx)
      unfold OkS at hm
      simp only [List.length_take] at hb1 hm
      have HT := Lib.hid ht
      clear ht hx
      go_wp2
      go_roundw
      case rel => exact ⟨k + 1, by omega, by go_num, by rw [HT.out], hbw.alloc (by omega) _⟩
      case measure => simp [intOf]; omega
    · go_wp2
      go_ret
      exact ⟨by rw [List.take_of_length_le (by omega)]; rfl, hbw⟩

set_option maxHeartbeats 2000000 in
set_option maxRecDepth 100000 in
theorem loadCheck_any (A : Option Addr) (c : Nat) (l : List (Int × Int × Int)) (w : World) (hr : Rd w 0 w.heap.size 3 A l.length (cells3 l)) (hl : l.length ≤ 9223372036854775807) :
    Calls Tryz.prog 8 #[.slice A l.length c] w fun e w' => e = .returned (.int .i64 (codeS l)) ∧ Below w.heap.size w w' := by
  have HR := Lib.hid hr
  clear hr
  by_cases h0 : l.length = 0
  · have HE := Lib.hid (show codeS l = 13 by unfold codeS; rw [if_pos h0])
    have t0 : ((l.length : Int) == 0) = true := by rw [h0]; rfl
    have HL0 := Lib.hid h0
    clear h0
    go_enter Tryz.func8, Tryz.ntmps8
    go_wp2
    go_ret
    exact ⟨by rw [HE.out]; rfl, Below.refl _ _⟩
  · have t0 : ((l.length : Int) == 0) = false := by simp; intro h; exact h0 (by rw [h]; rfl)
    by_cases h1 : 50 < l.length
    · have HE := Lib.hid (show codeS l = 3 by unfold codeS; rw [if_neg h0, if_pos h1])
      go_enter Tryz.func8, Tryz.ntmps8
      go_wp2
      go_ret
      exact ⟨by rw [HE.out]; rfl, Below.refl _ _⟩
    · have HE := Lib.hid (show codeS l = if ∀ s ∈ l, OkS s then (if 1000000000000 < lenS l then 3 else 0) else 9 by unfold codeS; rw [if_neg h0, if_neg h1])
      go_enter Tryz.func8, Tryz.ntmps8
      go_wp2
      go_loopw [4, 15] (fun _ i wr => ∃ k : Nat, k ≤ l.length ∧ i = .int .i64 k ∧ (∀ s ∈ l.take k, OkS s) ∧ Below w.heap.size w wr) (fun _ i _ => l.length - (intOf i).toNat)
      case atStart => exact ⟨0, Nat.zero_le _, rfl, by simp, Below.refl _ w⟩
      case round =>
        obtain ⟨k, hk, rfl, hok, hbw⟩ := hrel
        have hsz := hbw.size
        have HOK := Lib.hid hok
        clear hok
        by_cases hlt : k < l.length
        · obtain ⟨bk, o, F, x, y, rfl, _, hbk, hx, c0, c1, c2⟩ := (HR.out.below hbw (Nat.le_refl _)).at3 hlt
          by_cases hm : OkS (F, x, y)
          · have HN := Lib.hid (show ∀ s ∈ l.take (k + 1), OkS s by
              rw [List.take_add_one, hx]
              intro s hs
              rcases List.mem_append.1 hs with h | h
              · exact HOK.out s h
              · simp at h; rw [h]; exact hm)
            unfold OkS at hm
            simp only at hm
            obtain ⟨m1, m2, m3, m4, m5, m6⟩ := hm
            clear hx
            go_wp2
            go_roundw
            case rel => exact ⟨k + 1, by omega, by go_num, HN.out, hbw.alloc (by omega) _⟩
            case measure => simp [intOf]; omega
          · have HB := Lib.hid (show codeS l = 9 by
              rw [HE.out, if_neg]
              intro h
              exact hm (h _ (List.mem_of_getElem? hx)))
            have HM := Lib.hid hm
            clear hx hm
            have hb2 : Below w.heap.size w (wr.alloc (.cells #[.int .i64 F, .int .i64 x, .int .i64 y] 86)) := hbw.alloc (by omega) _
            have HB2 := Lib.hid hb2
            clear hb2
            go_wp2
            all_goals first
              | (go_ret; exact ⟨by rw [HB.out]; rfl, HB2.out⟩)
              | (exfalso; refine HM.out ⟨?_, ?_, ?_, ?_, ?_, ?_⟩ <;> dsimp only <;> omega)
        · have hall : ∀ s ∈ l, OkS s := by
            have := HOK.out
            rwa [List.take_of_length_le (by omega)] at this
          have HC := Lib.hid (loadLength_any A c l wr (HR.out.old hbw) (by omega) hall)
          have HE2 := Lib.hid (show codeS l = if 1000000000000 < lenS l then 3 else 0 by rw [HE.out, if_pos hall])
          have hbd := lenS_bd hall
          obtain ⟨S, hS⟩ : ∃ S, S = lenS l := ⟨_, rfl⟩
          rw [← hS] at HC HE2 hbd
          clear hS hall
          by_cases hS : 1000000000000 < S
          · rw [if_pos hS] at HE2
            go_wp2_with fail
            refine HC.out.mono ?_
            rintro e w' ⟨rfl, hb2⟩
            go_wp2
            go_ret
            exact ⟨by rw [HE2.out]; rfl, hbw.trans (hb2.mono hsz)⟩
          · rw [if_neg hS] at HE2
            have t5 : decide (1000000000000 < S) = false := by simpa using hS
            go_wp2_with fail
            refine HC.out.mono ?_
            rintro e w' ⟨rfl, hb2⟩
            go_wp2
            go_ret
            exact ⟨by rw [HE2.out]; rfl, hbw.trans (hb2.mono hsz)⟩
end Go.Proofs.YtepfmoaihhonlaaGreatDoor

/- nat.Int; package load: product, stageAt. -/
namespace Go.Proofs.YtepfmoaihhonlaaGreatDoor
open Go Go.RowKit Go.Proofs

set_option maxHeartbeats 1000000 in
set_option maxRecDepth 100000 in
theorem natInt_any (A : Option Addr) (c : Nat) (l : List Nat) (x : Nat) (w : World) (h : NatR w A c l x) (hs : l.length ≤ 1000000) (hx : x < 9223372036854775808) :
    Calls Tryz.prog 178 #[.slice A l.length c] w fun e w' => e = .returned (.tuple #[.int .i64 (x : Int), .bool true]) ∧ w = w' := by
  match l, h, hs with
  | [], h, _ =>
    have HX := Lib.hid (show x = 0 by have := h.val; simp [val] at this; exact this.symm)
    clear h
    go_enter Tryz.func178, Tryz.ntmps178
    go_wp2
    go_ret2
    exact ⟨by rw [HX.out]; rfl, rfl⟩
  | [d], h, _ =>
    obtain rfl : x = d := by have := h.val; simp [val] at this; exact this.symm
    obtain ⟨b, o, u, rfl, hb, hu, qd⟩ := h.rd.at1 (show 0 < [x].length by simp)
    obtain ⟨d', hd', rfl⟩ := u64s_get hu
    obtain rfl : x = d' := by simpa using hd'
    rw [Nat.add_zero] at qd
    have t1 : decide (9223372036854775808 ≤ (x : Int)) = false := by simp; omega
    clear h hu hd'
    go_enter Tryz.func178, Tryz.ntmps178
    go_wp2
    go_ret2
    exact ⟨rfl, rfl⟩
  | a :: b :: r, h, _ =>
    exfalso
    have h1 := val_ge W64_pos h.norm (by simp)
    rw [h.val] at h1
    have h2 : W64 ^ 1 ≤ W64 ^ ((a :: b :: r).length - 1) := Nat.pow_le_pow_right (by unfold W64; omega) (by simp)
    rw [Nat.pow_one] at h2
    unfold W64 at h1 h2
    omega

/-- the product -/
def prodN : List Int → Nat
  | [] => 1
  | z :: r => z.toNat * prodN r
theorem prodN_append : ∀ a b : List Int, prodN (a ++ b) = prodN a * prodN b
  | [], b => by simp [prodN]
  | z :: a, b => by simp [prodN, prodN_append a b, Nat.mul_assoc]
theorem prodN_take {zs : List Int} {k : Nat} {z : Int} (h : zs[k]? = some z) : prodN (zs.take (k + 1)) = prodN (zs.take k) * z.toNat := by
  rw [List.take_add_one, h, prodN_append]; simp [prodN]
theorem prodN_le : ∀ {zs : List Int}, (∀ z ∈ zs, z ≤ 9223372036854775807) → prodN zs ≤ W64 ^ zs.length
  | [], _ => by simp [prodN]
  | z :: r, h => by
    have ih := prodN_le (zs := r) (fun x hx => h x (by simp [hx]))
    have hz := h z (by simp)
    simp only [prodN, List.length_cons, Nat.pow_succ]
    rw [Nat.mul_comm]
    exact Nat.mul_le_mul ih (by unfold W64; omega)

set_option maxHeartbeats 1000000 in
set_option maxRecDepth 100000 in
theorem product_any (A : Option Addr) (c : Nat) (zs : List Int) (w : World) (hr : Rd w 0 w.heap.size 1 A zs.length (ints zs)) (hn : zs.length ≤ 1000) (hz : ∀ z ∈ zs, z ≤ 9223372036854775807) :
    Calls Tryz.prog 60 #[.slice A zs.length c] w (NatPost (prodN zs) w) := by
  have HR := Lib.hid hr
  have HZ := Lib.hid hz
  have HO1 := Lib.hid (fun W => natOf_any 1 W (by omega))
  clear hr hz
  go_enter Tryz.func60, Tryz.ntmps60
  go_wp2_with fail
  refine (HO1.out _).mono ?_
  rintro e w1 ⟨A1, c1, l1, rfl, hn1, hb1⟩
  have HN1 := Lib.hid hn1
  have HB1 := Lib.hid hb1
  clear hn1 hb1
  go_wp2_with fail
  go_loopw [3, 5, 9] (fun out _ i wr => ∃ (k : Nat) (A1 : Option Addr) (c1 : Nat) (l1 : List Nat), k ≤ zs.length ∧ i = .int .i64 k ∧ out = .slice A1 l1.length c1 ∧ NatR wr A1 c1 l1 (prodN (zs.take k)) ∧ Below w.heap.size w wr) (fun _ _ i _ => zs.length - (intOf i).toNat)
  case atStart => exact ⟨0, A1, c1, l1, Nat.zero_le _, rfl, rfl, HN1.out, HB1.out⟩
  case round =>
    obtain ⟨k, A2, c2, l2, hk, rfl, rfl, hn2, hbw⟩ := hrel
    by_cases hlt : k < zs.length
    · obtain ⟨b, o, u, rfl, hb, hu, q⟩ := (HR.out.below hbw (Nat.le_refl _)).at1 hlt
      obtain ⟨z, hz, rfl⟩ := ints_get hu
      have hzb := HZ.out z (List.mem_of_getElem? hz)
      have hl2 : l2.length ≤ k + 1 := by
        refine len_of_lt hn2.norm hn2.val ?_
        have h1 := prodN_le (zs := zs.take k) (fun x hx => HZ.out x (List.mem_of_mem_take hx))
        have h2 : (zs.take k).length = k := by simp; omega
        rw [h2] at h1
        have h3 : W64 ^ k < W64 ^ (k + 1) := Nat.pow_lt_pow_right W64_pos (by omega)
        omega
      have HP := Lib.hid (prodN_take hz)
      have HN2 := Lib.hid hn2
      have HBW := Lib.hid hbw
      have HOF := Lib.hid (fun W => natOf_any z W hzb)
      have HMU := Lib.hid (fun W (hb : Below wr.heap.size wr W) A3 c3 l3 (h3 : NatR W A3 c3 l3 z.toNat) => natMul_any A2 A3 c2 c3 l2 l3 (prodN (zs.take k)) z.toNat W (HN2.out.on hb) h3 (by omega) (by
        have := len_of_lt (n := 1) h3.norm h3.val (by rw [Nat.pow_one]; unfold W64; omega)
        omega))
      clear hu hz hn2 hbw
      go_wp2_with fail
      refine (HOF.out _).mono ?_
      rintro e w2 ⟨A3, c3, l3, rfl, hn3, hb3⟩
      have HM := Lib.hid (HMU.out w2 hb3 A3 c3 l3 hn3)
      have HB3 := Lib.hid hb3
      clear hn3 hb3
      go_wp2_with fail
      refine HM.out.mono ?_
      rintro e w3 ⟨A4, c4, l4, rfl, hn4, hb4⟩
      have HN4 := Lib.hid hn4
      have HB4 := Lib.hid (HBW.out.trans ((below_next HB3.out hb4).mono HBW.out.size))
      clear hn4 hb4
      go_wp2
      go_roundw
      case rel => exact ⟨k + 1, A4, c4, l4, by omega, by go_num, rfl, by rw [HP.out]; exact HN4.out, HB4.out⟩
      case measure => simp [intOf]; omega
    · have hE : zs.take k = zs := List.take_of_length_le (by omega)
      rw [hE] at hn2
      have HN2 := Lib.hid hn2
      have HBW := Lib.hid hbw
      clear hn2 hbw hE
      go_wp2
      go_ret
      exact ⟨_, _, _, rfl, HN2.out, HBW.out⟩

/-- as a stage -/
def toStg (s : Int × Int × Int) : Stg := ⟨s.1.toNat, s.2.1.toNat, s.2.2.toNat⟩
def stgs (l : List (Int × Int × Int)) : List Stg := l.map toStg
/-- the number of the stage at a time, and how far the time is in it -/
def stIx : List Stg → Nat → Nat × Nat
  | [], t => (0, t)
  | [_], t => (0, t)
  | s :: s' :: r, t => if t < s.F then (0, t) else ((stIx (s' :: r) (t - s.F)).1 + 1, (stIx (s' :: r) (t - s.F)).2)
def sumP (l : List Stg) : Nat := (l.map Stg.parts).sum
theorem loc_stIx : ∀ (l : List Stg) (ah t : Nat), l ≠ [] → ∃ s, l[(stIx l t).1]? = some s ∧ loc ah l t = (ah + sumP (l.take (stIx l t).1), s, min (stIx l t).2 s.F)
  | [], _, _, h => absurd rfl h
  | [s], ah, t, _ => ⟨s, rfl, by simp [stIx, loc, sumP]⟩
  | s :: s' :: r, ah, t, _ => by
    unfold stIx loc
    split
    · rename_i h
      exact ⟨s, rfl, by simp [sumP]; omega⟩
    · obtain ⟨s2, h1, h2⟩ := loc_stIx (s' :: r) (ah + s.parts) (t - s.F) (by simp)
      refine ⟨s2, by simpa using h1, ?_⟩
      rw [h2]
      simp [sumP, Nat.add_assoc]
theorem stIx_step {s s' : Stg} {r : List Stg} {t : Nat} (h : s.F ≤ t) : stIx (s :: s' :: r) t = ((stIx (s' :: r) (t - s.F)).1 + 1, (stIx (s' :: r) (t - s.F)).2) := by
  rw [stIx, if_neg (by omega)]

set_option maxHeartbeats 1000000 in
set_option maxRecDepth 100000 in
theorem stageAt_any (A : Option Addr) (c : Nat) (l : List (Int × Int × Int)) (t : Nat) (w : World) (hr : Rd w 0 w.heap.size 3 A l.length (cells3 l)) (hl : OkL l) (ht : t ≤ 9223372036854775807) :
    Calls Tryz.prog 59 #[.slice A l.length c, .int .i64 t] w fun e w' => e = .returned (.tuple #[.int .i64 (((stIx (stgs l) t).1 : Nat) : Int), .int .i64 (((stIx (stgs l) t).2 : Nat) : Int)]) ∧ w = w' := by
  have HR := Lib.hid hr
  have HOK := Lib.hid hl.ok
  have hne := hl.ne
  have hle := hl.le
  have hsl : (stgs l).length = l.length := by simp [stgs]
  have HSL := Lib.hid hsl
  clear hr hl hsl
  go_enter Tryz.func59, Tryz.ntmps59
  go_wp2_with fail
  go_loop [1, 4] (fun tv iv => ∃ i t' : Nat, tv = .int .i64 t' ∧ iv = .int .i64 i ∧ i < l.length ∧ t' ≤ t ∧ stIx (stgs l) t = (i + (stIx ((stgs l).drop i) t').1, (stIx ((stgs l).drop i) t').2)) (fun _ iv => l.length - (intOf iv).toNat)
  case atStart => exact ⟨0, t, rfl, rfl, hne, Nat.le_refl _, by simp⟩
  case round =>
    obtain ⟨i, t', rfl, rfl, hi, ht', heq⟩ := hrel
    have HEQ := Lib.hid heq
    clear heq
    obtain ⟨b, o, F, x, y, rfl, _, hb, hx, c0, c1, c2⟩ := HR.out.at3 hi
    have hF := HOK.out _ (List.mem_of_getElem? hx)
    unfold OkS at hF
    simp only at hF
    obtain ⟨f1, f2, _, _, _, _⟩ := hF
    have HD := Lib.hid (show (stgs l).drop i = toStg (F, x, y) :: (stgs l).drop (i + 1) by
      have h1 : (stgs l)[i]? = some (toStg (F, x, y)) := by unfold stgs; rw [List.getElem?_map, hx]; rfl
      have e := List.getElem?_eq_some_iff.1 h1
      rw [List.drop_eq_getElem_cons e.1, e.2])
    clear hx
    by_cases hlast : i + 1 < l.length
    · have t1 : decide ((i : Int) < (l.length : Int) - 1) = true := by simp; omega
      obtain ⟨s', r', HD'⟩ : ∃ s' r', Hid ((stgs l).drop (i + 1) = s' :: r') := by
        have h1 : i + 1 < (stgs l).length := by rw [HSL.out]; exact hlast
        exact ⟨_, _, Lib.hid (List.drop_eq_getElem_cons h1)⟩
      by_cases hge : F ≤ (t' : Int)
      · have HN := Lib.hid (show stIx (stgs l) t = (i + 1 + (stIx ((stgs l).drop (i + 1)) (t' - F.toNat)).1, (stIx ((stgs l).drop (i + 1)) (t' - F.toNat)).2) by
          rw [HEQ.out, HD.out, HD'.out, stIx_step (by simp [toStg]; omega)]
          simp only [toStg]
          congr 1
          omega)
        go_wp2
        go_round
        case rel => exact ⟨i + 1, t' - F.toNat, by go_num, by go_num, by omega, by omega, HN.out⟩
        case measure => simp [intOf]; omega
      · have HN := Lib.hid (show stIx (stgs l) t = (i, t') by
          rw [HEQ.out, HD.out, HD'.out, stIx, if_pos (by simp [toStg]; omega)]; rfl)
        go_wp2
        go_ret2
        exact ⟨by rw [HN.out]; rfl, rfl⟩
    · have t1 : decide ((i : Int) < (l.length : Int) - 1) = false := by simp; omega
      have HN := Lib.hid (show stIx (stgs l) t = (i, t') by
        rw [HEQ.out, HD.out, List.drop_eq_nil_of_le (by rw [HSL.out]; omega)]; rfl)
      go_wp2
      go_ret2
      exact ⟨by rw [HN.out]; rfl, rfl⟩
end Go.Proofs.YtepfmoaihhonlaaGreatDoor
