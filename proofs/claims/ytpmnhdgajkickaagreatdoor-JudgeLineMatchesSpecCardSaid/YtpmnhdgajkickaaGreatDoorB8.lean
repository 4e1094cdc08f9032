import Derived.Test.YtpmnhdgajkickaaGreatDoorNatDivK
import Derived.Deep.LoopGhost
import Derived.Test.YtpmnhdgajkickaaGreatDoorB0
import Derived.OrdersHeld
import Derived.Below
import Derived.Test.YtpmnhdgajkickaaGreatDoorB2
import Derived.Test.YtpmnhdgajkickaaGreatDoorB3
/- Package nat: Zero, Int, Gcd. -/
namespace Go.Proofs.YtpmnhdgajkickaaGreatDoor
open Go Go.RowKit Go.Proofs

theorem natZero_any (A : Option Addr) (c : Nat) (l : List Nat) (w : World) (hs : l.length ≤ 1000000) :
    Calls Tryz.prog 90 #[.slice A l.length c] w fun e w' => e = .returned (.bool ((l.length : Int) == 0)) ∧ w = w' := by
  go_enter Tryz.func90, Tryz.ntmps90
  go_wp2
  go_ret
  exact ⟨rfl, rfl⟩

set_option maxHeartbeats 2000000 in
set_option maxRecDepth 100000 in
theorem natGcd_any (A1 A2 : Option Addr) (c1 c2 : Nat) (l1 l2 : List Nat) (x y : Nat) (w : World) (h1 : NatR w A1 c1 l1 x) (h2 : NatR w A2 c2 l2 y) (hs : l1.length ≤ 900000) (hs2 : l2.length ≤ 900000) :
    Calls Tryz.prog 95 #[.slice A1 l1.length c1, .slice A2 l2.length c2] w (NatPost (Nat.gcd x y) w) := by
  have HN1 := Lib.hid h1
  have HN2 := Lib.hid h2
  clear h1 h2
  go_enter Tryz.func95, Tryz.ntmps95
  go_wp2_with fail
  go_loopg [0, 1] y (fun k a b wr => ∃ (A1 A2 : Option Addr) (c1 c2 : Nat) (l1 l2 : List Nat) (x' : Nat), a = .slice A1 l1.length c1 ∧ b = .slice A2 l2.length c2 ∧ NatR wr A1 c1 l1 x' ∧ NatR wr A2 c2 l2 k ∧ Nat.gcd x' k = Nat.gcd x y ∧ l1.length ≤ 900000 ∧ l2.length ≤ 900000 ∧ Below w.heap.size w wr)
  case atStart => exact ⟨A1, A2, c1, c2, l1, l2, x, rfl, rfl, HN1.out, HN2.out, rfl, hs, hs2, Below.refl _ _⟩
  case round =>
    obtain ⟨A3, A4, c3, c4, l3, l4, x', rfl, rfl, h3, h4, hg, hs3, hs4, hb⟩ := hrel
    have HZ := Lib.hid (fun W => natZero_any A4 c4 l4 W (by omega))
    rcases Nat.eq_zero_or_pos gk with h0 | h0
    · have h0' : l4 = [] := (val_zero W64_pos h4.norm).1 (by rw [h4.val, h0])
      subst h0'
      have HR := Lib.hid (show NatPost (Nat.gcd x y) w (.returned (.slice A3 l3.length c3)) wr from ⟨_, _, _, rfl, by rw [← hg, h0, Nat.gcd_zero_right]; exact h3, hb⟩)
      clear hg h3 h4 hb h0
      go_wp2_with fail
      refine (HZ.out _).mono ?_
      rintro e w' ⟨rfl, rfl⟩
      go_wp2
      go_ret
      exact HR.out
    · have hl4 : l4 ≠ [] := by
        rintro rfl
        have := h4.val
        simp [val] at this; omega
      have hl4' : l4.length ≠ 0 := fun h => hl4 (List.eq_nil_of_length_eq_zero h)
      have hz : ((l4.length : Int) == 0) = false := by simpa using hl4
      have HD := Lib.hid (natDivMod_any A3 A4 c3 c4 l3 l4 x' gk wr h3 h4 hs3 hs4 h0)
      have HG := Lib.hid hg
      have H4 := Lib.hid h4
      have HB := Lib.hid hb
      clear hg h3 h4 hb hl4 hl4'
      go_wp2_with fail
      refine (HZ.out _).mono ?_
      rintro e w' ⟨rfl, rfl⟩
      go_wp2_with fail
      refine HD.out.mono ?_
      rintro e w1 ⟨A5, c5, l5, A6, c6, l6, rfl, h5, h6, hb1⟩
      have HR := Lib.hid (show NatR w1 A4 c4 l4 gk ∧ NatR w1 A6 c6 l6 (x' % gk) ∧ Nat.gcd gk (x' % gk) = Nat.gcd x y ∧ l6.length ≤ 900000 ∧ Below w.heap.size w w1 from ⟨H4.out.on hb1, h6, by
        rw [← HG.out, Nat.gcd_comm gk, ← Nat.gcd_rec, Nat.gcd_comm], by
        have := len_of_lt (n := l4.length) h6.norm h6.val (by
          have := val_lt H4.out.norm.1
          rw [H4.out.val] at this
          have := Nat.mod_lt x' h0
          omega)
        omega, HB.out.trans (hb1.mono HB.out.size)⟩)
      clear h5 h6 hb1
      go_wp2
      go_roundg (x' % gk)
      case measure => exact Nat.mod_lt _ h0
      case rel => exact ⟨A4, A6, c4, c6, l4, l6, gk, rfl, rfl, HR.out.1, HR.out.2.1, HR.out.2.2.1, hs4, HR.out.2.2.2.1, HR.out.2.2.2.2⟩
end Go.Proofs.YtpmnhdgajkickaaGreatDoor

/- Fractions of package judge, not in lowest terms: plain. -/
namespace Go.Proofs.YtpmnhdgajkickaaGreatDoor

/-- sign and numerator of a sum -/
def plB (b1 : Bool) (x1 y1 : Nat) (b2 : Bool) (x2 y2 : Nat) : Bool := if b1 = b2 then b1 else if x2 * y1 ≤ x1 * y2 then b1 else b2
def plX (b1 : Bool) (x1 y1 : Nat) (b2 : Bool) (x2 y2 : Nat) : Nat := if b1 = b2 then x1 * y2 + x2 * y1 else if x2 * y1 ≤ x1 * y2 then x1 * y2 - x2 * y1 else x2 * y1 - x1 * y2
theorem pl_sg (b1 : Bool) (x1 y1 : Nat) (b2 : Bool) (x2 y2 : Nat) : sg (plB b1 x1 y1 b2 x2 y2) (plX b1 x1 y1 b2 x2 y2) = sg b1 x1 * y2 + sg b2 x2 * y1 := by
  rw [← sg_mul_nat, ← sg_mul_nat]
  unfold plB plX
  by_cases h : b1 = b2
  · subst h
    rw [if_pos rfl, if_pos rfl, sg_add]
  · rw [if_neg h, if_neg h]
    by_cases h2 : x2 * y1 ≤ x1 * y2
    · rw [if_pos h2, if_pos h2, ← sg_sub h h2]
    · rw [if_neg h2, if_neg h2, ← sg_sub (fun e => h e.symm) (Nat.le_of_not_le h2), Int.add_comm]
theorem pl_eq (b1 : Bool) (x1 : Nat) {y1 : Nat} (b2 : Bool) (x2 : Nat) {y2 : Nat} (h1 : 0 < y1) (h2 : 0 < y2) : mkRat (sg (plB b1 x1 y1 b2 x2 y2) (plX b1 x1 y1 b2 x2 y2)) (y1 * y2) = mkRat (sg b1 x1) y1 + mkRat (sg b2 x2) y2 := by
  rw [pl_sg, Rat.mkRat_add_mkRat _ _ (by omega) (by omega)]
theorem opp_eq (b : Bool) (x y : Nat) : mkRat (sg (!b) x) y = -mkRat (sg b x) y := by
  rw [sg_neg, Rat.neg_mkRat]
theorem tm_eq (b1 : Bool) (x1 y1 : Nat) (b2 : Bool) (x2 y2 : Nat) : mkRat (sg (b1 != b2) (x1 * x2)) (y1 * y2) = mkRat (sg b1 x1) y1 * mkRat (sg b2 x2) y2 := by
  rw [← sg_mul, Rat.mkRat_mul_mkRat]
/-- the sign of a fraction -/
theorem sgn_mk (b : Bool) {x y : Nat} (hy : 0 < y) : (if x = 0 then (0 : Int) else if b = true then -1 else 1) = (if mkRat (sg b x) y < 0 then -1 else if mkRat (sg b x) y = 0 then 0 else 1) := by
  rcases Nat.eq_zero_or_pos x with h | h
  · subst h
    rw [low_zero]; rfl
  · obtain ⟨h1, h2, _⟩ := low_pos (b := b) h hy
    rw [← sign_eq (mkRat (sg b x) y), h1, h2]
    have : x / Nat.gcd x y ≠ 0 := by
      have := Nat.div_pos (Nat.le_of_dvd h (Nat.gcd_dvd_left x y)) (Nat.gcd_pos_of_pos_left y h)
      omega
    rw [if_neg (by omega), if_neg this]
/-- lowest terms -/
theorem low_parts (b : Bool) {x y : Nat} (hy : 0 < y) : frS (mkRat (sg b x) y) = (b && !decide (x / Nat.gcd y x = 0)) ∧ frN (mkRat (sg b x) y) = x / Nat.gcd y x ∧ (mkRat (sg b x) y).den = y / Nat.gcd y x := by
  rw [Nat.gcd_comm]
  rcases Nat.eq_zero_or_pos x with h | h
  · subst h
    rw [low_zero, Nat.gcd_zero_left, Nat.zero_div, Nat.div_self hy]
    refine ⟨?_, rfl, rfl⟩
    simp [frS]
  · obtain ⟨h1, h2, h3⟩ := low_pos (b := b) h hy
    have : x / Nat.gcd x y ≠ 0 := by
      have := Nat.div_pos (Nat.le_of_dvd h (Nat.gcd_dvd_left x y)) (Nat.gcd_pos_of_pos_left y h)
      omega
    exact ⟨by rw [h1]; simp [this], h2, h3⟩
end Go.Proofs.YtpmnhdgajkickaaGreatDoor

/- A region that draws its order and ends in one operation that waits for all others: that operation apart. No program in sight. -/
namespace Go.Proofs.YtpmnhdgajkickaaGreatDoor
open Go Go.RowKit

section
variable {P : Program} {Q : Exit → Act → World → Prop} {md : Region.Mode}
/-- what is asked behind all but the last operation -/
def LastQ (P : Program) (o : Oper) (Q : Exit → Act → World → Prop) : Exit → Act → World → Prop
  | .normal, a, w => o.wp P a w (fun a w => Q .normal a w) Q
  | .exit i, a, w => Q (.exit i) a w
  | .goto l, a, w => Q (.goto l) a w
  | .ret, a, w => Q .ret a w
  | .panic c, a, w => Q (.panic c) a w
  | .outgrown, a, w => Q .outgrown a w
theorem wp_lastQ {o o' : Oper} {a : Act} {w : World} {K : Act → World → Prop} (h : o'.wp P a w K (LastQ P o Q)) : o'.wp P a w K Q := by
  unfold Oper.wp at *
  generalize (execOp a.eval o').run P w = r at *
  cases r with
  | ok n w' => cases n <;> exact h
  | halt x w' => cases x <;> exact h
def backB (_md : Region.Mode) (ops : Array Oper) : Bool := (List.range ops.size).all fun i => match ops[i]? with | some o => o.guard.isNone && o.after.all (fun e => decide (e.on < i)) | none => true
def feedB (md : Region.Mode) (ops : Array Oper) (n : Nat) (done : List Nat) : Bool := (List.range n).all fun i => done.contains i || (List.range ops.size).any fun j => decide (i < j) && (match ops[j]? with | some o => o.after.any (fun e => Region.binds md e && e.on == i) | none => false)
theorem backB_spec {ops : Array Oper} (h : backB md ops = true) {i : Nat} {o : Oper} (ho : ops[i]? = some o) : o.guard = none ∧ ∀ e ∈ o.after, e.on < i := by
  unfold backB at h
  have hi : i < ops.size := (Array.getElem?_eq_some_iff.1 ho).1
  have := List.all_eq_true.1 h i (List.mem_range.2 hi)
  rw [ho] at this
  simp only [Bool.and_eq_true, Option.isNone_iff_eq_none, Array.all_eq_true_iff_forall_mem, decide_eq_true_eq] at this
  exact this
theorem feedB_spec {ops : Array Oper} {n : Nat} {done : List Nat} (h : feedB md ops n done = true) {i : Nat} (hi : i < n) : i ∈ done ∨ ∃ j o, i < j ∧ ops[j]? = some o ∧ ∃ e ∈ o.after, Region.binds md e = true ∧ e.on = i := by
  unfold feedB at h
  have h := List.all_eq_true.1 h i (List.mem_range.2 hi)
  rw [Bool.or_eq_true] at h
  rcases h with h | h
  · exact .inl (by simpa using h)
  refine .inr ?_
  obtain ⟨j, _, hj⟩ := List.any_eq_true.1 h
  simp only [Bool.and_eq_true, decide_eq_true_eq] at hj
  obtain ⟨h1, h2⟩ := hj
  cases ho : ops[j]? with
  | none => rw [ho] at h2; cases h2
  | some o =>
    rw [ho] at h2
    obtain ⟨e, he, hb⟩ := Array.any_eq_true'.1 h2
    simp only [Bool.and_eq_true, beq_iff_eq] at hb
    exact ⟨j, o, h1, ho, e, he, hb.1, hb.2⟩
theorem getD_push_lt {l : Array Bool} {i : Nat} (d : Bool) (h : i < l.size) : (l.push false).getD i d = l.getD i d := by
  simp [Array.getElem?_push, Nat.ne_of_lt h]
theorem getD_push_eq {l : Array Bool} (d : Bool) : (l.push false).getD l.size d = false := by simp
theorem push_set {l : Array Bool} {i : Nat} (h : i < l.size) : (l.push false).setIfInBounds i true = (l.setIfInBounds i true).push false := by
  apply Array.ext_getElem?
  intro j
  rw [Array.getElem?_setIfInBounds, Array.getElem?_push, Array.getElem?_push, Array.getElem?_setIfInBounds]
  simp only [Array.size_push, Array.size_setIfInBounds]
  by_cases hij : i = j
  · subst hij
    simp [h, Nat.ne_of_lt h, Nat.lt_succ_of_lt h]
  · simp [hij]
variable {init : Array Oper} {last : Oper}
theorem push_lt {i : Nat} (h : i < init.size) : (init.push last)[i]? = init[i]? := by simp [Array.getElem?_push, Nat.ne_of_lt h]
theorem push_last : (init.push last)[init.size]? = some last := by simp
/-- who has come up: all for whom they wait have come up too -/
def Closed (md : Region.Mode) (ops : Array Oper) (listed : Array Bool) : Prop := ∀ j o, ops[j]? = some o → listed.getD j false = true → ∀ e ∈ o.after, Region.binds md e = true → listed.getD e.on false = true
theorem getD_flip {l : Array Bool} {i : Nat} (h : i < l.size) : l.getD i true = l.getD i false := by simp [Array.getElem?_eq_getElem h]
/-- nobody may come up: all have come up -/
theorem all_listed {listed : Array Bool} (hsz : listed.size = init.size) (hb : backB md (init.push last) = true) (hr : Region.ready md init listed = []) : ∀ i, i < init.size → listed.getD i false = true := by
  intro i
  induction i using Nat.strongRecOn with
  | _ i ih =>
    intro hi
    cases hc : listed.getD i false with
    | true => rfl
    | false =>
      exfalso
      have ho : init[i]? = some init[i] := Array.getElem?_eq_getElem hi
      have hm : i ∈ Region.ready md init listed := mem_ready.2 ⟨by rw [getD_flip (by omega)]; exact hc, _, ho, fun e he _ => by
        have hlt := (backB_spec hb (i := i) (o := init[i]) (by rw [push_lt hi]; exact ho)).2 e he
        exact ih e.on hlt (by omega)⟩
      rw [hr] at hm; cases hm
/-- the last may come up: all others have come up -/
theorem last_ready {listed : Array Bool} (hsz : listed.size = init.size) {done : List Nat} (hcl : Closed md init listed) (hf : feedB md (init.push last) init.size done = true) (hd : ∀ i ∈ done, listed.getD i false = true) (hr : init.size ∈ Region.ready md (init.push last) (listed.push false)) : ∀ i, i < init.size → listed.getD i false = true := by
  obtain ⟨_, o, ho, hall⟩ := mem_ready.1 hr
  rw [push_last] at ho
  obtain rfl := (Option.some.inj ho)
  have key : ∀ k i, i < init.size → init.size - i ≤ k → listed.getD i false = true := by
    intro k
    induction k with
    | zero => intro i hi hk; omega
    | succ k ih =>
      intro i hi hk
      rcases feedB_spec hf hi with hdn | ⟨j, oj, hij, hj, e, he, hbd, hon⟩
      · exact hd i hdn
      have hjs : j < (init.push last).size := (Array.getElem?_eq_some_iff.1 hj).1
      rw [Array.size_push] at hjs
      by_cases hjn : j < init.size
      · rw [push_lt hjn] at hj
        have := hcl j oj hj (ih j hjn (by omega)) e he hbd
        rwa [hon] at this
      · obtain rfl : j = init.size := by omega
        rw [push_last] at hj
        obtain rfl := (Option.some.inj hj)
        have := hall e he hbd
        rw [hon, getD_push_lt _ (by omega)] at this
        exact this
  exact fun i hi => key _ i hi (Nat.le_refl _)
theorem ready_push {listed : Array Bool} {i : Nat} (hsz : listed.size = init.size) (hb : backB md (init.push last) = true) (hi : i < init.size) : i ∈ Region.ready md (init.push last) (listed.push false) ↔ i ∈ Region.ready md init listed := by
  rw [mem_ready, mem_ready, push_lt hi, getD_push_lt _ (by omega)]
  refine and_congr_right fun _ => exists_congr fun o => and_congr_right fun ho => forall_congr' fun e => forall_congr' fun he => forall_congr' fun _ => ?_
  have hlt := (backB_spec hb (i := i) (o := o) (by rw [push_lt hi]; exact ho)).2 e he
  rw [getD_push_lt _ (by omega)]
theorem wanted_none {o : Oper} (h : o.guard = none) (f : Nat → Option Bool) : Region.wanted o f = true := by simp [Region.wanted, h]
theorem any_last {done : List Nat} (hb : backB md (init.push last) = true) (hf : feedB md (init.push last) init.size done = true) : ∀ (fuel : Nat) (listed : Array Bool) (a : Act) (w : World), listed.size = init.size → Closed md init listed → (∀ i ∈ done, listed.getD i false = true) →
    wpAny P md init (LastQ P last Q) fuel listed a w → wpAny P md (init.push last) Q (fuel + 1) (listed.push false) a w := by
  have fin : ∀ (fuel : Nat) (listed : Array Bool) (a : Act) (w : World), listed.size = init.size → Region.ready md init listed = [] → LastQ P last Q .normal a w → wpAny P md (init.push last) Q (fuel + 1) (listed.push false) a w := by
    intro fuel listed a w hsz hr hq
    have hall := all_listed hsz hb hr
    have hlast : init.size ∈ Region.ready md (init.push last) (listed.push false) := mem_ready.2 ⟨by rw [← hsz]; exact getD_push_eq _, last, push_last, fun e he _ => by
      have hlt := (backB_spec hb push_last).2 e he
      rw [getD_push_lt _ (by omega)]; exact hall _ hlt⟩
    refine ⟨fun h0 => (by rw [h0] at hlast; cases hlast), fun i hi => ?_⟩
    have hin : i = init.size := by
      obtain ⟨h1, o, ho, _⟩ := mem_ready.1 hi
      have hlt : i < (init.push last).size := (Array.getElem?_eq_some_iff.1 ho).1
      rw [Array.size_push] at hlt
      rcases Nat.lt_or_ge i init.size with h | h
      · rw [getD_push_lt _ (by omega), getD_flip (by omega), hall i h] at h1; cases h1
      · omega
    subst hin
    unfold wpOp
    rw [push_last]
    simp only [wanted_none (backB_spec hb push_last).1, if_true]
    refine .inl (Oper.wp_mono (fun a' w' h' => ?_) hq)
    refine wpAny_done ?_ h' fuel
    cases hr2 : Region.ready md (init.push last) ((listed.push false).setIfInBounds init.size true) with
    | nil => rfl
    | cons x xs =>
      exfalso
      have hx : x ∈ Region.ready md (init.push last) ((listed.push false).setIfInBounds init.size true) := by rw [hr2]; simp
      obtain ⟨h1, o, ho, _⟩ := mem_ready.1 hx
      have hlt : x < (init.push last).size := (Array.getElem?_eq_some_iff.1 ho).1
      rw [Array.size_push] at hlt
      by_cases hxn : x = init.size
      · subst hxn
        rw [← hsz] at h1
        simp at h1
      · rw [getD_set_ne _ (by omega), getD_push_lt _ (by omega), getD_flip (by omega), hall x (by omega)] at h1; cases h1
  intro fuel
  induction fuel with
  | zero => intro listed a w hsz _ _ h; exact fin 0 listed a w hsz h.1 h.2
  | succ fuel ih =>
    intro listed a w hsz hcl hd h
    by_cases hr : Region.ready md init listed = []
    · exact fin (fuel + 1) listed a w hsz hr (h.1 hr)
    · have hnot : init.size ∉ Region.ready md (init.push last) (listed.push false) := fun hl => by
        have hall := last_ready hsz hcl hf hd hl
        apply hr
        cases hr2 : Region.ready md init listed with
        | nil => rfl
        | cons x xs =>
          exfalso
          have hx : x ∈ Region.ready md init listed := by rw [hr2]; simp
          obtain ⟨h1, o, ho, _⟩ := mem_ready.1 hx
          have hlt : x < init.size := (Array.getElem?_eq_some_iff.1 ho).1
          rw [getD_flip (by omega), hall x hlt] at h1; cases h1
      have hlt : ∀ i, i ∈ Region.ready md (init.push last) (listed.push false) → i < init.size := fun i hi => by
        obtain ⟨_, o, ho, _⟩ := mem_ready.1 hi
        have hl : i < (init.push last).size := (Array.getElem?_eq_some_iff.1 ho).1
        rw [Array.size_push] at hl
        rcases Nat.lt_or_ge i init.size with h | h
        · exact h
        · obtain rfl : i = init.size := by omega
          exact absurd hi hnot
      refine ⟨fun h0 => ?_, fun i hi => ?_⟩
      · exfalso
        apply hr
        cases hr2 : Region.ready md init listed with
        | nil => rfl
        | cons x xs =>
          have hx : x ∈ Region.ready md init listed := by rw [hr2]; simp
          obtain ⟨_, o, ho, _⟩ := mem_ready.1 hx
          have := (ready_push (last := last) hsz hb (Array.getElem?_eq_some_iff.1 ho).1).2 hx
          rw [h0] at this; cases this
      · have hin := hlt i hi
        have hi' := (ready_push hsz hb hin).1 hi
        have hw := h.2 i hi'
        obtain ⟨_, o, ho, hpre⟩ := mem_ready.1 hi'
        have hg := (backB_spec hb (i := i) (o := o) (by rw [push_lt hin]; exact ho)).1
        have hcl' : Closed md init (listed.setIfInBounds i true) := fun j oj hj hl e he hbd => by
          by_cases hji : i = j
          · subst hji
            rw [ho] at hj
            obtain rfl := Option.some.inj hj
            exact getD_set_true (hpre e he hbd)
          · rw [getD_set_ne _ hji] at hl
            exact getD_set_true (hcl j oj hj hl e he hbd)
        unfold wpOp at hw ⊢
        rw [ho] at hw
        rw [push_lt hin, ho]
        simp only [wanted_none hg, if_true] at hw ⊢
        rcases hw with hw | hw
        · refine .inl (Oper.wp_mono (fun a' w' h' => ?_) (wp_lastQ hw))
          rw [push_set (by omega)]
          exact ih (listed.setIfInBounds i true) a' w' (by simpa using hsz) hcl' (fun i hi => getD_set_true (hd i hi)) h'
        · exact .inr hw
/-- THE LAW -/
theorem wp_region_last {id : Nat} {ops : Array Oper} {a : Act} {w : World} (hops : ops = init.push last) (hm : P.follows .mixedOrders = true) (hb : backB .any (init.push last) = true) (hf : feedB .any (init.push last) init.size [] = true)
    (h : wpAny P .any init (LastQ P last Q) init.size (Array.replicate init.size false) a { w with drawn := w.drawn + 1 }) : (Code.region id ops true).wp P Q a w := by
  subst hops
  refine wp_region_any hm ?_
  have := any_last (P := P) (Q := Q) hb hf init.size (Array.replicate init.size false) a _ (by simp) (fun j o _ hl => by
    have h0 : (Array.replicate init.size false).getD j false = false := by
      simp only [Array.getD_eq_getD_getElem?, Array.getElem?_replicate]
      split <;> rfl
    rw [h0] at hl; cases hl) (by simp) h
  rw [Array.size_push, Array.replicate_succ]
  exact this
variable {ops : Array Oper} {S : World → Prop}
/-- one alone may come up -/
theorem run_one {i : Nat} {o : Oper} {fuel : Nat} {listed : Array Bool} {a : Act} {w : World} (hr : Region.ready md ops listed = [i]) (ho : ops[i]? = some o) (hg : o.guard = none)
    (h : ∀ K : Act → World → Prop, Hid (∀ a' w', S w' → (S w' → wpAnyH P md ops Q S fuel (listed.setIfInBounds i true) a' w') → K a' w') → o.wp P a w K Q) : wpAnyH P md ops Q S (fuel + 1) listed a w := by
  refine wpAnyH_all (rs := [i]) hr (by simp) fun j hj => ?_
  obtain rfl : j = i := by simpa using hj
  unfold wpOp
  rw [ho]
  simp only [wanted_none hg, if_true]
  exact .inl (h _ (fun a' w' h1 h2 => ⟨h1, h2 h1⟩))
end
end Go.Proofs.YtpmnhdgajkickaaGreatDoor

/- Package dynamometerref0: numbers in base 10000: Cmp. -/
namespace Go.Proofs.YtpmnhdgajkickaaGreatDoor
open Go Go.RowKit Go.Proofs

/-- the words' base -/
def T4 : Nat := 10000
theorem T4_pos : 1 < T4 := by unfold T4; omega
def d4s (l : List Nat) : List Value := l.map fun d : Nat => Value.int .i64 (d : Int)
theorem d4s_length (l : List Nat) : (d4s l).length = l.length := by simp [d4s]
theorem d4s_get {l : List Nat} {i : Nat} {u : Value} (h : (d4s l)[i]? = some u) : ∃ d, l[i]? = some d ∧ u = .int .i64 (d : Int) := by
  unfold d4s at h; rw [List.getElem?_map] at h
  cases hz : l[i]? with
  | none => rw [hz] at h; cases h
  | some z => rw [hz] at h; exact ⟨z, rfl, by simpa using h.symm⟩
/-- the slice (A, l.length, c) is the number x -/
structure RNatR (w : World) (A : Option Addr) (c : Nat) (l : List Nat) (x : Nat) : Prop where
  rd : Rd w 0 w.heap.size 1 A l.length (d4s l)
  norm : Norm T4 l
  val : val T4 l = x
  cap : l.length ≤ c
  max : c ≤ maxLen
  nil : A = none → l.length = 0 ∧ c = 0
theorem RNatR.on {w w' : World} {A : Option Addr} {c : Nat} {l : List Nat} {x : Nat} (h : RNatR w A c l x) (hb : Below w.heap.size w w') : RNatR w' A c l x := ⟨h.rd.old hb, h.norm, h.val, h.cap, h.max, h.nil⟩
/-- what a function returns that makes a number -/
def RNatPost (x : Nat) (w : World) (e : Ending) (w' : World) : Prop := ∃ A c l, e = .returned (.slice A l.length c) ∧ RNatR w' A c l x ∧ Below w.heap.size w w'
theorem rnatr_nil (w : World) : RNatR w none 0 [] 0 := ⟨Rd.nil, norm_nil _, rfl, Nat.le_refl _, Nat.zero_le _, fun _ => ⟨rfl, rfl⟩⟩
theorem Rd.take4 {w : World} {L B : Nat} {A : Option Addr} {l : List Nat} (h : Rd w L B 1 A l.length (d4s l)) (n : Nat) (hn : n ≤ l.length) : Rd w L B 1 A n (d4s (l.take n)) :=
  ⟨by simp [d4s]; omega, fun hp => by
    obtain ⟨b, o, e, h1, h2, h3⟩ := h.2 (by omega)
    refine ⟨b, o, e, h1, h2, fun j u hj => h3 j u ?_⟩
    unfold d4s at hj ⊢
    rw [List.getElem?_map] at hj ⊢
    have hjn : j < n := by
      refine Classical.byContradiction fun hc => ?_
      rw [List.getElem?_eq_none (by simp; omega)] at hj
      cases hj
    rwa [List.getElem?_take_of_lt hjn] at hj⟩

set_option maxHeartbeats 2000000 in
set_option maxRecDepth 100000 in
theorem rnatCmp_any (A1 A2 : Option Addr) (c1 c2 : Nat) (l1 l2 : List Nat) (x y : Nat) (w : World) (h1 : RNatR w A1 c1 l1 x) (h2 : RNatR w A2 c2 l2 y) (hs : l1.length ≤ 1000000) (_hs2 : l2.length ≤ 1000000) :
    Calls Tryz.prog 51 #[.slice A1 l1.length c1, .slice A2 l2.length c2] w fun e w' => e = .returned (.int .i64 (cmpN x y)) ∧ ∃ q, w' = w.drewN q := by
  have HN1 := Lib.hid h1
  have HN2 := Lib.hid h2
  clear h1 h2
  by_cases hl : l1.length = l2.length
  · rw [← hl]
    have HL := Lib.hid hl
    clear hl
    go_enter Tryz.func51, Tryz.ntmps51
    go_wp2
    go_loopw [5] (fun i wr => ∃ k : Nat, k ≤ l1.length ∧ i = .int .i64 ((k : Int) - 1) ∧ l1.drop k = l2.drop k ∧ ∃ q, wr = w.drewN q) (fun i _ => (intOf i + 1).toNat)
    case atStart => exact ⟨l1.length, Nat.le_refl _, rfl, by rw [List.drop_length, HL.out, List.drop_length], 0, rfl⟩
    case round =>
      obtain ⟨k, hk, rfl, hdr, q, rfl⟩ := hrel
      have HDR := Lib.hid hdr
      clear hdr
      cases k with
      | zero =>
        have HE := Lib.hid (cmpN_eq (show x = y by
          have := HDR.out
          simp only [List.drop_zero] at this
          rw [← HN1.out.val, ← HN2.out.val, this]))
        go_wp2
        go_ret
        exact ⟨congrArg (fun z => Ending.returned (.int .i64 z)) HE.out, _, rfl⟩
      | succ j =>
        have e : (((j + 1 : Nat) : Int) - 1) = (j : Int) := by omega
        rw [e]
        clear e
        obtain ⟨b1, o1, u1, rfl, hb1, hu1, q1⟩ := HN1.out.rd.at1 (show j < l1.length by omega)
        obtain ⟨b2, o2, u2, rfl, hb2, hu2, q2⟩ := HN2.out.rd.at1 (show j < l2.length by have := HL.out; omega)
        obtain ⟨d1, hd1, rfl⟩ := d4s_get hu1
        obtain ⟨d2, hd2, rfl⟩ := d4s_get hu2
        have HD1 := Lib.hid hd1
        have HD2 := Lib.hid hd2
        have hj0 : (0 : Int) ≤ (j : Int) := by omega
        have hj1 : (j : Int) < (l1.length : Int) := by omega
        clear hu1 hu2 hd1 hd2
        have t0 : decide ((0 : Int) ≤ ↑j) = true := by simp
        by_cases hlt : d1 < d2
        · have HV := Lib.hid (cmpN_lt (show x < y by
            rw [← HN1.out.val, ← HN2.out.val]
            exact val_cmp_at HL.out HD1.out HD2.out HDR.out HN1.out.norm.1 hlt))
          have t1 : decide (d1 < d2) = true := by simpa using hlt
          go_wp2
          go_quiet (fail)
          go_wp2
          go_ret
          exact ⟨congrArg (fun z => Ending.returned (.int .i64 z)) HV.out, _, by first | rfl | (rw [drewN_add, drewN_add]) | (rw [drewN_add])⟩
        · have t1 : decide (d1 < d2) = false := by simpa using hlt
          by_cases hgt : d2 < d1
          · have HV := Lib.hid (cmpN_gt (show y < x by
              rw [← HN1.out.val, ← HN2.out.val]
              exact val_cmp_at HL.out.symm HD2.out HD1.out HDR.out.symm HN2.out.norm.1 hgt))
            have t2 : decide (d2 < d1) = true := by simpa using hgt
            go_wp2
            go_quiet (fail)
            go_wp2
            go_quiet (fail)
            go_wp2
            go_ret
            exact ⟨congrArg (fun z => Ending.returned (.int .i64 z)) HV.out, _, by first | rfl | (rw [drewN_add, drewN_add]) | (rw [drewN_add])⟩
          · have t2 : decide (d2 < d1) = false := by simpa using hgt
            have HN := Lib.hid (show l1.drop j = l2.drop j by
              have e1 := split_at HD1.out
              have e2 := split_at HD2.out
              have hj1' := (List.getElem?_eq_some_iff.1 HD1.out)
              have hj2' := (List.getElem?_eq_some_iff.1 HD2.out)
              rw [List.drop_eq_getElem_cons hj1'.1, List.drop_eq_getElem_cons hj2'.1, HDR.out, hj1'.2, hj2'.2, show d1 = d2 by omega])
            go_wp2
            go_quiet (fail)
            go_wp2
            go_quiet (fail)
            go_wp2
            go_roundw
            case rel => exact ⟨j, by omega, rfl, HN.out, _, by first | rfl | (rw [drewN_add, drewN_add]) | (rw [drewN_add])⟩
            case measure => simp [intOf]
  · by_cases hlt : l1.length < l2.length
    · have t1 : ((l1.length : Int) != (l2.length : Int)) = true := by simp; omega
      have t2 : decide (l1.length < l2.length) = true := by simpa using hlt
      have HV := Lib.hid (cmpN_lt (show x < y by
        have := val_len_lt T4_pos HN1.out.norm HN2.out.norm hlt
        rwa [HN1.out.val, HN2.out.val] at this))
      clear hl
      go_enter Tryz.func51, Tryz.ntmps51
      go_wp2
      go_ret
      exact ⟨congrArg (fun z => Ending.returned (.int .i64 z)) HV.out, 0, rfl⟩
    · have t1 : ((l1.length : Int) != (l2.length : Int)) = true := by simp; omega
      have t2 : decide (l1.length < l2.length) = false := by simpa using hlt
      have HV := Lib.hid (cmpN_gt (show y < x by
        have := val_len_lt T4_pos HN2.out.norm HN1.out.norm (show l2.length < l1.length by omega)
        rwa [HN1.out.val, HN2.out.val] at this))
      clear hl
      go_enter Tryz.func51, Tryz.ntmps51
      go_wp2
      go_ret
      exact ⟨congrArg (fun z => Ending.returned (.int .i64 z)) HV.out, 0, rfl⟩
end Go.Proofs.YtpmnhdgajkickaaGreatDoor

/- Package dynamometerref0: trimmed. -/
namespace Go.Proofs.YtpmnhdgajkickaaGreatDoor
open Go Go.RowKit Go.Proofs

theorem trimmed_none (w : World) : Calls Tryz.prog 97 #[.slice none 0 0] w fun e w' => e = .returned (.slice none 0 0) ∧ w = w' := by
  go_enter Tryz.func97, Tryz.ntmps97
  go_wp2
  refine wp_loop_rounds 1 ?_
  rw [rounds_succ]
  go_wp2
  go_ret
  exact ⟨rfl, rfl⟩
set_option maxHeartbeats 1000000 in
set_option maxRecDepth 100000 in
theorem trimmed_some (ad : Addr) (c : Nat) (l : List Nat) (w : World) (hr : Rd w 0 w.heap.size 1 (some ad) l.length (d4s l)) (hc : l.length ≤ c) (hcm : c ≤ maxLen) :
    Calls Tryz.prog 97 #[.slice (some ad) l.length c] w fun e w' => e = .returned (.slice (some ad) (trim l).length (trim l).length) ∧ w = w' := by
  have HR := Lib.hid hr
  unfold maxLen at hcm
  clear hr
  go_enter Tryz.func97, Tryz.ntmps97
  go_wp2
  go_loop [3] (fun v => ∃ n : Nat, n ≤ l.length ∧ v = .int .i64 n ∧ ∀ i, n ≤ i → i < l.length → l[i]? = some 0) (fun v => (intOf v).toNat)
  case atStart => exact ⟨l.length, Nat.le_refl _, rfl, fun i h1 h2 => by omega⟩
  case round =>
    obtain ⟨n, hn, rfl, hz⟩ := hrel
    have HZ := Lib.hid hz
    clear hz
    have hn0 : (0 : Int) ≤ (n : Int) := by omega
    cases n with
    | zero =>
      have HT := Lib.hid (show 0 = (trim l).length by rw [trim_take l 0 hn HZ.out (.inl rfl)]; simp)
      go_wp2
      go_ret
      exact ⟨congrArg (fun z => Ending.returned (.slice (some ad) z z)) HT.out, rfl⟩
    | succ n =>
      obtain ⟨b, o, u, hA, hb, hu, hcell⟩ := HR.out.at1 (show n < l.length by omega)
      obtain ⟨d, hd, rfl⟩ := d4s_get hu
      obtain rfl : ad = ⟨b, o, none⟩ := by injection hA
      have HD := Lib.hid hd
      clear hu hd hA
      by_cases h0 : d = 0
      · subst h0
        have HN := Lib.hid (show ∀ i, n ≤ i → i < l.length → l[i]? = some 0 from fun i h1 h2 => by
          rcases Nat.eq_or_lt_of_le h1 with e | e
          · rw [← e]; exact HD.out
          · exact HZ.out i e h2)
        go_wp2
        go_round
        case rel => exact ⟨n, by omega, by go_num, HN.out⟩
        case measure => simp [intOf]
      · have h0' : ((d : Int) == 0) = false := by simpa using h0
        have HT := Lib.hid (show n + 1 = (trim l).length by
          rw [trim_take l (n + 1) hn HZ.out (.inr (by rw [Nat.add_sub_cancel, HD.out]; simpa using h0))]; simp; omega)
        go_wp2
        go_ret
        exact ⟨congrArg (fun z => Ending.returned (.slice (some ⟨b, o, none⟩) z z)) HT.out, rfl⟩
theorem trimmed_any (A : Option Addr) (c : Nat) (l : List Nat) (w : World) (hr : Rd w 0 w.heap.size 1 A l.length (d4s l)) (hc : l.length ≤ c) (hcm : c ≤ maxLen) (hA : A = none → l.length = 0 ∧ c = 0) :
    Calls Tryz.prog 97 #[.slice A l.length c] w fun e w' => e = .returned (.slice A (trim l).length (trim l).length) ∧ w = w' := by
  cases A with
  | none =>
    obtain ⟨h1, rfl⟩ := hA rfl
    obtain rfl : l = [] := List.eq_nil_of_length_eq_zero h1
    exact trimmed_none w
  | some ad => exact trimmed_some ad c l w hr hc hcm
theorem rnatr_trim {w : World} {A : Option Addr} {l : List Nat} (hr : Rd w 0 w.heap.size 1 A l.length (d4s l)) (hd : ∀ d ∈ l, d < T4) (hcm : l.length ≤ maxLen) (hA : A = none → l.length = 0) : RNatR w A (trim l).length (trim l) (val T4 l) := by
  have hl := trim_length l
  refine ⟨?_, trim_norm hd, trim_val _ _, Nat.le_refl _, by omega, fun h => ⟨by have := hA h; omega, by have := hA h; omega⟩⟩
  have := hr.take4 (trim l).length hl
  rwa [← trim_pre] at this
end Go.Proofs.YtpmnhdgajkickaaGreatDoor

/- Package dynamometerref0: blocks of words. -/
namespace Go.Proofs.YtpmnhdgajkickaaGreatDoor
open Go Go.RowKit Go.Proofs

theorem Tryz.infoI4 : (Tryz.prog.info? 3).map (fun i => (i.zero, i.size, i.bytes)) = some (some (.int .i64 0), 1, 8) := by kernel_rfl
/-- block g holds these words -/
def Blk4 (w : World) (g : Nat) (o : List Nat) : Prop := w.heap[g]? = some (.cells (d4s o).toArray 3 (0, 0))
theorem Blk4.cell {w : World} {g : Nat} {o : List Nat} (h : Blk4 w g o) {i d : Nat} (hi : o[i]? = some d) : w.cell? ⟨g, i, none⟩ = some (.int .i64 d) := by
  rw [cellsAt h]; simp [d4s, hi]
theorem Blk4.frozen {w : World} {g : Nat} {o : List Nat} (h : Blk4 w g o) (i : Nat) : w.frozen? ⟨g, i, none⟩ = false := frozenAt h i
theorem Blk4.set {w : World} {g : Nat} {o : List Nat} (h : Blk4 w g o) (i d : Nat) : Blk4 (w.setCell ⟨g, i, none⟩ (.int .i64 d)) g (o.set i d) := by
  unfold Blk4 at *
  simp only [World.setCell, Array.getElem?_modify, h, if_true, Option.map_some]
  congr 2
  rw [List.setIfInBounds_toArray]
  simp [d4s, List.map_set]
theorem Blk4.of_own {w : World} {base g n : Nat} {o : List Nat} (h : w.ownsRow base 3 1 (.slice (some ⟨g, 0, none⟩) n n) n (d4s o)) : Blk4 w g o ∧ o.length = n := by
  have hl : o.length = n := by have := h.1; simpa [d4s] using this
  rcases h.2 with ⟨hv, _⟩ | ⟨g', cap, cur, hv, hb, hh, h1, h2, h3, h4⟩
  · cases hv
  · simp only [Value.slice.injEq, Option.some.injEq, Addr.mk.injEq] at hv
    obtain ⟨⟨rfl, _⟩, _, rfl⟩ := hv
    refine ⟨?_, hl⟩
    unfold Blk4
    rw [hh]
    have e : cur = (d4s o).toArray := by
      apply Array.toList_inj.1
      rw [← h4, List.take_of_length_le (by simp; omega)]
    rw [e]
theorem Blk4.rd {w : World} {g : Nat} {o : List Nat} (h : Blk4 w g o) : Rd w 0 w.heap.size 1 (some ⟨g, 0, none⟩) o.length (d4s o) :=
  ⟨by simp [d4s], fun _ => ⟨g, 0, rfl, Nat.zero_le _, heap_lt h, fun j u hj => by rw [cellsAt h, Nat.zero_add]; simpa using hj⟩⟩
theorem made_zeros4 (n : Nat) : (madeCells #[Value.int .i64 0] n).toList = d4s (List.replicate n 0) := by
  apply List.ext_getElem
  · simp [madeCells, d4s]
  · intro i h1 h2
    simp [madeCells, d4s, Nat.mod_one]
theorem mem_set4 {o : List Nat} {k d : Nat} (ho : ∀ x ∈ o, x < T4) (hd : d < T4) : ∀ x ∈ o.set k d, x < T4 := by
  intro x hx
  rcases List.mem_or_eq_of_mem_set hx with h | h
  · exact ho x h
  · rw [h]; exact hd

end Go.Proofs.YtpmnhdgajkickaaGreatDoor

/- Package dynamometerref0: Of. -/
namespace Go.Proofs.YtpmnhdgajkickaaGreatDoor
open Go Go.RowKit Go.Proofs

/-- what the loop of Of keeps: the digits so far, and the rest of the number -/
def ROfR (w wr : World) (n m : Nat) (v : Value) : Prop :=
  ∃ o, o.length ≤ 20 ∧ m * 10000 ^ o.length ≤ n ∧ (∀ d ∈ o, d < T4) ∧ val T4 o + T4 ^ o.length * m = n ∧ (m = 0 → o.getLast? ≠ some 0) ∧ wr.ownsRow w.heap.size 3 1 v o.length (d4s o) ∧ Below w.heap.size w wr
theorem rof_step {_w : World} {n m : Nat} {o : List Nat} (hm : 0 < m) (hn : n ≤ 9223372036854775807) (h1 : m * 10000 ^ o.length ≤ n) (h3 : val T4 o + T4 ^ o.length * m = n) :
    (o ++ [m % 10000]).length ≤ 20 ∧ m / 10000 * 10000 ^ (o ++ [m % 10000]).length ≤ n ∧ val T4 (o ++ [m % 10000]) + T4 ^ (o ++ [m % 10000]).length * (m / 10000) = n ∧ (m / 10000 = 0 → (o ++ [m % 10000]).getLast? ≠ some 0) := by
  have hl : o.length ≤ 19 := by
    refine Classical.byContradiction fun hc => ?_
    have : (10000 : Nat) ^ 20 ≤ 10000 ^ o.length := Nat.pow_le_pow_right (by omega) (by omega)
    have h4 : 1 * 10000 ^ o.length ≤ m * 10000 ^ o.length := Nat.mul_le_mul_right _ hm
    omega
  refine ⟨by simp; omega, ?_, ?_, ?_⟩
  · simp only [List.length_append, List.length_singleton, Nat.pow_succ]
    have : m / 10000 * (10000 ^ o.length * 10000) = (m / 10000 * 10000) * 10000 ^ o.length := by rw [Nat.mul_comm (10000 ^ o.length), Nat.mul_assoc]
    rw [this]
    exact Nat.le_trans (Nat.mul_le_mul_right _ (by omega)) h1
  · rw [val_snoc]
    simp only [List.length_append, List.length_singleton, Nat.pow_succ]
    have e : T4 ^ o.length * (m % 10000) + T4 ^ o.length * T4 * (m / 10000) = T4 ^ o.length * m := by
      rw [Nat.mul_assoc, ← Nat.mul_add]; congr 1; unfold T4; omega
    omega
  · intro h
    simp; omega

set_option maxHeartbeats 1000000 in
set_option maxRecDepth 100000 in
theorem rnatOf_any (n : Int) (w : World) (hn : n ≤ 9223372036854775807) : Calls Tryz.prog 54 #[.int .i64 n] w (RNatPost n.toNat w) := by
  obtain ⟨i0, hi0, hz0, hz1, hz2⟩ := info_parts Tryz.infoI4
  by_cases h0 : n ≤ 0
  · have h' : decide (0 < n) = false := by simp; omega
    have HZ := Lib.hid (show n.toNat = 0 by omega)
    go_enter Tryz.func54, Tryz.ntmps54
    go_wp2
    refine wp_loop_rounds 1 ?_
    rw [rounds_succ]
    go_wp2
    go_ret
    exact ⟨none, 0, [], rfl, by rw [HZ.out]; exact rnatr_nil w, Below.refl _ _⟩
  · obtain ⟨N, rfl⟩ := Int.eq_ofNat_of_zero_le (show 0 ≤ n by omega)
    rw [Int.toNat_natCast]
    go_enter Tryz.func54, Tryz.ntmps54
    go_wp2
    go_loopw [0, 3] (fun i v wr => ∃ m : Nat, i = .int .i64 m ∧ m ≤ N ∧ ROfR w wr N m v) (fun i _ _ => (intOf i).toNat)
    case atStart => exact ⟨N, rfl, Nat.le_refl _, [], by simp, by simp, fun _ h => by simp at h, by simp [val], fun _ => by simp, ⟨by simp [d4s], .inl ⟨rfl, rfl⟩⟩, Below.refl _ _⟩
    case round =>
      obtain ⟨m, rfl, hm, o, ho1, ho2, ho3, ho4, ho5, hown, hbw⟩ := hrel
      have HOW := Lib.hid hown
      have HBW := Lib.hid hbw
      have hsz := hbw.size
      have H3 := Lib.hid ho3
      have H4 := Lib.hid ho4
      have H5 := Lib.hid ho5
      have H2 := Lib.hid ho2
      clear ho2 ho3 ho4 ho5 hown hbw
      by_cases hp : 0 < m
      · have t1 : decide ((0 : Int) < ↑m) = true := by simp; omega
        have t2 : decide (0 < m) = true := by simpa using hp
        go_wp2_with (at_builtin; refine wpList_append_own _ rfl (.tmp 6) (.tmp 9) 33 rfl w.heap.size 3 i0 _ 1 8 Tryz.underlying33 hi0 hz0 hz1 hz2 rfl (by decide) _ _ _ rfl (HOW.out.alloc _) ⟨wr.heap.size, 0, none⟩ 1 1 [.int .i64 ((m : Int) % 10000)] rfl rfl (cell_one_new _ _ _) (by simp [Value.oneCell']) ?c3 ?c4 ?c5 ?_)
        case c3 => unfold maxLen; omega
        case c4 => omega
        case c5 => simp; omega
        intro v' w2 hown' hgrow _
        obtain ⟨g1, g2, g3, g4⟩ := rof_step (_w := w) hp (by omega) H2.out H4.out
        have hnew : ROfR w w2 N (m / 10000) v' := by
          refine ⟨o ++ [m % 10000], g1, g2, ?_, g3, g4, ?_, ?_⟩
          · intro d hd
            rcases List.mem_append.1 hd with h | h
            · exact H3.out d h
            · simp at h; subst h; unfold T4; omega
          · simpa [d4s] using hown'
          · exact (HBW.out.alloc hsz _).grown hgrow (by simp; omega) (fun j hj => (ownsRow_block HOW.out hj.symm).1)
        have HN := Lib.hid hnew
        clear hown' hgrow g1 g2 g3 g4 hnew
        go_wp2
        go_roundw
        case rel => exact ⟨m / 10000, by first | rfl | go_num, by omega, HN.out⟩
        case measure => simp [intOf]; omega
      · obtain rfl : m = 0 := by omega
        obtain ⟨A', cap', rfl, hnc, hcm, hA'⟩ := ownsRow_shape HOW.out
        have HF := Lib.hid (show RNatR wr A' cap' o N from ⟨(Rd.of_own HOW.out).more (Nat.zero_le _) (Nat.le_refl _), ⟨H3.out, H5.out rfl⟩, by have := H4.out; simpa using this, hnc, hcm, hA'⟩)
        clear hA'
        go_wp2
        go_ret
        exact ⟨A', cap', o, rfl, HF.out, HBW.out⟩
end Go.Proofs.YtpmnhdgajkickaaGreatDoor
