import Derived.Test.YtnpfdelklolchaaGreatDoorNatDivK
import Derived.Deep.LoopGhost
import Derived.Test.YtnpfdelklolchaaGreatDoorG0
import Derived.OrdersHeld
import Derived.Below
/- Package nat: Zero, Int, Gcd. -/
namespace Go.Proofs.YtnpfdelklolchaaGreatDoor
open Go Go.RowKit Go.Proofs

theorem natZero_any (A : Option Addr) (c : Nat) (l : List Nat) (w : World) (hs : l.length ≤ 1000000) :
    Calls Tryz.prog 96 #[.slice A l.length c] w fun e w' => e = .returned (.bool ((l.length : Int) == 0)) ∧ w = w' := by
  go_enter Tryz.func96, Tryz.ntmps96
  go_wp2
  go_ret
  exact ⟨rfl, rfl⟩

set_option maxHeartbeats 2000000 in
set_option maxRecDepth 100000 in
theorem natGcd_any (A1 A2 : Option Addr) (c1 c2 : Nat) (l1 l2 : List Nat) (x y : Nat) (w : World) (h1 : NatR w A1 c1 l1 x) (h2 : NatR w A2 c2 l2 y) (hs : l1.length ≤ 900000) (hs2 : l2.length ≤ 900000) :
    Calls Tryz.prog 66 #[.slice A1 l1.length c1, .slice A2 l2.length c2] w (NatPost (Nat.gcd x y) w) := by
  have HN1 := Lib.hid h1
  have HN2 := Lib.hid h2
  clear h1 h2
  go_enter Tryz.func66, Tryz.ntmps66
  go_wp2_with fail
  go_loopg [0, 1] y (fun k a b wr => ∃ (A1 A2 : Option Addr) (c1 c2 : Nat) (l1 l2 : List Nat) (x' : Nat), a = .slice A1 l1.length c1 ∧ b = .slice A2 l2.length c2 ∧ NatR wr A1 c1 l1 x' ∧ NatR wr A2 c2 l2 k ∧ Nat.gcd x' k = Nat.gcd x y ∧ l1.length ≤ 900000 ∧ l2.length ≤ 900000 ∧ Below w.heap.size w wr)
  case atStart => exact ⟨A1, A2, c1, c2, l1, l2, x, rfl, rfl, HN1.out, HN2.out, rfl, hs, hs2, Below.refl _ _⟩
  case round =>
    obtain ⟨A3, A4, c3, c4, l3, l4, x', rfl, rfl, h3, h4, hg, hs3, hs4, hb⟩ := hrel
    have HZ := Lib.hid (fun W => natZero_any A4 c4 l4 W (by omega))
    rcases Nat.eq_zero_or_pos gk with h0 | h0
    · have h0' : l4 = [] := (val_zero W64_pos h4.norm).1 (by rw [h4.val, h0])
      subst h0'
      have HR := Lib.hid (show NatPost (Nat.gcd x y) w (.returned (.slice A3 l3.length c3)) wr from ⟨_, _, _, rfl, by rw [← hg, h0, Nat.gcd_zero_right]; exact h3, hb⟩)
      clear hg h3 h4 hb h0
      go_wp2_with fail
      refine (HZ.out _).mono ?_
      rintro e w' ⟨rfl, rfl⟩
      go_wp2
      go_ret
      exact HR.out
    · have hl4 : l4 ≠ [] := by
        rintro rfl
        have := h4.val
        simp [val] at this; omega
      have hl4' : l4.length ≠ 0 := fun h => hl4 (List.eq_nil_of_length_eq_zero h)
      have hz : ((l4.length : Int) == 0) = false := by simpa using hl4
      have HD := Lib.hid (natDivMod_any A3 A4 c3 c4 l3 l4 x' gk wr h3 h4 hs3 hs4 h0)
      have HG := Lib.hid hg
      have H4 := Lib.hid h4
      have HB := Lib.hid hb
      clear hg h3 h4 hb hl4 hl4'
      go_wp2_with fail
      refine (HZ.out _).mono ?_
      rintro e w' ⟨rfl, rfl⟩
      go_wp2_with fail
      refine HD.out.mono ?_
      rintro e w1 ⟨A5, c5, l5, A6, c6, l6, rfl, h5, h6, hb1⟩
      have HR := Lib.hid (show NatR w1 A4 c4 l4 gk ∧ NatR w1 A6 c6 l6 (x' % gk) ∧ Nat.gcd gk (x' % gk) = Nat.gcd x y ∧ l6.length ≤ 900000 ∧ Below w.heap.size w w1 from ⟨H4.out.on hb1, h6, by
        rw [← HG.out, Nat.gcd_comm gk, ← Nat.gcd_rec, Nat.gcd_comm], by
        have := len_of_lt (n := l4.length) h6.norm h6.val (by
          have := val_lt H4.out.norm.1
          rw [H4.out.val] at this
          have := Nat.mod_lt x' h0
          omega)
        omega, HB.out.trans (hb1.mono HB.out.size)⟩)
      clear h5 h6 hb1
      go_wp2
      go_roundg (x' % gk)
      case measure => exact Nat.mod_lt _ h0
      case rel => exact ⟨A4, A6, c4, c6, l4, l6, gk, rfl, rfl, HR.out.1, HR.out.2.1, HR.out.2.2.1, hs4, HR.out.2.2.2.1, HR.out.2.2.2.2⟩
end Go.Proofs.YtnpfdelklolchaaGreatDoor

/- Fractions of package judge, not in lowest terms: plain. -/
namespace Go.Proofs.YtnpfdelklolchaaGreatDoor

theorem tm_eq (b1 : Bool) (x1 y1 : Nat) (b2 : Bool) (x2 y2 : Nat) : mkRat (sg (b1 != b2) (x1 * x2)) (y1 * y2) = mkRat (sg b1 x1) y1 * mkRat (sg b2 x2) y2 := by
  rw [← sg_mul, Rat.mkRat_mul_mkRat]
/-- lowest terms -/
theorem low_parts (b : Bool) {x y : Nat} (hy : 0 < y) : frS (mkRat (sg b x) y) = (b && !decide (x / Nat.gcd y x = 0)) ∧ frN (mkRat (sg b x) y) = x / Nat.gcd y x ∧ (mkRat (sg b x) y).den = y / Nat.gcd y x := by
  rw [Nat.gcd_comm]
  rcases Nat.eq_zero_or_pos x with h | h
  · subst h
    rw [low_zero, Nat.gcd_zero_left, Nat.zero_div, Nat.div_self hy]
    refine ⟨?_, rfl, rfl⟩
    simp [frS]
  · obtain ⟨h1, h2, h3⟩ := low_pos (b := b) h hy
    have : x / Nat.gcd x y ≠ 0 := by
      have := Nat.div_pos (Nat.le_of_dvd h (Nat.gcd_dvd_left x y)) (Nat.gcd_pos_of_pos_left y h)
      omega
    exact ⟨by rw [h1]; simp [this], h2, h3⟩
end Go.Proofs.YtnpfdelklolchaaGreatDoor

/- A region that draws its order and ends in one operation that waits for all others: that operation apart. No program in sight. -/
namespace Go.Proofs.YtnpfdelklolchaaGreatDoor
open Go Go.RowKit

section
variable {P : Program} {Q : Exit → Act → World → Prop} {md : Region.Mode}
/-- what is asked behind all but the last operation -/
def LastQ (P : Program) (o : Oper) (Q : Exit → Act → World → Prop) : Exit → Act → World → Prop
  | .normal, a, w => o.wp P a w (fun a w => Q .normal a w) Q
  | .exit i, a, w => Q (.exit i) a w
  | .goto l, a, w => Q (.goto l) a w
  | .ret, a, w => Q .ret a w
  | .panic c, a, w => Q (.panic c) a w
  | .outgrown, a, w => Q .outgrown a w
theorem wp_lastQ {o o' : Oper} {a : Act} {w : World} {K : Act → World → Prop} (h : o'.wp P a w K (LastQ P o Q)) : o'.wp P a w K Q := by
  unfold Oper.wp at *
  generalize (execOp a.eval o').run P w = r at *
  cases r with
  | ok n w' => cases n <;> exact h
  | halt x w' => cases x <;> exact h
def backB (_md : Region.Mode) (ops : Array Oper) : Bool := (List.range ops.size).all fun i => match ops[i]? with | some o => o.guard.isNone && o.after.all (fun e => decide (e.on < i)) | none => true
def feedB (md : Region.Mode) (ops : Array Oper) (n : Nat) (done : List Nat) : Bool := (List.range n).all fun i => done.contains i || (List.range ops.size).any fun j => decide (i < j) && (match ops[j]? with | some o => o.after.any (fun e => Region.binds md e && e.on == i) | none => false)
theorem backB_spec {ops : Array Oper} (h : backB md ops = true) {i : Nat} {o : Oper} (ho : ops[i]? = some o) : o.guard = none ∧ ∀ e ∈ o.after, e.on < i := by
  unfold backB at h
  have hi : i < ops.size := (Array.getElem?_eq_some_iff.1 ho).1
  have := List.all_eq_true.1 h i (List.mem_range.2 hi)
  rw [ho] at this
  simp only [Bool.and_eq_true, Option.isNone_iff_eq_none, Array.all_eq_true_iff_forall_mem, decide_eq_true_eq] at this
  exact this
theorem feedB_spec {ops : Array Oper} {n : Nat} {done : List Nat} (h : feedB md ops n done = true) {i : Nat} (hi : i < n) : i ∈ done ∨ ∃ j o, i < j ∧ ops[j]? = some o ∧ ∃ e ∈ o.after, Region.binds md e = true ∧ e.on = i := by
  unfold feedB at h
  have h := List.all_eq_true.1 h i (List.mem_range.2 hi)
  rw [Bool.or_eq_true] at h
  rcases h with h | h
  · exact .inl (by simpa using h)
  refine .inr ?_
  obtain ⟨j, _, hj⟩ := List.any_eq_true.1 h
  simp only [Bool.and_eq_true, decide_eq_true_eq] at hj
  obtain ⟨h1, h2⟩ := hj
  cases ho : ops[j]? with
  | none => rw [ho] at h2; cases h2
  | some o =>
    rw [ho] at h2
    obtain ⟨e, he, hb⟩ := Array.any_eq_true'.1 h2
    simp only [Bool.and_eq_true, beq_iff_eq] at hb
    exact ⟨j, o, h1, ho, e, he, hb.1, hb.2⟩
theorem getD_push_lt {l : Array Bool} {i : Nat} (d : Bool) (h : i < l.size) : (l.push false).getD i d = l.getD i d := by
  simp [Array.getElem?_push, Nat.ne_of_lt h]
theorem getD_push_eq {l : Array Bool} (d : Bool) : (l.push false).getD l.size d = false := by simp
theorem push_set {l : Array Bool} {i : Nat} (h : i < l.size) : (l.push false).setIfInBounds i true = (l.setIfInBounds i true).push false := by
  apply Array.ext_getElem?
  intro j
  rw [Array.getElem?_setIfInBounds, Array.getElem?_push, Array.getElem?_push, Array.getElem?_setIfInBounds]
  simp only [Array.size_push, Array.size_setIfInBounds]
  by_cases hij : i = j
  · subst hij
    simp [h, Nat.ne_of_lt h, Nat.lt_succ_of_lt h]
  · simp [hij]
variable {init : Array Oper} {last : Oper}
theorem push_lt {i : Nat} (h : i < init.size) : (init.push last)[i]? = init[i]? := by simp [Array.getElem?_push, Nat.ne_of_lt h]
theorem push_last : (init.push last)[init.size]? = some last := by simp
/-- who has come up: all for whom they wait have come up too -/
def Closed (md : Region.Mode) (ops : Array Oper) (listed : Array Bool) : Prop := ∀ j o, ops[j]? = some o → listed.getD j false = true → ∀ e ∈ o.after, Region.binds md e = true → listed.getD e.on false = true
theorem getD_flip {l : Array Bool} {i : Nat} (h : i < l.size) : l.getD i true = l.getD i false := by simp [Array.getElem?_eq_getElem h]
/-- nobody may come up: all have come up -/
theorem all_listed {listed : Array Bool} (hsz : listed.size = init.size) (hb : backB md (init.push last) = true) (hr : Region.ready md init listed = []) : ∀ i, i < init.size → listed.getD i false = true := by
  intro i
  induction i using Nat.strongRecOn with
  | _ i ih =>
    intro hi
    cases hc : listed.getD i false with
    | true => rfl
    | false =>
      exfalso
      have ho : init[i]? = some init[i] := Array.getElem?_eq_getElem hi
      have hm : i ∈ Region.ready md init listed := mem_ready.2 ⟨by rw [getD_flip (by omega)]; exact hc, _, ho, fun e he _ => by
        have hlt := (backB_spec hb (i := i) (o := init[i]) (by rw [push_lt hi]; exact ho)).2 e he
        exact ih e.on hlt (by omega)⟩
      rw [hr] at hm; cases hm
/-- the last may come up: all others have come up -/
theorem last_ready {listed : Array Bool} (hsz : listed.size = init.size) {done : List Nat} (hcl : Closed md init listed) (hf : feedB md (init.push last) init.size done = true) (hd : ∀ i ∈ done, listed.getD i false = true) (hr : init.size ∈ Region.ready md (init.push last) (listed.push false)) : ∀ i, i < init.size → listed.getD i false = true := by
  obtain ⟨_, o, ho, hall⟩ := mem_ready.1 hr
  rw [push_last] at ho
  obtain rfl := (Option.some.inj ho)
  have key : ∀ k i, i < init.size → init.size - i ≤ k → listed.getD i false = true := by
    intro k
    induction k with
    | zero => intro i hi hk; omega
    | succ k ih =>
      intro i hi hk
      rcases feedB_spec hf hi with hdn | ⟨j, oj, hij, hj, e, he, hbd, hon⟩
      · exact hd i hdn
      have hjs : j < (init.push last).size := (Array.getElem?_eq_some_iff.1 hj).1
      rw [Array.size_push] at hjs
      by_cases hjn : j < init.size
      · rw [push_lt hjn] at hj
        have := hcl j oj hj (ih j hjn (by omega)) e he hbd
        rwa [hon] at this
      · obtain rfl : j = init.size := by omega
        rw [push_last] at hj
        obtain rfl := (Option.some.inj hj)
        have := hall e he hbd
        rw [hon, getD_push_lt _ (by omega)] at this
        exact this
  exact fun i hi => key _ i hi (Nat.le_refl _)
theorem ready_push {listed : Array Bool} {i : Nat} (hsz : listed.size = init.size) (hb : backB md (init.push last) = true) (hi : i < init.size) : i ∈ Region.ready md (init.push last) (listed.push false) ↔ i ∈ Region.ready md init listed := by
  rw [mem_ready, mem_ready, push_lt hi, getD_push_lt _ (by omega)]
  refine and_congr_right fun _ => exists_congr fun o => and_congr_right fun ho => forall_congr' fun e => forall_congr' fun he => forall_congr' fun _ => ?_
  have hlt := (backB_spec hb (i := i) (o := o) (by rw [push_lt hi]; exact ho)).2 e he
  rw [getD_push_lt _ (by omega)]
theorem wanted_none {o : Oper} (h : o.guard = none) (f : Nat → Option Bool) : Region.wanted o f = true := by simp [Region.wanted, h]
theorem any_last {done : List Nat} (hb : backB md (init.push last) = true) (hf : feedB md (init.push last) init.size done = true) : ∀ (fuel : Nat) (listed : Array Bool) (a : Act) (w : World), listed.size = init.size → Closed md init listed → (∀ i ∈ done, listed.getD i false = true) →
    wpAny P md init (LastQ P last Q) fuel listed a w → wpAny P md (init.push last) Q (fuel + 1) (listed.push false) a w := by
  have fin : ∀ (fuel : Nat) (listed : Array Bool) (a : Act) (w : World), listed.size = init.size → Region.ready md init listed = [] → LastQ P last Q .normal a w → wpAny P md (init.push last) Q (fuel + 1) (listed.push false) a w := by
    intro fuel listed a w hsz hr hq
    have hall := all_listed hsz hb hr
    have hlast : init.size ∈ Region.ready md (init.push last) (listed.push false) := mem_ready.2 ⟨by rw [← hsz]; exact getD_push_eq _, last, push_last, fun e he _ => by
      have hlt := (backB_spec hb push_last).2 e he
      rw [getD_push_lt _ (by omega)]; exact hall _ hlt⟩
    refine ⟨fun h0 => (by rw [h0] at hlast; cases hlast), fun i hi => ?_⟩
    have hin : i = init.size := by
      obtain ⟨h1, o, ho, _⟩ := mem_ready.1 hi
      have hlt : i < (init.push last).size := (Array.getElem?_eq_some_iff.1 ho).1
      rw [Array.size_push] at hlt
      rcases Nat.lt_or_ge i init.size with h | h
      · rw [getD_push_lt _ (by omega), getD_flip (by omega), hall i h] at h1; cases h1
      · omega
    subst hin
    unfold wpOp
    rw [push_last]
    simp only [wanted_none (backB_spec hb push_last).1, if_true]
    refine .inl (Oper.wp_mono (fun a' w' h' => ?_) hq)
    refine wpAny_done ?_ h' fuel
    cases hr2 : Region.ready md (init.push last) ((listed.push false).setIfInBounds init.size true) with
    | nil => rfl
    | cons x xs =>
      exfalso
      have hx : x ∈ Region.ready md (init.push last) ((listed.push false).setIfInBounds init.size true) := by rw [hr2]; simp
      obtain ⟨h1, o, ho, _⟩ := mem_ready.1 hx
      have hlt : x < (init.push last).size := (Array.getElem?_eq_some_iff.1 ho).1
      rw [Array.size_push] at hlt
      by_cases hxn : x = init.size
      · subst hxn
        rw [← hsz] at h1
        simp at h1
      · rw [getD_set_ne _ (by omega), getD_push_lt _ (by omega), getD_flip (by omega), hall x (by omega)] at h1; cases h1
  intro fuel
  induction fuel with
  | zero => intro listed a w hsz _ _ h; exact fin 0 listed a w hsz h.1 h.2
  | succ fuel ih =>
    intro listed a w hsz hcl hd h
    by_cases hr : Region.ready md init listed = []
    · exact fin (fuel + 1) listed a w hsz hr (h.1 hr)
    · have hnot : init.size ∉ Region.ready md (init.push last) (listed.push false) := fun hl => by
        have hall := last_ready hsz hcl hf hd hl
        apply hr
        cases hr2 : Region.ready md init listed with
        | nil => rfl
        | cons x xs =>
          exfalso
          have hx : x ∈ Region.ready md init listed := by rw [hr2]; simp
          obtain ⟨h1, o, ho, _⟩ := mem_ready.1 hx
          have hlt : x < init.size := (Array.getElem?_eq_some_iff.1 ho).1
          rw [getD_flip (by omega), hall x hlt] at h1; cases h1
      have hlt : ∀ i, i ∈ Region.ready md (init.push last) (listed.push false) → i < init.size := fun i hi => by
        obtain ⟨_, o, ho, _⟩ := mem_ready.1 hi
        have hl : i < (init.push last).size := (Array.getElem?_eq_some_iff.1 ho).1
        rw [Array.size_push] at hl
        rcases Nat.lt_or_ge i init.size with h | h
        · exact h
        · obtain rfl : i = init.size := by omega
          exact absurd hi hnot
      refine ⟨fun h0 => ?_, fun i hi => ?_⟩
      · exfalso
        apply hr
        cases hr2 : Region.ready md init listed with
        | nil => rfl
        | cons x xs =>
          have hx : x ∈ Region.ready md init listed := by rw [hr2]; simp
          obtain ⟨_, o, ho, _⟩ := mem_ready.1 hx
          have := (ready_push (last := last) hsz hb (Array.getElem?_eq_some_iff.1 ho).1).2 hx
          rw [h0] at this; cases this
      · have hin := hlt i hi
        have hi' := (ready_push hsz hb hin).1 hi
        have hw := h.2 i hi'
        obtain ⟨_, o, ho, hpre⟩ := mem_ready.1 hi'
        have hg := (backB_spec hb (i := i) (o := o) (by rw [push_lt hin]; exact ho)).1
        have hcl' : Closed md init (listed.setIfInBounds i true) := fun j oj hj hl e he hbd => by
          by_cases hji : i = j
          · subst hji
            rw [ho] at hj
            obtain rfl := Option.some.inj hj
            exact getD_set_true (hpre e he hbd)
          · rw [getD_set_ne _ hji] at hl
            exact getD_set_true (hcl j oj hj hl e he hbd)
        unfold wpOp at hw ⊢
        rw [ho] at hw
        rw [push_lt hin, ho]
        simp only [wanted_none hg, if_true] at hw ⊢
        rcases hw with hw | hw
        · refine .inl (Oper.wp_mono (fun a' w' h' => ?_) (wp_lastQ hw))
          rw [push_set (by omega)]
          exact ih (listed.setIfInBounds i true) a' w' (by simpa using hsz) hcl' (fun i hi => getD_set_true (hd i hi)) h'
        · exact .inr hw
/-- THE LAW -/
theorem wp_region_last {id : Nat} {ops : Array Oper} {a : Act} {w : World} (hops : ops = init.push last) (hm : P.follows .mixedOrders = true) (hb : backB .any (init.push last) = true) (hf : feedB .any (init.push last) init.size [] = true)
    (h : wpAny P .any init (LastQ P last Q) init.size (Array.replicate init.size false) a { w with drawn := w.drawn + 1 }) : (Code.region id ops true).wp P Q a w := by
  subst hops
  refine wp_region_any hm ?_
  have := any_last (P := P) (Q := Q) hb hf init.size (Array.replicate init.size false) a _ (by simp) (fun j o _ hl => by
    have h0 : (Array.replicate init.size false).getD j false = false := by
      simp only [Array.getD_eq_getD_getElem?, Array.getElem?_replicate]
      split <;> rfl
    rw [h0] at hl; cases hl) (by simp) h
  rw [Array.size_push, Array.replicate_succ]
  exact this
variable {ops : Array Oper} {S : World → Prop}
/-- one alone may come up -/
theorem run_one {i : Nat} {o : Oper} {fuel : Nat} {listed : Array Bool} {a : Act} {w : World} (hr : Region.ready md ops listed = [i]) (ho : ops[i]? = some o) (hg : o.guard = none)
    (h : ∀ K : Act → World → Prop, Hid (∀ a' w', S w' → (S w' → wpAnyH P md ops Q S fuel (listed.setIfInBounds i true) a' w') → K a' w') → o.wp P a w K Q) : wpAnyH P md ops Q S (fuel + 1) listed a w := by
  refine wpAnyH_all (rs := [i]) hr (by simp) fun j hj => ?_
  obtain rfl : j = i := by simpa using hj
  unfold wpOp
  rw [ho]
  simp only [wanted_none hg, if_true]
  exact .inl (h _ (fun a' w' h1 h2 => ⟨h1, h2 h1⟩))
end
end Go.Proofs.YtnpfdelklolchaaGreatDoor
