/- A region that draws its order and ends in one operation that waits for all others: that operation apart. No program in sight. -/
import Derived.OrdersHeld
import Derived.Below
namespace Go.Proofs.YthfloagpmmohkaaGreatDoor
open Go Go.RowKit

section
variable {P : Program} {Q : Exit → Act → World → Prop} {md : Region.Mode}
/-- what is asked behind all but the last operation -/
def LastQ (P : Program) (o : Oper) (Q : Exit → Act → World → Prop) : Exit → Act → World → Prop
  | .normal, a, w => o.wp P a w (fun a w => Q .normal a w) Q
  | .exit i, a, w => Q (.exit i) a w
  | .goto l, a, w => Q (.goto l) a w
  | .ret, a, w => Q .ret a w
  | .panic c, a, w => Q (.panic c) a w
  | .outgrown, a, w => Q .outgrown a w
theorem wp_lastQ {o o' : Oper} {a : Act} {w : World} {K : Act → World → Prop} (h : o'.wp P a w K (LastQ P o Q)) : o'.wp P a w K Q := by
  unfold Oper.wp at *
  generalize (execOp a.eval o').run P w = r at *
  cases r with
  | ok n w' => cases n <;> exact h
  | halt x w' => cases x <;> exact h
def backB (_md : Region.Mode) (ops : Array Oper) : Bool := (List.range ops.size).all fun i => match ops[i]? with | some o => o.guard.isNone && o.after.all (fun e => decide (e.on < i)) | none => true
def feedB (md : Region.Mode) (ops : Array Oper) (n : Nat) (done : List Nat) : Bool := (List.range n).all fun i => done.contains i || (List.range ops.size).any fun j => decide (i < j) && (match ops[j]? with | some o => o.after.any (fun e => Region.binds md e && e.on == i) | none => false)
theorem backB_spec {ops : Array Oper} (h : backB md ops = true) {i : Nat} {o : Oper} (ho : ops[i]? = some o) : o.guard = none ∧ ∀ e ∈ o.after, e.on < i := by
  unfold backB at h
  have hi : i < ops.size := (Array.getElem?_eq_some_iff.1 ho).1
  have := List.all_eq_true.1 h i (List.mem_range.2 hi)
  rw [ho] at this
  simp only [Bool.and_eq_true, Option.isNone_iff_eq_none, Array.all_eq_true_iff_forall_mem, decide_eq_true_eq] at this
  exact this
theorem feedB_spec {ops : Array Oper} {n : Nat} {done : List Nat} (h : feedB md ops n done = true) {i : Nat} (hi : i < n) : i ∈ done ∨ ∃ j o, i < j ∧ ops[j]? = some o ∧ ∃ e ∈ o.after, Region.binds md e = true ∧ e.on = i := by
  unfold feedB at h
  have h := List.all_eq_true.1 h i (List.mem_range.2 hi)
  rw [Bool.or_eq_true] at h
  rcases h with h | h
  · exact .inl (by simpa using h)
  refine .inr ?_
  obtain ⟨j, _, hj⟩ := List.any_eq_true.1 h
  simp only [Bool.and_eq_true, decide_eq_true_eq] at hj
  obtain ⟨h1, h2⟩ := hj
  cases ho : ops[j]? with
  | none => rw [ho] at h2; cases h2
  | some o =>
    rw [ho] at h2
    obtain ⟨e, he, hb⟩ := Array.any_eq_true'.1 h2
    simp only [Bool.and_eq_true, beq_iff_eq] at hb
    exact ⟨j, o, h1, ho, e, he, hb.1, hb.2⟩
theorem getD_push_lt {l : Array Bool} {i : Nat} (d : Bool) (h : i < l.size) : (l.push false).getD i d = l.getD i d := by
  simp [Array.getElem?_push, Nat.ne_of_lt h]
theorem getD_push_eq {l : Array Bool} (d : Bool) : (l.push false).getD l.size d = false := by simp
theorem push_set {l : Array Bool} {i : Nat} (h : i < l.size) : (l.push false).setIfInBounds i true = (l.setIfInBounds i true).push false := by
  apply Array.ext_getElem?
  intro j
  rw [Array.getElem?_setIfInBounds, Array.getElem?_push, Array.getElem?_push, Array.getElem?_setIfInBounds]
  simp only [Array.size_push, Array.size_setIfInBounds]
  by_cases hij : i = j
  · subst hij
    simp [h, Nat.ne_of_lt h, Nat.lt_succ_of_lt h]
  · simp [hij]
variable {init : Array Oper} {last : Oper}
theorem push_lt {i : Nat} (h : i < init.size) : (init.push last)[i]? = init[i]? := by simp [Array.getElem?_push, Nat.ne_of_lt h]
theorem push_last : (init.push last)[init.size]? = some last := by simp
/-- who has come up: all for whom they wait have come up too -/
def Closed (md : Region.Mode) (ops : Array Oper) (listed : Array Bool) : Prop := ∀ j o, ops[j]? = some o → listed.getD j false = true → ∀ e ∈ o.after, Region.binds md e = true → listed.getD e.on false = true
theorem getD_flip {l : Array Bool} {i : Nat} (h : i < l.size) : l.getD i true = l.getD i false := by simp [Array.getElem?_eq_getElem h]
/-- nobody may come up: all have come up -/
theorem all_listed {listed : Array Bool} (hsz : listed.size = init.size) (hb : backB md (init.push last) = true) (hr : Region.ready md init listed = []) : ∀ i, i < init.size → listed.getD i false = true := by
  intro i
  induction i using Nat.strongRecOn with
  | _ i ih =>
    intro hi
    cases hc : listed.getD i false with
    | true => rfl
    | false =>
      exfalso
      have ho : init[i]? = some init[i] := Array.getElem?_eq_getElem hi
      have hm : i ∈ Region.ready md init listed := mem_ready.2 ⟨by rw [getD_flip (by omega)]; exact hc, _, ho, fun e he _ => by
        have hlt := (backB_spec hb (i := i) (o := init[i]) (by rw [push_lt hi]; exact ho)).2 e he
        exact ih e.on hlt (by omega)⟩
      rw [hr] at hm; cases hm
/-- the last may come up: all others have come up -/
theorem last_ready {listed : Array Bool} (hsz : listed.size = init.size) {done : List Nat} (hcl : Closed md init listed) (hf : feedB md (init.push last) init.size done = true) (hd : ∀ i ∈ done, listed.getD i false = true) (hr : init.size ∈ Region.ready md (init.push last) (listed.push false)) : ∀ i, i < init.size → listed.getD i false = true := by
  obtain ⟨_, o, ho, hall⟩ := mem_ready.1 hr
  rw [push_last] at ho
  obtain rfl := (Option.some.inj ho)
  have key : ∀ k i, i < init.size → init.size - i ≤ k → listed.getD i false = true := by
    intro k
    induction k with
    | zero => intro i hi hk; omega
    | succ k ih =>
      intro i hi hk
      rcases feedB_spec hf hi with hdn | ⟨j, oj, hij, hj, e, he, hbd, hon⟩
      · exact hd i hdn
      have hjs : j < (init.push last).size := (Array.getElem?_eq_some_iff.1 hj).1
      rw [Array.size_push] at hjs
      by_cases hjn : j < init.size
      · rw [push_lt hjn] at hj
        have := hcl j oj hj (ih j hjn (by omega)) e he hbd
        rwa [hon] at this
      · obtain rfl : j = init.size := by omega
        rw [push_last] at hj
        obtain rfl := (Option.some.inj hj)
        have := hall e he hbd
        rw [hon, getD_push_lt _ (by omega)] at this
        exact this
  exact fun i hi => key _ i hi (Nat.le_refl _)
theorem ready_push {listed : Array Bool} {i : Nat} (hsz : listed.size = init.size) (hb : backB md (init.push last) = true) (hi : i < init.size) : i ∈ Region.ready md (init.push last) (listed.push false) ↔ i ∈ Region.ready md init listed := by
  rw [mem_ready, mem_ready, push_lt hi, getD_push_lt _ (by omega)]
  refine and_congr_right fun _ => exists_congr fun o => and_congr_right fun ho => forall_congr' fun e => forall_congr' fun he => forall_congr' fun _ => ?_
  have hlt := (backB_spec hb (i := i) (o := o) (by rw [push_lt hi]; exact ho)).2 e he
  rw [getD_push_lt _ (by omega)]
theorem wanted_none {o : Oper} (h : o.guard = none) (f : Nat → Option Bool) : Region.wanted o f = true := by simp [Region.wanted, h]
theorem any_last {done : List Nat} (hb : backB md (init.push last) = true) (hf : feedB md (init.push last) init.size done = true) : ∀ (fuel : Nat) (listed : Array Bool) (a : Act) (w : World), listed.size = init.size → Closed md init listed → (∀ i ∈ done, listed.getD i false = true) →
    wpAny P md init (LastQ P last Q) fuel listed a w → wpAny P md (init.push last) Q (fuel + 1) (listed.push false) a w := by
  have fin : ∀ (fuel : Nat) (listed : Array Bool) (a : Act) (w : World), listed.size = init.size → Region.ready md init listed = [] → LastQ P last Q .normal a w → wpAny P md (init.push last) Q (fuel + 1) (listed.push false) a w := by
    intro fuel listed a w hsz hr hq
    have hall := all_listed hsz hb hr
    have hlast : init.size ∈ Region.ready md (init.push last) (listed.push false) := mem_ready.2 ⟨by rw [← hsz]; exact getD_push_eq _, last, push_last, fun e he _ => by
      have hlt := (backB_spec hb push_last).2 e he
      rw [getD_push_lt _ (by omega)]; exact hall _ hlt⟩
    refine ⟨fun h0 => (by rw [h0] at hlast; cases hlast), fun i hi => ?_⟩
    have hin : i = init.size := by
      obtain ⟨h1, o, ho, _⟩ := mem_ready.1 hi
      have hlt : i < (init.push last).size := (Array.getElem?_eq_some_iff.1 ho).1
      rw [Array.size_push] at hlt
      rcases Nat.lt_or_ge i init.size with h | h
      · rw [getD_push_lt _ (by omega), getD_flip (by omega), hall i h] at h1; cases h1
      · omega
    subst hin
    unfold wpOp
    rw [push_last]
    simp only [wanted_none (backB_spec hb push_last).1, if_true]
    refine .inl (Oper.wp_mono (fun a' w' h' => ?_) hq)
    refine wpAny_done ?_ h' fuel
    cases hr2 : Region.ready md (init.push last) ((listed.push false).setIfInBounds init.size true) with
    | nil => rfl
    | cons x xs =>
      exfalso
      have hx : x ∈ Region.ready md (init.push last) ((listed.push false).setIfInBounds init.size true) := by rw [hr2]; simp
      obtain ⟨h1, o, ho, _⟩ := mem_ready.1 hx
      have hlt : x < (init.push last).size := (Array.getElem?_eq_some_iff.1 ho).1
      rw [Array.size_push] at hlt
      by_cases hxn : x = init.size
      · subst hxn
        rw [← hsz] at h1
        simp at h1
      · rw [getD_set_ne _ (by omega), getD_push_lt _ (by omega), getD_flip (by omega), hall x (by omega)] at h1; cases h1
  intro fuel
  induction fuel with
  | zero => intro listed a w hsz _ _ h; exact fin 0 listed a w hsz h.1 h.2
  | succ fuel ih =>
    intro listed a w hsz hcl hd h
    by_cases hr : Region.ready md init listed = []
    · exact fin (fuel + 1) listed a w hsz hr (h.1 hr)
    · have hnot : init.size ∉ Region.ready md (init.push last) (listed.push false) := fun hl => by
        have hall := last_ready hsz hcl hf hd hl
        apply hr
        cases hr2 : Region.ready md init listed with
        | nil => rfl
        | cons x xs =>
          exfalso
          have hx : x ∈ Region.ready md init listed := by rw [hr2]; simp
          obtain ⟨h1, o, ho, _⟩ := mem_ready.1 hx
          have hlt : x < init.size := (Array.getElem?_eq_some_iff.1 ho).1
          rw [getD_flip (by omega), hall x hlt] at h1; cases h1
      have hlt : ∀ i, i ∈ Region.ready md (init.push last) (listed.push false) → i < init.size := fun i hi => by
        obtain ⟨_, o, ho, _⟩ := mem_ready.1 hi
        have hl : i < (init.push last).size := (Array.getElem?_eq_some_iff.1 ho).1
        rw [Array.size_push] at hl
        rcases Nat.lt_or_ge i init.size with h | h
        · exact h
        · obtain rfl : i = init.size := by omega
          exact absurd hi hnot
      refine ⟨fun h0 => ?_, fun i hi => ?_⟩
      · exfalso
        apply hr
        cases hr2 : Region.ready md init listed with
        | nil => rfl
        | cons x xs =>
          have hx : x ∈ Region.ready md init listed := by rw [hr2]; simp
          obtain ⟨_, o, ho, _⟩ := mem_ready.1 hx
          have := (ready_push (last := last) hsz hb (Array.getElem?_eq_some_iff.1 ho).1).2 hx
          rw [h0] at this; cases this
      · have hin := hlt i hi
        have hi' := (ready_push hsz hb hin).1 hi
        have hw := h.2 i hi'
        obtain ⟨_, o, ho, hpre⟩ := mem_ready.1 hi'
        have hg := (backB_spec hb (i := i) (o := o) (by rw [push_lt hin]; exact ho)).1
        have hcl' : Closed md init (listed.setIfInBounds i true) := fun j oj hj hl e he hbd => by
          by_cases hji : i = j
          · subst hji
            rw [ho] at hj
            obtain rfl := Option.some.inj hj
            exact getD_set_true (hpre e he hbd)
          · rw [getD_set_ne _ hji] at hl
            exact getD_set_true (hcl j oj hj hl e he hbd)
        unfold wpOp at hw ⊢
        rw [ho] at hw
        rw [push_lt hin, ho]
        simp only [wanted_none hg, if_true] at hw ⊢
        rcases hw with hw | hw
        · refine .inl (Oper.wp_mono (fun a' w' h' => ?_) (wp_lastQ hw))
          rw [push_set (by omega)]
          exact ih (listed.setIfInBounds i true) a' w' (by simpa using hsz) hcl' (fun i hi => getD_set_true (hd i hi)) h'
        · exact .inr hw
/-- THE LAW -/
theorem wp_region_last {id : Nat} {ops : Array Oper} {a : Act} {w : World} (hops : ops = init.push last) (hm : P.follows .mixedOrders = true) (hb : backB .any (init.push last) = true) (hf : feedB .any (init.push last) init.size [] = true)
    (h : wpAny P .any init (LastQ P last Q) init.size (Array.replicate init.size false) a { w with drawn := w.drawn + 1 }) : (Code.region id ops true).wp P Q a w := by
  subst hops
  refine wp_region_any hm ?_
  have := any_last (P := P) (Q := Q) hb hf init.size (Array.replicate init.size false) a _ (by simp) (fun j o _ hl => by
    have h0 : (Array.replicate init.size false).getD j false = false := by
      simp only [Array.getD_eq_getD_getElem?, Array.getElem?_replicate]
      split <;> rfl
    rw [h0] at hl; cases hl) (by simp) h
  rw [Array.size_push, Array.replicate_succ]
  exact this
variable {ops : Array Oper} {S : World → Prop}
end
end Go.Proofs.YthfloagpmmohkaaGreatDoor
