/- Package nat: Of, cut, Cmp. -/
import Derived.Test.YtnpfdelklolchaaGreatDoorG0
import Derived.Test.YtnpfdelklolchaaGreatDoorG2
import Derived.Test.YtnpfdelklolchaaGreatDoorRows
import Derived.Test.YtnpfdelklolchaaGreatDoorProg
import Derived.Handy
import Derived.WalkSpells
import Derived.WalkLawsBesides
import Derived.Deep.QuietTactic
import Derived.BigQuiet
namespace Go.Proofs.YtnpfdelklolchaaGreatDoor
open Go Go.RowKit Go.Proofs

/-- the words' base -/
def W64 : Nat := 18446744073709551616
theorem W64_pos : 1 < W64 := by unfold W64; omega
def u64s (l : List Nat) : List Value := l.map fun d : Nat => Value.int .u64 (d : Int)
theorem u64s_length (l : List Nat) : (u64s l).length = l.length := by simp [u64s]
theorem u64s_get {l : List Nat} {i : Nat} {u : Value} (h : (u64s l)[i]? = some u) : ∃ d, l[i]? = some d ∧ u = .int .u64 (d : Int) := by
  unfold u64s at h; rw [List.getElem?_map] at h
  cases hz : l[i]? with
  | none => rw [hz] at h; cases h
  | some z => rw [hz] at h; exact ⟨z, rfl, by simpa using h.symm⟩
/-- the slice (A, l.length, c) is the number x -/
structure NatR (w : World) (A : Option Addr) (c : Nat) (l : List Nat) (x : Nat) : Prop where
  rd : Rd w 0 w.heap.size 1 A l.length (u64s l)
  norm : Norm W64 l
  val : val W64 l = x
  cap : l.length ≤ c
  max : c ≤ maxLen
  nil : A = none → l.length = 0 ∧ c = 0
theorem NatR.on {w w' : World} {A : Option Addr} {c : Nat} {l : List Nat} {x : Nat} (h : NatR w A c l x) (hb : Below w.heap.size w w') : NatR w' A c l x := ⟨h.rd.old hb, h.norm, h.val, h.cap, h.max, h.nil⟩
/-- what a function returns that makes a number -/
def NatPost (x : Nat) (w : World) (e : Ending) (w' : World) : Prop := ∃ A c l, e = .returned (.slice A l.length c) ∧ NatR w' A c l x ∧ Below w.heap.size w w'
/-- .. in memory of its own -/
def NatNew (x : Nat) (w : World) (e : Ending) (w' : World) : Prop := ∃ A c l, e = .returned (.slice A l.length c) ∧ NatR w' A c l x ∧ Below w.heap.size w w' ∧ ∀ b o, A = some ⟨b, o, none⟩ → w.heap.size ≤ b
theorem NatNew.post {x : Nat} {w : World} {e : Ending} {w' : World} : NatNew x w e w' → NatPost x w e w' := fun ⟨A, c, l, h1, h2, h3, _⟩ => ⟨A, c, l, h1, h2, h3⟩
theorem natr_nil (w : World) : NatR w none 0 [] 0 := ⟨Rd.nil, norm_nil _, rfl, Nat.le_refl _, Nat.zero_le _, fun _ => ⟨rfl, rfl⟩⟩
theorem Rd.take {w : World} {L B : Nat} {A : Option Addr} {l : List Nat} (h : Rd w L B 1 A l.length (u64s l)) (n : Nat) (hn : n ≤ l.length) : Rd w L B 1 A n (u64s (l.take n)) :=
  ⟨by simp [u64s]; omega, fun hp => by
    obtain ⟨b, o, e, h1, h2, h3⟩ := h.2 (by omega)
    refine ⟨b, o, e, h1, h2, fun j u hj => h3 j u ?_⟩
    unfold u64s at hj ⊢
    rw [List.getElem?_map] at hj ⊢
    have hjn : j < n := by
      refine Classical.byContradiction fun hc => ?_
      rw [List.getElem?_eq_none (by simp; omega)] at hj
      cases hj
    rwa [List.getElem?_take_of_lt hjn] at hj⟩

set_option maxHeartbeats 1000000 in
set_option maxRecDepth 100000 in
theorem natOf_any (n : Int) (w : World) (hn : n ≤ 9223372036854775807) : Calls Tryz.prog 26 #[.int .i64 n] w (NatPost n.toNat w) := by
  by_cases h : n ≤ 0
  · have h' : decide (n ≤ 0) = true := by simpa using h
    have HZ := Lib.hid (show n.toNat = 0 by omega)
    go_enter Tryz.func26, Tryz.ntmps26
    go_wp2
    go_ret
    exact ⟨none, 0, [], rfl, by rw [HZ.out]; exact natr_nil w, Below.refl _ _⟩
  · have h' : decide (n ≤ 0) = false := by simpa using h
    have HF := Lib.hid (show NatPost n.toNat w (.returned (.slice (some ⟨w.heap.size, 0, none⟩) 1 1)) (w.alloc (.cells #[.int .u64 n] 110)) from by
      refine ⟨_, 1, [n.toNat], rfl, ⟨⟨by simp [u64s], fun _ => ⟨w.heap.size, 0, rfl, Nat.zero_le _, by simp, fun j u hj => ?_⟩⟩, ⟨?_, ?_⟩, ?_, by simp, by unfold maxLen; omega, fun h => by cases h⟩, (Below.refl _ w).alloc (Nat.le_refl _) _⟩
      · have hj' := (List.getElem?_eq_some_iff.1 hj).1
        simp [u64s] at hj'
        subst hj'
        rw [cellsAt (alloc_at w _ _ rfl)]
        simp [u64s] at hj ⊢
        rw [← hj]; simp; omega
      · intro d hd
        simp at hd
        subst hd; unfold W64; omega
      · simp; omega
      · simp [val])
    go_enter Tryz.func26, Tryz.ntmps26
    go_wp2
    go_ret
    exact HF.out
def sliceLen : Value → Nat | .slice _ n _ => n | _ => 0
theorem cut_none (w : World) : Calls Tryz.prog 69 #[.slice none 0 0] w fun e w' => e = .returned (.slice none 0 0) ∧ w = w' := by
  go_enter Tryz.func69, Tryz.ntmps69
  go_wp2
  refine wp_loop_rounds 1 ?_
  rw [rounds_succ]
  go_wp2
  go_ret
  exact ⟨rfl, rfl⟩
set_option maxHeartbeats 1000000 in
set_option maxRecDepth 100000 in
theorem cut_some (ad : Addr) (c : Nat) (l : List Nat) (w : World) (hr : Rd w 0 w.heap.size 1 (some ad) l.length (u64s l)) (hc : l.length ≤ c) (hcm : c ≤ maxLen) :
    Calls Tryz.prog 69 #[.slice (some ad) l.length c] w fun e w' => e = .returned (.slice (some ad) (trim l).length c) ∧ w = w' := by
  have HR := Lib.hid hr
  unfold maxLen at hcm
  clear hr
  go_enter Tryz.func69, Tryz.ntmps69
  go_wp2
  go_loop [0] (fun v => ∃ n : Nat, n ≤ l.length ∧ v = .slice (some ad) n c ∧ ∀ i, n ≤ i → i < l.length → l[i]? = some 0) (fun v => sliceLen v)
  case atStart => exact ⟨l.length, Nat.le_refl _, rfl, fun i h1 h2 => by omega⟩
  case round =>
    obtain ⟨n, hn, rfl, hz⟩ := hrel
    have HZ := Lib.hid hz
    clear hz
    cases n with
    | zero =>
      have HT := Lib.hid (show 0 = (trim l).length by rw [trim_take l 0 hn HZ.out (.inl rfl)]; simp)
      go_wp2
      go_ret
      exact ⟨congrArg (fun z => Ending.returned (.slice (some ad) z c)) HT.out, rfl⟩
    | succ n =>
      obtain ⟨b, o, u, hA, hb, hu, hcell⟩ := HR.out.at1 (show n < l.length by omega)
      obtain ⟨d, hd, rfl⟩ := u64s_get hu
      obtain rfl : ad = ⟨b, o, none⟩ := by injection hA
      have HD := Lib.hid hd
      clear hu hd hA
      by_cases h0 : d = 0
      · subst h0
        have HN := Lib.hid (show ∀ i, n ≤ i → i < l.length → l[i]? = some 0 from fun i h1 h2 => by
          rcases Nat.eq_or_lt_of_le h1 with e | e
          · rw [← e]; exact HD.out
          · exact HZ.out i e h2)
        go_wp2
        go_round
        case rel => exact ⟨n, by omega, rfl, HN.out⟩
        case measure => simp [sliceLen]
      · have h0' : ((d : Int) == 0) = false := by simpa using h0
        have HT := Lib.hid (show n + 1 = (trim l).length by
          rw [trim_take l (n + 1) hn HZ.out (.inr (by rw [Nat.add_sub_cancel, HD.out]; simpa using h0))]; simp; omega)
        go_wp2
        go_ret
        exact ⟨congrArg (fun z => Ending.returned (.slice (some ⟨b, o, none⟩) z c)) HT.out, rfl⟩
theorem cut_any (A : Option Addr) (c : Nat) (l : List Nat) (w : World) (hr : Rd w 0 w.heap.size 1 A l.length (u64s l)) (hc : l.length ≤ c) (hcm : c ≤ maxLen) (hA : A = none → l.length = 0 ∧ c = 0) :
    Calls Tryz.prog 69 #[.slice A l.length c] w fun e w' => e = .returned (.slice A (trim l).length c) ∧ w = w' := by
  cases A with
  | none =>
    obtain ⟨h1, rfl⟩ := hA rfl
    obtain rfl : l = [] := List.eq_nil_of_length_eq_zero h1
    exact cut_none w
  | some ad => exact cut_some ad c l w hr hc hcm
theorem trim_pre (l : List Nat) : trim l = l.take (trim l).length := by
  induction l with
  | nil => simp [trim]
  | cons d r ih =>
    unfold trim
    split
    · simp
    · rw [List.length_cons, List.take_succ_cons, ← ih]
/-- what cut returns is the number of the digits -/
theorem natr_cut {w : World} {A : Option Addr} {c : Nat} {l : List Nat} (hr : Rd w 0 w.heap.size 1 A l.length (u64s l)) (hd : ∀ d ∈ l, d < W64) (hc : l.length ≤ c) (hcm : c ≤ maxLen) (hA : A = none → l.length = 0 ∧ c = 0) : NatR w A c (trim l) (val W64 l) := by
  have hl := trim_length l
  refine ⟨?_, trim_norm hd, trim_val _ _, by omega, hcm, fun h => ⟨by have := hA h; omega, (hA h).2⟩⟩
  have := hr.take (trim l).length hl
  rwa [← trim_pre] at this

/-- -1, 0 or 1 -/
def cmpN (x y : Nat) : Int := if x < y then -1 else if x = y then 0 else 1
theorem cmpN_lt {x y : Nat} (h : x < y) : -1 = cmpN x y := by unfold cmpN; rw [if_pos h]
theorem cmpN_gt {x y : Nat} (h : y < x) : 1 = cmpN x y := by unfold cmpN; rw [if_neg (by omega), if_neg (by omega)]
theorem cmpN_eq {x y : Nat} (h : x = y) : 0 = cmpN x y := by unfold cmpN; rw [if_neg (by omega), if_pos h]
theorem split_at {l : List Nat} {j d : Nat} (h : l[j]? = some d) : l = l.take j ++ d :: l.drop (j + 1) := by
  have hj := (List.getElem?_eq_some_iff.1 h).1
  have hd := (List.getElem?_eq_some_iff.1 h).2
  rw [← hd, ← List.drop_eq_getElem_cons hj, List.take_append_drop]
theorem val_cmp_at {B : Nat} {l1 l2 : List Nat} {j d1 d2 : Nat} (hl : l1.length = l2.length) (h1 : l1[j]? = some d1) (h2 : l2[j]? = some d2) (hs : l1.drop (j + 1) = l2.drop (j + 1)) (hd : ∀ d ∈ l1, d < B) (h : d1 < d2) : val B l1 < val B l2 := by
  rw [split_at h1, split_at h2, ← hs]
  exact val_part _ _ _ _ _ (by simp; omega) (fun d hd' => hd d (List.mem_of_mem_take hd')) h

theorem drewN_add (w : World) (a b : Nat) : (w.drewN a).drewN b = w.drewN (a + b) := by simp [World.drewN, Nat.add_assoc]
set_option maxHeartbeats 2000000 in
set_option maxRecDepth 100000 in
theorem natCmp_any (A1 A2 : Option Addr) (c1 c2 : Nat) (l1 l2 : List Nat) (x y : Nat) (w : World) (h1 : NatR w A1 c1 l1 x) (h2 : NatR w A2 c2 l2 y) (hs : l1.length ≤ 1000000) (_hs2 : l2.length ≤ 1000000) :
    Calls Tryz.prog 67 #[.slice A1 l1.length c1, .slice A2 l2.length c2] w fun e w' => e = .returned (.int .i64 (cmpN x y)) ∧ ∃ q, w' = w.drewN q := by
  have HN1 := Lib.hid h1
  have HN2 := Lib.hid h2
  clear h1 h2
  by_cases hl : l1.length = l2.length
  · rw [← hl]
    have HL := Lib.hid hl
    clear hl _hs2
    go_enter Tryz.func67, Tryz.ntmps67
    go_wp2
    go_loopw [5] (fun i wr => ∃ k : Nat, k ≤ l1.length ∧ i = .int .i64 ((k : Int) - 1) ∧ l1.drop k = l2.drop k ∧ ∃ q, wr = w.drewN q) (fun i _ => (intOf i + 1).toNat)
    case atStart => exact ⟨l1.length, Nat.le_refl _, rfl, by rw [List.drop_length, HL.out, List.drop_length], 0, rfl⟩
    case round =>
      obtain ⟨k, hk, rfl, hdr, q, rfl⟩ := hrel
      have HDR := Lib.hid hdr
      clear hdr
      cases k with
      | zero =>
        have HE := Lib.hid (cmpN_eq (show x = y by
          have := HDR.out
          simp only [List.drop_zero] at this
          rw [← HN1.out.val, ← HN2.out.val, this]))
        go_wp2
        go_ret
        exact ⟨congrArg (fun z => Ending.returned (.int .i64 z)) HE.out, _, rfl⟩
      | succ j =>
        have e : (((j + 1 : Nat) : Int) - 1) = (j : Int) := by omega
        rw [e]
        clear e
        obtain ⟨b1, o1, u1, rfl, hb1, hu1, q1⟩ := HN1.out.rd.at1 (show j < l1.length by omega)
        obtain ⟨b2, o2, u2, rfl, hb2, hu2, q2⟩ := HN2.out.rd.at1 (show j < l2.length by have := HL.out; omega)
        obtain ⟨d1, hd1, rfl⟩ := u64s_get hu1
        obtain ⟨d2, hd2, rfl⟩ := u64s_get hu2
        have HD1 := Lib.hid hd1
        have HD2 := Lib.hid hd2
        have hj0 : (0 : Int) ≤ (j : Int) := by omega
        have hj1 : (j : Int) < (l1.length : Int) := by omega
        clear hu1 hu2 hd1 hd2
        have t0 : decide ((0 : Int) ≤ ↑j) = true := by simp
        by_cases hlt : d1 < d2
        · have HV := Lib.hid (cmpN_lt (show x < y by
            rw [← HN1.out.val, ← HN2.out.val]
            exact val_cmp_at HL.out HD1.out HD2.out HDR.out HN1.out.norm.1 hlt))
          have t1 : decide (d1 < d2) = true := by simpa using hlt
          go_wp2
          go_quiet (fail)
          go_wp2
          go_ret
          exact ⟨congrArg (fun z => Ending.returned (.int .i64 z)) HV.out, _, by first | rfl | (rw [drewN_add, drewN_add]) | (rw [drewN_add])⟩
        · have t1 : decide (d1 < d2) = false := by simpa using hlt
          by_cases hgt : d2 < d1
          · have HV := Lib.hid (cmpN_gt (show y < x by
              rw [← HN1.out.val, ← HN2.out.val]
              exact val_cmp_at HL.out.symm HD2.out HD1.out HDR.out.symm HN2.out.norm.1 hgt))
            have t2 : decide (d2 < d1) = true := by simpa using hgt
            go_wp2
            go_quiet (fail)
            go_wp2
            go_quiet (fail)
            go_wp2
            go_ret
            exact ⟨congrArg (fun z => Ending.returned (.int .i64 z)) HV.out, _, by first | rfl | (rw [drewN_add, drewN_add]) | (rw [drewN_add])⟩
          · have t2 : decide (d2 < d1) = false := by simpa using hgt
            have HN := Lib.hid (show l1.drop j = l2.drop j by
              have e1 := split_at HD1.out
              have e2 := split_at HD2.out
              have hj1' := (List.getElem?_eq_some_iff.1 HD1.out)
              have hj2' := (List.getElem?_eq_some_iff.1 HD2.out)
              rw [List.drop_eq_getElem_cons hj1'.1, List.drop_eq_getElem_cons hj2'.1, HDR.out, hj1'.2, hj2'.2, show d1 = d2 by omega])
            go_wp2
            go_quiet (fail)
            go_wp2
            go_quiet (fail)
            go_wp2
            go_roundw
            case rel => exact ⟨j, by omega, rfl, HN.out, _, by first | rfl | (rw [drewN_add, drewN_add]) | (rw [drewN_add])⟩
            case measure => simp [intOf]
  · by_cases hlt : l1.length < l2.length
    · have t1 : ((l1.length : Int) != (l2.length : Int)) = true := by simp; omega
      have t2 : decide (l1.length < l2.length) = true := by simpa using hlt
      have HV := Lib.hid (cmpN_lt (show x < y by
        have := val_len_lt W64_pos HN1.out.norm HN2.out.norm hlt
        rwa [HN1.out.val, HN2.out.val] at this))
      clear hl
      go_enter Tryz.func67, Tryz.ntmps67
      go_wp2
      go_ret
      exact ⟨congrArg (fun z => Ending.returned (.int .i64 z)) HV.out, 0, rfl⟩
    · have t1 : ((l1.length : Int) != (l2.length : Int)) = true := by simp; omega
      have t2 : decide (l1.length < l2.length) = false := by simpa using hlt
      have HV := Lib.hid (cmpN_gt (show y < x by
        have := val_len_lt W64_pos HN2.out.norm HN1.out.norm (show l2.length < l1.length by omega)
        rwa [HN1.out.val, HN2.out.val] at this))
      clear hl
      go_enter Tryz.func67, Tryz.ntmps67
      go_wp2
      go_ret
      exact ⟨congrArg (fun z => Ending.returned (.int .i64 z)) HV.out, 0, rfl⟩
end Go.Proofs.YtnpfdelklolchaaGreatDoor
