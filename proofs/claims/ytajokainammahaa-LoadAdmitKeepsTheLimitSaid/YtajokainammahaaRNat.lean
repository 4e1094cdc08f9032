/- Package dynamometerref0: numbers in base 10000: Cmp. -/
import Derived.Test.YtajokainammahaaNat
namespace Go.Proofs.Ytajokainammahaa
open Go Go.RowKit Go.Proofs

/-- the words' base -/
def T4 : Nat := 10000
theorem T4_pos : 1 < T4 := by unfold T4; omega
def d4s (l : List Nat) : List Value := l.map fun d : Nat => Value.int .i64 (d : Int)
theorem d4s_length (l : List Nat) : (d4s l).length = l.length := by simp [d4s]
theorem d4s_get {l : List Nat} {i : Nat} {u : Value} (h : (d4s l)[i]? = some u) : ∃ d, l[i]? = some d ∧ u = .int .i64 (d : Int) := by
  unfold d4s at h; rw [List.getElem?_map] at h
  cases hz : l[i]? with
  | none => rw [hz] at h; cases h
  | some z => rw [hz] at h; exact ⟨z, rfl, by simpa using h.symm⟩
/-- the slice (A, l.length, c) is the number x -/
structure RNatR (w : World) (A : Option Addr) (c : Nat) (l : List Nat) (x : Nat) : Prop where
  rd : Rd w 0 w.heap.size 1 A l.length (d4s l)
  norm : Norm T4 l
  val : val T4 l = x
  cap : l.length ≤ c
  max : c ≤ maxLen
  nil : A = none → l.length = 0 ∧ c = 0
theorem RNatR.on {w w' : World} {A : Option Addr} {c : Nat} {l : List Nat} {x : Nat} (h : RNatR w A c l x) (hb : Below w.heap.size w w') : RNatR w' A c l x := ⟨h.rd.old hb, h.norm, h.val, h.cap, h.max, h.nil⟩
/-- what a function returns that makes a number -/
def RNatPost (x : Nat) (w : World) (e : Ending) (w' : World) : Prop := ∃ A c l, e = .returned (.slice A l.length c) ∧ RNatR w' A c l x ∧ Below w.heap.size w w'
theorem rnatr_nil (w : World) : RNatR w none 0 [] 0 := ⟨Rd.nil, norm_nil _, rfl, Nat.le_refl _, Nat.zero_le _, fun _ => ⟨rfl, rfl⟩⟩
theorem Rd.take4 {w : World} {L B : Nat} {A : Option Addr} {l : List Nat} (h : Rd w L B 1 A l.length (d4s l)) (n : Nat) (hn : n ≤ l.length) : Rd w L B 1 A n (d4s (l.take n)) :=
  ⟨by simp [d4s]; omega, fun hp => by
    obtain ⟨b, o, e, h1, h2, h3⟩ := h.2 (by omega)
    refine ⟨b, o, e, h1, h2, fun j u hj => h3 j u ?_⟩
    unfold d4s at hj ⊢
    rw [List.getElem?_map] at hj ⊢
    have hjn : j < n := by
      refine Classical.byContradiction fun hc => ?_
      rw [List.getElem?_eq_none (by simp; omega)] at hj
      cases hj
    rwa [List.getElem?_take_of_lt hjn] at hj⟩

set_option maxHeartbeats 2000000 in
set_option maxRecDepth 100000 in
theorem rnatCmp_any (A1 A2 : Option Addr) (c1 c2 : Nat) (l1 l2 : List Nat) (x y : Nat) (w : World) (h1 : RNatR w A1 c1 l1 x) (h2 : RNatR w A2 c2 l2 y) (hs : l1.length ≤ 1000000) (hs2 : l2.length ≤ 1000000) :
    Calls Try.prog 13 #[.slice A1 l1.length c1, .slice A2 l2.length c2] w fun e w' => e = .returned (.int .i64 (cmpN x y)) ∧ ∃ q, w' = w.drewN q := by
  have HN1 := Lib.hid h1
  have HN2 := Lib.hid h2
  clear h1 h2
  by_cases hl : l1.length = l2.length
  · rw [← hl]
    have HL := Lib.hid hl
    clear hl hs2
    go_enter Try.func13, Try.ntmps13
    go_wp2
    go_loopw [5] (fun i wr => ∃ k : Nat, k ≤ l1.length ∧ i = .int .i64 ((k : Int) - 1) ∧ l1.drop k = l2.drop k ∧ ∃ q, wr = w.drewN q) (fun i _ => (intOf i + 1).toNat)
    case atStart => exact ⟨l1.length, Nat.le_refl _, rfl, by rw [List.drop_length, HL.out, List.drop_length], 0, rfl⟩
    case round =>
      obtain ⟨k, hk, rfl, hdr, q, rfl⟩ := hrel
      have HDR := Lib.hid hdr
      clear hdr
      cases k with
      | zero =>
        have HE := Lib.hid (cmpN_eq (show x = y by
          have := HDR.out
          simp only [List.drop_zero] at this
          rw [← HN1.out.val, ← HN2.out.val, this]))
        go_wp2
        go_ret
        exact ⟨congrArg (fun z => Ending.returned (.int .i64 z)) HE.out, _, rfl⟩
      | succ j =>
        have e : (((j + 1 : Nat) : Int) - 1) = (j : Int) := by omega
        rw [e]
        clear e
        obtain ⟨b1, o1, u1, rfl, hb1, hu1, q1⟩ := HN1.out.rd.at1 (show j < l1.length by omega)
        obtain ⟨b2, o2, u2, rfl, hb2, hu2, q2⟩ := HN2.out.rd.at1 (show j < l2.length by have := HL.out; omega)
        obtain ⟨d1, hd1, rfl⟩ := d4s_get hu1
        obtain ⟨d2, hd2, rfl⟩ := d4s_get hu2
        have HD1 := Lib.hid hd1
        have HD2 := Lib.hid hd2
        have hj0 : (0 : Int) ≤ (j : Int) := by omega
        have hj1 : (j : Int) < (l1.length : Int) := by omega
        clear hu1 hu2 hd1 hd2
        have t0 : decide ((0 : Int) ≤ ↑j) = true := by simp
        by_cases hlt : d1 < d2
        · have HV := Lib.hid (cmpN_lt (show x < y by
            rw [← HN1.out.val, ← HN2.out.val]
            exact val_cmp_at HL.out HD1.out HD2.out HDR.out HN1.out.norm.1 hlt))
          have t1 : decide (d1 < d2) = true := by simpa using hlt
          go_wp2
          go_quiet (fail)
          go_wp2
          go_ret
          exact ⟨congrArg (fun z => Ending.returned (.int .i64 z)) HV.out, _, by first | rfl | (rw [drewN_add, drewN_add]) | (rw [drewN_add])⟩
        · have t1 : decide (d1 < d2) = false := by simpa using hlt
          by_cases hgt : d2 < d1
          · have HV := Lib.hid (cmpN_gt (show y < x by
              rw [← HN1.out.val, ← HN2.out.val]
              exact val_cmp_at HL.out.symm HD2.out HD1.out HDR.out.symm HN2.out.norm.1 hgt))
            have t2 : decide (d2 < d1) = true := by simpa using hgt
            go_wp2
            go_quiet (fail)
            go_wp2
            go_quiet (fail)
            go_wp2
            go_ret
            exact ⟨congrArg (fun z => Ending.returned (.int .i64 z)) HV.out, _, by first | rfl | (rw [drewN_add, drewN_add]) | (rw [drewN_add])⟩
          · have t2 : decide (d2 < d1) = false := by simpa using hgt
            have HN := Lib.hid (show l1.drop j = l2.drop j by
              have e1 := split_at HD1.out
              have e2 := split_at HD2.out
              have hj1' := (List.getElem?_eq_some_iff.1 HD1.out)
              have hj2' := (List.getElem?_eq_some_iff.1 HD2.out)
              rw [List.drop_eq_getElem_cons hj1'.1, List.drop_eq_getElem_cons hj2'.1, HDR.out, hj1'.2, hj2'.2, show d1 = d2 by omega])
            go_wp2
            go_quiet (fail)
            go_wp2
            go_quiet (fail)
            go_wp2
            go_roundw
            case rel => exact ⟨j, by omega, rfl, HN.out, _, by first | rfl | (rw [drewN_add, drewN_add]) | (rw [drewN_add])⟩
            case measure => simp [intOf]
  · by_cases hlt : l1.length < l2.length
    · have t1 : ((l1.length : Int) != (l2.length : Int)) = true := by simp; omega
      have t2 : decide (l1.length < l2.length) = true := by simpa using hlt
      have HV := Lib.hid (cmpN_lt (show x < y by
        have := val_len_lt T4_pos HN1.out.norm HN2.out.norm hlt
        rwa [HN1.out.val, HN2.out.val] at this))
      clear hl
      go_enter Try.func13, Try.ntmps13
      go_wp2
      go_ret
      exact ⟨congrArg (fun z => Ending.returned (.int .i64 z)) HV.out, 0, rfl⟩
    · have t1 : ((l1.length : Int) != (l2.length : Int)) = true := by simp; omega
      have t2 : decide (l1.length < l2.length) = false := by simpa using hlt
      have HV := Lib.hid (cmpN_gt (show y < x by
        have := val_len_lt T4_pos HN2.out.norm HN1.out.norm (show l2.length < l1.length by omega)
        rwa [HN1.out.val, HN2.out.val] at this))
      clear hl
      go_enter Try.func13, Try.ntmps13
      go_wp2
      go_ret
      exact ⟨congrArg (fun z => Ending.returned (.int .i64 z)) HV.out, 0, rfl⟩
end Go.Proofs.Ytajokainammahaa
