import Derived.Test.YtnpfdelklolchaaGreatDoorG3
import Derived.Test.YtnpfdelklolchaaGreatDoorNatAdd
/- Package dynamometerref0: numbers in base 10000: Cmp. -/
namespace Go.Proofs.YtnpfdelklolchaaGreatDoor
open Go Go.RowKit Go.Proofs

/-- the words' base -/
def T4 : Nat := 10000
theorem T4_pos : 1 < T4 := by unfold T4; omega
def d4s (l : List Nat) : List Value := l.map fun d : Nat => Value.int .i64 (d : Int)
theorem d4s_length (l : List Nat) : (d4s l).length = l.length := by simp [d4s]
theorem d4s_get {l : List Nat} {i : Nat} {u : Value} (h : (d4s l)[i]? = some u) : ∃ d, l[i]? = some d ∧ u = .int .i64 (d : Int) := by
  unfold d4s at h; rw [List.getElem?_map] at h
  cases hz : l[i]? with
  | none => rw [hz] at h; cases h
  | some z => rw [hz] at h; exact ⟨z, rfl, by simpa using h.symm⟩
/-- the slice (A, l.length, c) is the number x -/
structure RNatR (w : World) (A : Option Addr) (c : Nat) (l : List Nat) (x : Nat) : Prop where
  rd : Rd w 0 w.heap.size 1 A l.length (d4s l)
  norm : Norm T4 l
  val : val T4 l = x
  cap : l.length ≤ c
  max : c ≤ maxLen
  nil : A = none → l.length = 0 ∧ c = 0
theorem RNatR.on {w w' : World} {A : Option Addr} {c : Nat} {l : List Nat} {x : Nat} (h : RNatR w A c l x) (hb : Below w.heap.size w w') : RNatR w' A c l x := ⟨h.rd.old hb, h.norm, h.val, h.cap, h.max, h.nil⟩
/-- what a function returns that makes a number -/
def RNatPost (x : Nat) (w : World) (e : Ending) (w' : World) : Prop := ∃ A c l, e = .returned (.slice A l.length c) ∧ RNatR w' A c l x ∧ Below w.heap.size w w'
/-- .. in memory of its own -/
def RNatNew (x : Nat) (w : World) (e : Ending) (w' : World) : Prop := ∃ A c l, e = .returned (.slice A l.length c) ∧ RNatR w' A c l x ∧ Below w.heap.size w w' ∧ ∀ b o, A = some ⟨b, o, none⟩ → w.heap.size ≤ b
theorem RNatNew.post {x : Nat} {w : World} {e : Ending} {w' : World} : RNatNew x w e w' → RNatPost x w e w' := fun ⟨A, c, l, h1, h2, h3, _⟩ => ⟨A, c, l, h1, h2, h3⟩
theorem rnatr_nil (w : World) : RNatR w none 0 [] 0 := ⟨Rd.nil, norm_nil _, rfl, Nat.le_refl _, Nat.zero_le _, fun _ => ⟨rfl, rfl⟩⟩
theorem Rd.take4 {w : World} {L B : Nat} {A : Option Addr} {l : List Nat} (h : Rd w L B 1 A l.length (d4s l)) (n : Nat) (hn : n ≤ l.length) : Rd w L B 1 A n (d4s (l.take n)) :=
  ⟨by simp [d4s]; omega, fun hp => by
    obtain ⟨b, o, e, h1, h2, h3⟩ := h.2 (by omega)
    refine ⟨b, o, e, h1, h2, fun j u hj => h3 j u ?_⟩
    unfold d4s at hj ⊢
    rw [List.getElem?_map] at hj ⊢
    have hjn : j < n := by
      refine Classical.byContradiction fun hc => ?_
      rw [List.getElem?_eq_none (by simp; omega)] at hj
      cases hj
    rwa [List.getElem?_take_of_lt hjn] at hj⟩

set_option maxHeartbeats 2000000 in
set_option maxRecDepth 100000 in
theorem rnatCmp_any (A1 A2 : Option Addr) (c1 c2 : Nat) (l1 l2 : List Nat) (x y : Nat) (w : World) (h1 : RNatR w A1 c1 l1 x) (h2 : RNatR w A2 c2 l2 y) (hs : l1.length ≤ 1000000) (_hs2 : l2.length ≤ 1000000) :
    Calls Tryz.prog 50 #[.slice A1 l1.length c1, .slice A2 l2.length c2] w fun e w' => e = .returned (.int .i64 (cmpN x y)) ∧ ∃ q, w' = w.drewN q := by
  have HN1 := Lib.hid h1
  have HN2 := Lib.hid h2
  clear h1 h2
  by_cases hl : l1.length = l2.length
  · rw [← hl]
    have HL := Lib.hid hl
    clear hl
    go_enter Tryz.func50, Tryz.ntmps50
    go_wp2
    go_loopw [5] (fun i wr => ∃ k : Nat, k ≤ l1.length ∧ i = .int .i64 ((k : Int) - 1) ∧ l1.drop k = l2.drop k ∧ ∃ q, wr = w.drewN q) (fun i _ => (intOf i + 1).toNat)
    case atStart => exact ⟨l1.length, Nat.le_refl _, rfl, by rw [List.drop_length, HL.out, List.drop_length], 0, rfl⟩
    case round =>
      obtain ⟨k, hk, rfl, hdr, q, rfl⟩ := hrel
      have HDR := Lib.hid hdr
      clear hdr
      cases k with
      | zero =>
        have HE := Lib.hid (cmpN_eq (show x = y by
          have := HDR.out
          simp only [List.drop_zero] at this
          rw [← HN1.out.val, ← HN2.out.val, this]))
        go_wp2
        go_ret
        exact ⟨congrArg (fun z => Ending.returned (.int .i64 z)) HE.out, _, rfl⟩
      | succ j =>
        have e : (((j + 1 : Nat) : Int) - 1) = (j : Int) := by omega
        rw [e]
        clear e
        obtain ⟨b1, o1, u1, rfl, hb1, hu1, q1⟩ := HN1.out.rd.at1 (show j < l1.length by omega)
        obtain ⟨b2, o2, u2, rfl, hb2, hu2, q2⟩ := HN2.out.rd.at1 (show j < l2.length by have := HL.out; omega)
        obtain ⟨d1, hd1, rfl⟩ := d4s_get hu1
        obtain ⟨d2, hd2, rfl⟩ := d4s_get hu2
        have HD1 := Lib.hid hd1
        have HD2 := Lib.hid hd2
        have hj0 : (0 : Int) ≤ (j : Int) := by omega
        have hj1 : (j : Int) < (l1.length : Int) := by omega
        clear hu1 hu2 hd1 hd2
        have t0 : decide ((0 : Int) ≤ ↑j) = true := by simp
        by_cases hlt : d1 < d2
        · have HV := Lib.hid (cmpN_lt (show x < y by
            rw [← HN1.out.val, ← HN2.out.val]
            exact val_cmp_at HL.out HD1.out HD2.out HDR.out HN1.out.norm.1 hlt))
          have t1 : decide (d1 < d2) = true := by simpa using hlt
          go_wp2
          go_quiet (fail)
          go_wp2
          go_ret
          exact ⟨congrArg (fun z => Ending.returned (.int .i64 z)) HV.out, _, by first | rfl | (rw [drewN_add, drewN_add]) | (rw [drewN_add])⟩
        · have t1 : decide (d1 < d2) = false := by simpa using hlt
          by_cases hgt : d2 < d1
          · have HV := Lib.hid (cmpN_gt (show y < x by
              rw [← HN1.out.val, ← HN2.out.val]
              exact val_cmp_at HL.out.symm HD2.out HD1.out HDR.out.symm HN2.out.norm.1 hgt))
            have t2 : decide (d2 < d1) = true := by simpa using hgt
            go_wp2
            go_quiet (fail)
            go_wp2
            go_quiet (fail)
            go_wp2
            go_ret
            exact ⟨congrArg (fun z => Ending.returned (.int .i64 z)) HV.out, _, by first | rfl | (rw [drewN_add, drewN_add]) | (rw [drewN_add])⟩
          · have t2 : decide (d2 < d1) = false := by simpa using hgt
            have HN := Lib.hid (show l1.drop j = l2.drop j by
              have e1 := split_at HD1.out
              have e2 := split_at HD2.out
              have hj1' := (List.getElem?_eq_some_iff.1 HD1.out)
              have hj2' := (List.getElem?_eq_some_iff.1 HD2.out)
              rw [List.drop_eq_getElem_cons hj1'.1, List.drop_eq_getElem_cons hj2'.1, HDR.out, hj1'.2, hj2'.2, show d1 = d2 by omega])
            go_wp2
            go_quiet (fail)
            go_wp2
            go_quiet (fail)
            go_wp2
            go_roundw
            case rel => exact ⟨j, by omega, rfl, HN.out, _, by first | rfl | (rw [drewN_add, drewN_add]) | (rw [drewN_add])⟩
            case measure => simp [intOf]
  · by_cases hlt : l1.length < l2.length
    · have t1 : ((l1.length : Int) != (l2.length : Int)) = true := by simp; omega
      have t2 : decide (l1.length < l2.length) = true := by simpa using hlt
      have HV := Lib.hid (cmpN_lt (show x < y by
        have := val_len_lt T4_pos HN1.out.norm HN2.out.norm hlt
        rwa [HN1.out.val, HN2.out.val] at this))
      clear hl
      go_enter Tryz.func50, Tryz.ntmps50
      go_wp2
      go_ret
      exact ⟨congrArg (fun z => Ending.returned (.int .i64 z)) HV.out, 0, rfl⟩
    · have t1 : ((l1.length : Int) != (l2.length : Int)) = true := by simp; omega
      have t2 : decide (l1.length < l2.length) = false := by simpa using hlt
      have HV := Lib.hid (cmpN_gt (show y < x by
        have := val_len_lt T4_pos HN2.out.norm HN1.out.norm (show l2.length < l1.length by omega)
        rwa [HN1.out.val, HN2.out.val] at this))
      clear hl
      go_enter Tryz.func50, Tryz.ntmps50
      go_wp2
      go_ret
      exact ⟨congrArg (fun z => Ending.returned (.int .i64 z)) HV.out, 0, rfl⟩
end Go.Proofs.YtnpfdelklolchaaGreatDoor

/- Package dynamometerref0: trimmed. -/
namespace Go.Proofs.YtnpfdelklolchaaGreatDoor
open Go Go.RowKit Go.Proofs

theorem trimmed_none (w : World) : Calls Tryz.prog 91 #[.slice none 0 0] w fun e w' => e = .returned (.slice none 0 0) ∧ w = w' := by
  go_enter Tryz.func91, Tryz.ntmps91
  go_wp2
  refine wp_loop_rounds 1 ?_
  rw [rounds_succ]
  go_wp2
  go_ret
  exact ⟨rfl, rfl⟩
set_option maxHeartbeats 1000000 in
set_option maxRecDepth 100000 in
theorem trimmed_some (ad : Addr) (c : Nat) (l : List Nat) (w : World) (hr : Rd w 0 w.heap.size 1 (some ad) l.length (d4s l)) (hc : l.length ≤ c) (hcm : c ≤ maxLen) :
    Calls Tryz.prog 91 #[.slice (some ad) l.length c] w fun e w' => e = .returned (.slice (some ad) (trim l).length (trim l).length) ∧ w = w' := by
  have HR := Lib.hid hr
  unfold maxLen at hcm
  clear hr
  go_enter Tryz.func91, Tryz.ntmps91
  go_wp2
  go_loop [3] (fun v => ∃ n : Nat, n ≤ l.length ∧ v = .int .i64 n ∧ ∀ i, n ≤ i → i < l.length → l[i]? = some 0) (fun v => (intOf v).toNat)
  case atStart => exact ⟨l.length, Nat.le_refl _, rfl, fun i h1 h2 => by omega⟩
  case round =>
    obtain ⟨n, hn, rfl, hz⟩ := hrel
    have HZ := Lib.hid hz
    clear hz
    have hn0 : (0 : Int) ≤ (n : Int) := by omega
    cases n with
    | zero =>
      have HT := Lib.hid (show 0 = (trim l).length by rw [trim_take l 0 hn HZ.out (.inl rfl)]; simp)
      go_wp2
      go_ret
      exact ⟨congrArg (fun z => Ending.returned (.slice (some ad) z z)) HT.out, rfl⟩
    | succ n =>
      obtain ⟨b, o, u, hA, hb, hu, hcell⟩ := HR.out.at1 (show n < l.length by omega)
      obtain ⟨d, hd, rfl⟩ := d4s_get hu
      obtain rfl : ad = ⟨b, o, none⟩ := by injection hA
      have HD := Lib.hid hd
      clear hu hd hA
      by_cases h0 : d = 0
      · subst h0
        have HN := Lib.hid (show ∀ i, n ≤ i → i < l.length → l[i]? = some 0 from fun i h1 h2 => by
          rcases Nat.eq_or_lt_of_le h1 with e | e
          · rw [← e]; exact HD.out
          · exact HZ.out i e h2)
        go_wp2
        go_round
        case rel => exact ⟨n, by omega, by go_num, HN.out⟩
        case measure => simp [intOf]
      · have h0' : ((d : Int) == 0) = false := by simpa using h0
        have HT := Lib.hid (show n + 1 = (trim l).length by
          rw [trim_take l (n + 1) hn HZ.out (.inr (by rw [Nat.add_sub_cancel, HD.out]; simpa using h0))]; simp; omega)
        go_wp2
        go_ret
        exact ⟨congrArg (fun z => Ending.returned (.slice (some ⟨b, o, none⟩) z z)) HT.out, rfl⟩
theorem trimmed_any (A : Option Addr) (c : Nat) (l : List Nat) (w : World) (hr : Rd w 0 w.heap.size 1 A l.length (d4s l)) (hc : l.length ≤ c) (hcm : c ≤ maxLen) (hA : A = none → l.length = 0 ∧ c = 0) :
    Calls Tryz.prog 91 #[.slice A l.length c] w fun e w' => e = .returned (.slice A (trim l).length (trim l).length) ∧ w = w' := by
  cases A with
  | none =>
    obtain ⟨h1, rfl⟩ := hA rfl
    obtain rfl : l = [] := List.eq_nil_of_length_eq_zero h1
    exact trimmed_none w
  | some ad => exact trimmed_some ad c l w hr hc hcm
theorem rnatr_trim {w : World} {A : Option Addr} {l : List Nat} (hr : Rd w 0 w.heap.size 1 A l.length (d4s l)) (hd : ∀ d ∈ l, d < T4) (hcm : l.length ≤ maxLen) (hA : A = none → l.length = 0) : RNatR w A (trim l).length (trim l) (val T4 l) := by
  have hl := trim_length l
  refine ⟨?_, trim_norm hd, trim_val _ _, Nat.le_refl _, by omega, fun h => ⟨by have := hA h; omega, by have := hA h; omega⟩⟩
  have := hr.take4 (trim l).length hl
  rwa [← trim_pre] at this
end Go.Proofs.YtnpfdelklolchaaGreatDoor

/- Package dynamometerref0: blocks of words. -/
namespace Go.Proofs.YtnpfdelklolchaaGreatDoor
open Go Go.RowKit Go.Proofs

theorem Tryz.infoI4 : (Tryz.prog.info? 3).map (fun i => (i.zero, i.size, i.bytes)) = some (some (.int .i64 0), 1, 8) := by kernel_rfl
/-- block g holds these words -/
def Blk4 (w : World) (g : Nat) (o : List Nat) : Prop := w.heap[g]? = some (.cells (d4s o).toArray 3 (0, 0))
theorem Blk4.cell {w : World} {g : Nat} {o : List Nat} (h : Blk4 w g o) {i d : Nat} (hi : o[i]? = some d) : w.cell? ⟨g, i, none⟩ = some (.int .i64 d) := by
  rw [cellsAt h]; simp [d4s, hi]
theorem Blk4.frozen {w : World} {g : Nat} {o : List Nat} (h : Blk4 w g o) (i : Nat) : w.frozen? ⟨g, i, none⟩ = false := frozenAt h i
theorem Blk4.set {w : World} {g : Nat} {o : List Nat} (h : Blk4 w g o) (i d : Nat) : Blk4 (w.setCell ⟨g, i, none⟩ (.int .i64 d)) g (o.set i d) := by
  unfold Blk4 at *
  simp only [World.setCell, Array.getElem?_modify, h, if_true, Option.map_some]
  congr 2
  rw [List.setIfInBounds_toArray]
  simp [d4s, List.map_set]
theorem Blk4.of_own {w : World} {base g n : Nat} {o : List Nat} (h : w.ownsRow base 3 1 (.slice (some ⟨g, 0, none⟩) n n) n (d4s o)) : Blk4 w g o ∧ o.length = n := by
  have hl : o.length = n := by have := h.1; simpa [d4s] using this
  rcases h.2 with ⟨hv, _⟩ | ⟨g', cap, cur, hv, hb, hh, h1, h2, h3, h4⟩
  · cases hv
  · simp only [Value.slice.injEq, Option.some.injEq, Addr.mk.injEq] at hv
    obtain ⟨⟨rfl, _⟩, _, rfl⟩ := hv
    refine ⟨?_, hl⟩
    unfold Blk4
    rw [hh]
    have e : cur = (d4s o).toArray := by
      apply Array.toList_inj.1
      rw [← h4, List.take_of_length_le (by simp; omega)]
    rw [e]
theorem Blk4.rd {w : World} {g : Nat} {o : List Nat} (h : Blk4 w g o) : Rd w 0 w.heap.size 1 (some ⟨g, 0, none⟩) o.length (d4s o) :=
  ⟨by simp [d4s], fun _ => ⟨g, 0, rfl, Nat.zero_le _, heap_lt h, fun j u hj => by rw [cellsAt h, Nat.zero_add]; simpa using hj⟩⟩
theorem made_zeros4 (n : Nat) : (madeCells #[Value.int .i64 0] n).toList = d4s (List.replicate n 0) := by
  apply List.ext_getElem
  · simp [madeCells, d4s]
  · intro i h1 h2
    simp [madeCells, d4s, Nat.mod_one]
theorem mem_set4 {o : List Nat} {k d : Nat} (ho : ∀ x ∈ o, x < T4) (hd : d < T4) : ∀ x ∈ o.set k d, x < T4 := by
  intro x hx
  rcases List.mem_or_eq_of_mem_set hx with h | h
  · exact ho x h
  · rw [h]; exact hd

end Go.Proofs.YtnpfdelklolchaaGreatDoor

/- Package dynamometerref0: Of. -/
namespace Go.Proofs.YtnpfdelklolchaaGreatDoor
open Go Go.RowKit Go.Proofs

/-- what the loop of Of keeps: the digits so far, and the rest of the number -/
def ROfR (w wr : World) (n m : Nat) (v : Value) : Prop :=
  ∃ o, o.length ≤ 20 ∧ m * 10000 ^ o.length ≤ n ∧ (∀ d ∈ o, d < T4) ∧ val T4 o + T4 ^ o.length * m = n ∧ (m = 0 → o.getLast? ≠ some 0) ∧ wr.ownsRow w.heap.size 3 1 v o.length (d4s o) ∧ Below w.heap.size w wr
theorem rof_step {_w : World} {n m : Nat} {o : List Nat} (hm : 0 < m) (hn : n ≤ 9223372036854775807) (h1 : m * 10000 ^ o.length ≤ n) (h3 : val T4 o + T4 ^ o.length * m = n) :
    (o ++ [m % 10000]).length ≤ 20 ∧ m / 10000 * 10000 ^ (o ++ [m % 10000]).length ≤ n ∧ val T4 (o ++ [m % 10000]) + T4 ^ (o ++ [m % 10000]).length * (m / 10000) = n ∧ (m / 10000 = 0 → (o ++ [m % 10000]).getLast? ≠ some 0) := by
  have hl : o.length ≤ 19 := by
    refine Classical.byContradiction fun hc => ?_
    have : (10000 : Nat) ^ 20 ≤ 10000 ^ o.length := Nat.pow_le_pow_right (by omega) (by omega)
    have h4 : 1 * 10000 ^ o.length ≤ m * 10000 ^ o.length := Nat.mul_le_mul_right _ hm
    omega
  refine ⟨by simp; omega, ?_, ?_, ?_⟩
  · simp only [List.length_append, List.length_singleton, Nat.pow_succ]
    have : m / 10000 * (10000 ^ o.length * 10000) = (m / 10000 * 10000) * 10000 ^ o.length := by rw [Nat.mul_comm (10000 ^ o.length), Nat.mul_assoc]
    rw [this]
    exact Nat.le_trans (Nat.mul_le_mul_right _ (by omega)) h1
  · rw [val_snoc]
    simp only [List.length_append, List.length_singleton, Nat.pow_succ]
    have e : T4 ^ o.length * (m % 10000) + T4 ^ o.length * T4 * (m / 10000) = T4 ^ o.length * m := by
      rw [Nat.mul_assoc, ← Nat.mul_add]; congr 1; unfold T4; omega
    omega
  · intro h
    simp; omega

set_option maxHeartbeats 1000000 in
set_option maxRecDepth 100000 in
theorem rnatOf_any (n : Int) (w : World) (hn : n ≤ 9223372036854775807) : Calls Tryz.prog 47 #[.int .i64 n] w (RNatPost n.toNat w) := by
  obtain ⟨i0, hi0, hz0, hz1, hz2⟩ := info_parts Tryz.infoI4
  by_cases h0 : n ≤ 0
  · have h' : decide (0 < n) = false := by simp; omega
    have HZ := Lib.hid (show n.toNat = 0 by omega)
    go_enter Tryz.func47, Tryz.ntmps47
    go_wp2
    refine wp_loop_rounds 1 ?_
    rw [rounds_succ]
    go_wp2
    go_ret
    exact ⟨none, 0, [], rfl, by rw [HZ.out]; exact rnatr_nil w, Below.refl _ _⟩
  · obtain ⟨N, rfl⟩ := Int.eq_ofNat_of_zero_le (show 0 ≤ n by omega)
    rw [Int.toNat_natCast]
    go_enter Tryz.func47, Tryz.ntmps47
    go_wp2
    go_loopw [0, 3] (fun i v wr => ∃ m : Nat, i = .int .i64 m ∧ m ≤ N ∧ ROfR w wr N m v) (fun i _ _ => (intOf i).toNat)
    case atStart => exact ⟨N, rfl, Nat.le_refl _, [], by simp, by simp, fun _ h => by simp at h, by simp [val], fun _ => by simp, ⟨by simp [d4s], .inl ⟨rfl, rfl⟩⟩, Below.refl _ _⟩
    case round =>
      obtain ⟨m, rfl, hm, o, ho1, ho2, ho3, ho4, ho5, hown, hbw⟩ := hrel
      have HOW := Lib.hid hown
      have HBW := Lib.hid hbw
      have hsz := hbw.size
      have H3 := Lib.hid ho3
      have H4 := Lib.hid ho4
      have H5 := Lib.hid ho5
      have H2 := Lib.hid ho2
      clear ho2 ho3 ho4 ho5 hown hbw
      by_cases hp : 0 < m
      · have t1 : decide ((0 : Int) < ↑m) = true := by simp; omega
        have t2 : decide (0 < m) = true := by simpa using hp
        go_wp2_with (at_builtin; refine wpList_append_own _ rfl (.tmp 6) (.tmp 9) 29 rfl w.heap.size 3 i0 _ 1 8 Tryz.underlying29 hi0 hz0 hz1 hz2 rfl (by decide) _ _ _ rfl (HOW.out.alloc _) ⟨wr.heap.size, 0, none⟩ 1 1 [.int .i64 ((m : Int) % 10000)] rfl rfl (cell_one_new _ _ _) (by simp [Value.oneCell']) ?c3 ?c4 ?c5 ?_)
        case c3 => unfold maxLen; omega
        case c4 => omega
        case c5 => simp; omega
        intro v' w2 hown' hgrow _
        obtain ⟨g1, g2, g3, g4⟩ := rof_step (_w := w) hp (by omega) H2.out H4.out
        have hnew : ROfR w w2 N (m / 10000) v' := by
          refine ⟨o ++ [m % 10000], g1, g2, ?_, g3, g4, ?_, ?_⟩
          · intro d hd
            rcases List.mem_append.1 hd with h | h
            · exact H3.out d h
            · simp at h; subst h; unfold T4; omega
          · simpa [d4s] using hown'
          · exact (HBW.out.alloc hsz _).grown hgrow (by simp; omega) (fun j hj => (ownsRow_block HOW.out hj.symm).1)
        have HN := Lib.hid hnew
        clear hown' hgrow g1 g2 g3 g4 hnew
        go_wp2
        go_roundw
        case rel => exact ⟨m / 10000, by first | rfl | go_num, by omega, HN.out⟩
        case measure => simp [intOf]; omega
      · obtain rfl : m = 0 := by omega
        obtain ⟨A', cap', rfl, hnc, hcm, hA'⟩ := ownsRow_shape HOW.out
        have HF := Lib.hid (show RNatR wr A' cap' o N from ⟨(Rd.of_own HOW.out).more (Nat.zero_le _) (Nat.le_refl _), ⟨H3.out, H5.out rfl⟩, by have := H4.out; simpa using this, hnc, hcm, hA'⟩)
        clear hA'
        go_wp2
        go_ret
        exact ⟨A', cap', o, rfl, HF.out, HBW.out⟩
end Go.Proofs.YtnpfdelklolchaaGreatDoor
