/- Lists of texts compared: slices.Compare, the reference's compared. -/
import Derived.Test.YtjkoppdddaknlaaGreatDoorInkRow
import Derived.Test.YtjkoppdddaknlaaGreatDoorG31
import Derived.Sort.Walk0
import Derived.BigQuiet
namespace Go.Proofs.YtjkoppdddaknlaaGreatDoor
open Go Go.RowKit Go.Proofs

/-- as slices.Compare tells of two lists of texts -/
def cmpT : List ByteArray → List ByteArray → Int
  | [], [] => 0
  | [], _ :: _ => -1
  | _ :: _, [] => 1
  | x :: a, y :: b => if Op.bytesLess x.toList y.toList = true then -1 else if Op.bytesLess y.toList x.toList = true then 1 else cmpT a b
theorem less_iff (x y : ByteArray) : Op.bytesLess x.toList y.toList = true ↔ x.toList < y.toList := by rw [bytesLess_eq, decide_eq_true_iff]
theorem cmpT_lt : ∀ (a b : List ByteArray), cmpT a b < 0 ↔ ky a < ky b
  | [], [] => by simp [cmpT, ky]
  | [], y :: b => by simp [cmpT, ky]
  | x :: a, [] => by simp [cmpT, ky]
  | x :: a, y :: b => by
    have ih := cmpT_lt a b
    unfold cmpT
    show _ ↔ x.toList :: ky a < y.toList :: ky b
    rw [ky_cons]
    by_cases h1 : x.toList < y.toList
    · rw [if_pos ((less_iff x y).2 h1)]
      exact ⟨fun _ => .inl h1, fun _ => by decide⟩
    · rw [if_neg (fun h => h1 ((less_iff x y).1 h))]
      by_cases h2 : y.toList < x.toList
      · rw [if_pos ((less_iff y x).2 h2)]
        constructor
        · intro h; exact absurd h (by decide)
        · rintro (h | ⟨h, _⟩)
          · exact absurd h h1
          · rw [h] at h2; exact absurd h2 (by_irr _)
      · rw [if_neg (fun h => h2 ((less_iff y x).1 h)), ih]
        have e : x.toList = y.toList := by
          rcases by_total x.toList y.toList with h | h | h
          · exact absurd h h1
          · exact h
          · exact absurd h h2
        constructor
        · intro h; exact .inr ⟨e, h⟩
        · rintro (h | ⟨_, h⟩)
          · exact absurd h h1
          · exact h
theorem cmpT_eq : ∀ (a b : List ByteArray), cmpT a b = 0 ↔ a = b
  | [], [] => by simp [cmpT]
  | [], y :: b => by simp [cmpT]
  | x :: a, [] => by simp [cmpT]
  | x :: a, y :: b => by
    have ih := cmpT_eq a b
    unfold cmpT
    by_cases h1 : x.toList < y.toList
    · rw [if_pos ((less_iff x y).2 h1)]
      constructor
      · intro h; exact absurd h (by decide)
      · intro h
        injection h with h3 h4
        rw [h3] at h1; exact absurd h1 (by_irr _)
    · rw [if_neg (fun h => h1 ((less_iff x y).1 h))]
      by_cases h2 : y.toList < x.toList
      · rw [if_pos ((less_iff y x).2 h2)]
        constructor
        · intro h; exact absurd h (by decide)
        · intro h
          injection h with h3 h4
          rw [h3] at h2; exact absurd h2 (by_irr _)
      · rw [if_neg (fun h => h2 ((less_iff y x).1 h)), ih]
        have e : x.toList = y.toList := by
          rcases by_total x.toList y.toList with h | h | h
          · exact absurd h h1
          · exact h
          · exact absurd h h2
        constructor
        · intro h; rw [h, ba_inj e]
        · intro h; injection h
theorem drop_atS {α : Type} {zs : List α} {i : Nat} {x : α} (h : zs[i]? = some x) : zs.drop i = x :: zs.drop (i + 1) := by
  have hlt := (List.getElem?_eq_some_iff.1 h).1
  rw [List.drop_eq_getElem_cons hlt]
  congr 1
  exact (List.getElem?_eq_some_iff.1 h).2
theorem Rd.atS {w : World} {L B n i : Nat} {A : Option Addr} {zs : List ByteArray} (h : Rd w L B 1 A n (strC zs)) (hi : i < n) : ∃ b o z, A = some ⟨b, o, none⟩ ∧ b < B ∧ zs[i]? = some z ∧ w.cell? ⟨b, o + i, none⟩ = some (.string z) := by
  obtain ⟨b, o, u, e, hb, hu, hc⟩ := h.at1 hi
  obtain ⟨z, hz, rfl⟩ := strC_get hu
  exact ⟨b, o, z, e, hb, hz, hc⟩
theorem less_eq {x y : ByteArray} (g1 : Op.bytesLess x.toList y.toList = false) : (x.toList == y.toList) = !Op.bytesLess y.toList x.toList := by
  have h1 : ¬ x.toList < y.toList := fun h => by rw [(less_iff x y).2 h] at g1; cases g1
  rcases by_total x.toList y.toList with h | h | h
  · exact absurd h h1
  · rw [h]
    have : Op.bytesLess y.toList y.toList = false := by
      cases hb : Op.bytesLess y.toList y.toList with
      | false => rfl
      | true => exact absurd ((less_iff y y).1 hb) (by_irr _)
    simp [this]
  · rw [(less_iff y x).2 h]
    have : x.toList ≠ y.toList := fun e => by rw [e] at h; exact by_irr _ h
    simpa using this
set_option maxHeartbeats 4000000 in
set_option maxRecDepth 100000 in
/-- the reference's compared: texts of one number -/
theorem compared_any (A1 A2 : Option Addr) (c1 c2 : Nat) (z1 z2 : List ByteArray) (w : World) (h1 : Rd w 0 w.heap.size 1 A1 z1.length (strC z1)) (h2 : Rd w 0 w.heap.size 1 A2 z2.length (strC z2)) (hle : z1.length = z2.length) (hl : z1.length ≤ 1000000) :
    Calls Tryz.prog 27 #[.slice A1 z1.length c1, .slice A2 z2.length c2] w fun e w' => e = .returned (.int .i64 (cmpT z1 z2)) ∧ Below w.heap.size w w' := by
  have H1 := Lib.hid h1
  have H2 := Lib.hid h2
  have HLE := Lib.hid hle
  obtain ⟨n, hn⟩ : ∃ n, n = z1.length := ⟨_, rfl⟩
  have HN := Lib.hid hn
  rw [← hle, ← hn]
  have hl2 : n ≤ 1000000 := by omega
  clear h1 h2 hn hle hl
  go_enter Tryz.func27, Tryz.ntmps27
  go_wp2_with fail
  go_loopw [5] (fun iv wr => ∃ i : Nat, iv = .int .i64 (i : Int) ∧ i ≤ n ∧ cmpT (z1.drop i) (z2.drop i) = cmpT z1 z2 ∧ Below w.heap.size w wr) (fun iv _ => n - (intOf iv).toNat)
  case atStart => exact ⟨0, rfl, Nat.zero_le _, rfl, Below.refl _ _⟩
  case round =>
    obtain ⟨i, rfl, hi, hc, hb⟩ := hrel
    have HB := Lib.hid hb
    by_cases hlt : i < n
    · obtain ⟨b1, o1, x, e1, hb1, hx, k1⟩ := (H1.out.below hb (Nat.le_refl _)).atS (show i < z1.length by rw [← HN.out]; exact hlt)
      obtain ⟨b2, o2, y, e2, hb2, hy, k2⟩ := (H2.out.below hb (Nat.le_refl _)).atS (show i < z2.length by rw [← HLE.out, ← HN.out]; exact hlt)
      subst e1
      subst e2
      rw [drop_atS hx, drop_atS hy, cmpT] at hc
      have HC := Lib.hid hc
      have k1d : wr.drew.cell? ⟨b1, o1 + i, none⟩ = some (.string x) := k1
      have k2d : wr.drew.cell? ⟨b2, o2 + i, none⟩ = some (.string y) := k2
      clear hx hy hb hc
      cases g1 : Op.bytesLess x.toList y.toList with
      | true =>
        have HR := Lib.hid (show cmpT z1 z2 = -1 by rw [← HC.out, if_pos g1])
        go_wp2_with fail
        go_quiet (fail)
        go_wp2
        go_ret
        exact ⟨by rw [HR.out]; rfl, by first | exact below_drewN HB.out _ | exact below_drewN (below_drewN HB.out _) _⟩
      | false =>
        have g1n : ¬ Op.bytesLess x.toList y.toList = true := by rw [g1]; decide
        cases g2 : Op.bytesLess y.toList x.toList with
        | true =>
          have HR := Lib.hid (show cmpT z1 z2 = 1 by rw [← HC.out, if_neg g1n, if_pos g2])
          have hq : (x.toList == y.toList) = false := by rw [less_eq g1, g2]; rfl
          clear g1n
          go_wp2_with fail
          go_quiet (fail)
          go_wp2_with fail
          go_quiet (fail)
          go_wp2
          go_ret
          exact ⟨by rw [HR.out]; rfl, by first | exact below_drewN HB.out _ | exact below_drewN (below_drewN HB.out _) _⟩
        | false =>
          have HR := Lib.hid (show cmpT (z1.drop (i + 1)) (z2.drop (i + 1)) = cmpT z1 z2 by rw [← HC.out, if_neg g1n, if_neg (by rw [g2]; decide)])
          have hq : (x.toList == y.toList) = true := by rw [less_eq g1, g2]; rfl
          clear g1n
          go_wp2_with fail
          go_quiet (fail)
          go_wp2_with fail
          go_quiet (fail)
          go_wp2
          go_roundw
          case rel => exact ⟨i + 1, by go_num, by omega, HR.out, by first | exact below_drewN HB.out _ | exact below_drewN (below_drewN HB.out _) _⟩
          case measure => simp [intOf]; omega
    · have HR := Lib.hid (show cmpT z1 z2 = 0 by
        rw [← hc, List.drop_of_length_le (by have := HN.out; omega), List.drop_of_length_le (by have := HN.out; have := HLE.out; omega)]; rfl)
      clear hc hb
      go_wp2
      go_ret
      exact ⟨by rw [HR.out]; rfl, HB.out⟩
def cmpS (x y : ByteArray) : Int := if Op.bytesLess x.toList y.toList = true then -1 else if Op.bytesLess y.toList x.toList = true then 1 else 0
theorem bel_nx {w w1 w2 : World} (h1 : Below w.heap.size w w1) (h2 : Below w1.heap.size w1 w2) : Below w.heap.size w w2 := h1.trans (h2.mono h1.size)
end Go.Proofs.YtjkoppdddaknlaaGreatDoor
