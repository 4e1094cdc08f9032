import Derived.Lib.Hide
import Derived.Test.YtjkoppdddaknlaaGreatDoorG13
/- Samples by their labels: the order of the rows. No program in sight. -/
namespace Go.Proofs.YtjkoppdddaknlaaGreatDoor
open Go

/-- the values of a sample's labels, as bytes -/
abbrev Ky := List (List UInt8)
theorem by_irr (a : List UInt8) : ¬ a < a := List.lt_irrefl a
theorem by_trans {a b c : List UInt8} (h1 : a < b) (h2 : b < c) : a < c := List.lt_trans h1 h2
theorem by_total (a b : List UInt8) : a < b ∨ a = b ∨ b < a := by
  rcases Classical.em (a < b) with h | h
  · exact .inl h
  · rcases Classical.em (b < a) with h2 | h2
    · exact .inr (.inr h2)
    · exact .inr (.inl (List.le_antisymm (List.not_lt.1 h2) (List.not_lt.1 h)))
instance : Std.Irrefl (fun (a b : List UInt8) => a < b) := ⟨by_irr⟩
instance : Trans (fun (a b : List UInt8) => a < b) (fun a b => a < b) (fun a b => a < b) := ⟨by_trans⟩
instance : Std.Trichotomous (fun (a b : List UInt8) => a < b) := ⟨fun a b h1 h2 => by
  rcases by_total a b with h | h | h
  · exact absurd h h1
  · exact h
  · exact absurd h h2⟩
theorem ky_nil {a : Ky} : ¬ a < [] := List.not_lt_nil a
theorem ky_cons {x y : List UInt8} {a b : Ky} : x :: a < y :: b ↔ x < y ∨ (x = y ∧ a < b) := List.cons_lt_cons_iff
theorem ky_irr : ∀ (a : Ky), ¬ a < a
  | [] => ky_nil
  | x :: a => by
    rw [ky_cons]
    rintro (h | ⟨_, h⟩)
    · exact by_irr x h
    · exact ky_irr a h
theorem ky_trans : ∀ {a b c : Ky}, a < b → b < c → a < c
  | _, [], _, h, _ => absurd h ky_nil
  | _, _ :: _, [], _, h => absurd h ky_nil
  | [], _ :: _, z :: c, _, _ => List.nil_lt_cons z c
  | x :: a, y :: b, z :: c, h1, h2 => by
    rw [ky_cons] at *
    rcases h1 with h1 | ⟨rfl, h1⟩
    · rcases h2 with h2 | ⟨rfl, _⟩
      · exact .inl (by_trans h1 h2)
      · exact .inl h1
    · rcases h2 with h2 | ⟨rfl, h2⟩
      · exact .inl h2
      · exact .inr ⟨rfl, ky_trans h1 h2⟩
theorem ky_total : ∀ (a b : Ky), a < b ∨ a = b ∨ b < a
  | [], [] => .inr (.inl rfl)
  | [], y :: b => .inl (List.nil_lt_cons y b)
  | x :: a, [] => .inr (.inr (List.nil_lt_cons x a))
  | x :: a, y :: b => by
    rw [ky_cons, ky_cons]
    rcases by_total x y with h | rfl | h
    · exact .inl (.inl h)
    · rcases ky_total a b with h | rfl | h
      · exact .inl (.inr ⟨rfl, h⟩)
      · exact .inr (.inl rfl)
      · exact .inr (.inr (.inr ⟨rfl, h⟩))
    · exact .inr (.inr (.inl h))
/-- a rising list of keys -/
def RiseK (S : List Ky) : Prop := S.Pairwise (· < ·)
theorem RiseK.nodup {S : List Ky} (h : RiseK S) : S.Nodup := h.imp (fun {a b} h e => by subst e; exact ky_irr a h)
theorem RiseK.one {a b : List Ky} (ha : RiseK a) (hb : RiseK b) (h : ∀ t, t ∈ a ↔ t ∈ b) : a = b :=
  List.Perm.eq_of_pairwise (le := (· < ·)) (fun x y _ _ h1 h2 => absurd (ky_trans h1 h2) (ky_irr x)) ha hb ((List.perm_ext_iff_of_nodup ha.nodup hb.nodup).2 h)
/-- the place of a key: all ahead of it are less -/
def AheadK (S : List Ky) (v : Ky) (n : Nat) : Prop := ∀ i x, i < n → S[i]? = some x → x < v
theorem AheadK.zero (S : List Ky) (v : Ky) : AheadK S v 0 := fun i x h => by omega
theorem AheadK.next {S : List Ky} {v x : Ky} {n : Nat} (h : AheadK S v n) (hx : S[n]? = some x) (hl : x < v) : AheadK S v (n + 1) := fun i y hi hy => by
  rcases Nat.lt_or_ge i n with h1 | h1
  · exact h i y h1 hy
  · obtain rfl : i = n := by omega
    rw [hx] at hy; cases hy; exact hl
theorem rise_after {S : List Ky} {v x : Ky} {n : Nat} (hS : RiseK S) (hx : S[n]? = some x) (hv : v < x) : ∀ y ∈ S.drop n, v < y := by
  intro y hy
  obtain ⟨j, hj, rfl⟩ := List.getElem_of_mem hy
  rw [List.length_drop] at hj
  rw [List.getElem_drop]
  obtain ⟨hn, rfl⟩ := List.getElem?_eq_some_iff.1 hx
  rcases Nat.eq_zero_or_pos j with rfl | h
  · exact hv
  · exact ky_trans hv (List.pairwise_iff_getElem.1 hS n (n + j) hn (by omega) (by omega))
theorem ahead_mem {S : List Ky} {v : Ky} {n : Nat} (h : AheadK S v n) : ∀ y ∈ S.take n, y < v := by
  intro y hy
  obtain ⟨j, hj, rfl⟩ := List.getElem_of_mem hy
  rw [List.length_take] at hj
  rw [List.getElem_take]
  exact h j _ (by omega) (List.getElem?_eq_getElem (by omega))
/-- a new key at its place -/
theorem RiseK.ins {S : List Ky} {v : Ky} {n : Nat} (hS : RiseK S) (h : AheadK S v n) (hn : n ≤ S.length) (hx : n = S.length ∨ ∃ x, S[n]? = some x ∧ v < x) :
    RiseK (S.take n ++ v :: S.drop n) ∧ v ∉ S ∧ ∀ t, t ∈ S.take n ++ v :: S.drop n ↔ t ∈ S ∨ t = v := by
  have hd : ∀ y ∈ S.drop n, v < y := by
    rcases hx with rfl | ⟨x, hx, hv⟩
    · intro y hy
      rw [List.drop_length] at hy; cases hy
    · exact rise_after hS hx hv
  have ht := ahead_mem h
  have hsplit : S.take n ++ S.drop n = S := List.take_append_drop n S
  refine ⟨?_, fun hm => ?_, fun t => ?_⟩
  · unfold RiseK
    rw [List.pairwise_append]
    refine ⟨hS.sublist (List.take_sublist _ _), List.pairwise_cons.2 ⟨hd, hS.sublist (List.drop_sublist _ _)⟩, fun a ha b hb => ?_⟩
    rcases List.mem_cons.1 hb with rfl | hb
    · exact ht a ha
    · exact ky_trans (ht a ha) (hd b hb)
  · rw [← hsplit, List.mem_append] at hm
    rcases hm with hm | hm
    · exact ky_irr v (ht v hm)
    · exact ky_irr v (hd v hm)
  · have e : t ∈ S ↔ t ∈ S.take n ∨ t ∈ S.drop n := by rw [← List.mem_append, hsplit]
    rw [List.mem_append, List.mem_cons, e]
    constructor
    · rintro (h | rfl | h)
      · exact .inl (.inl h)
      · exact .inr rfl
      · exact .inl (.inr h)
    · rintro ((h | h) | rfl)
      · exact .inl h
      · exact .inr (.inr h)
      · exact .inr (.inl rfl)
/-- the values of d at the first i samples with the key v -/
def ofK {α : Type} (K : Nat → Ky) (d : Nat → α) (i : Nat) (v : Ky) : List α := ((List.range i).filter (fun j => decide (K j = v))).map d
theorem ofK_same {α : Type} (K : Nat → Ky) (d : Nat → α) (i : Nat) : ofK K d (i + 1) (K i) = ofK K d i (K i) ++ [d i] := by
  unfold ofK
  rw [List.range_succ, List.filter_append, List.map_append]
  simp
theorem ofK_other {α : Type} (K : Nat → Ky) (d : Nat → α) (i : Nat) {v : Ky} (h : v ≠ K i) : ofK K d (i + 1) v = ofK K d i v := by
  unfold ofK
  rw [List.range_succ, List.filter_append, List.map_append]
  have : ¬ K i = v := fun e => h e.symm
  simp [this]
theorem ofK_ne {α : Type} {K : Nat → Ky} {d : Nat → α} {i : Nat} {v : Ky} : ofK K d i v = [] ↔ ∀ j, j < i → K j ≠ v := by
  unfold ofK
  rw [List.map_eq_nil_iff, List.filter_eq_nil_iff]
  simp [List.mem_range]
/-- the keys of the first i samples, rising -/
def KeysOfI (K : Nat → Ky) (i : Nat) (S : List Ky) : Prop := RiseK S ∧ ∀ v, v ∈ S ↔ ∃ j, j < i ∧ K j = v
theorem KeysOfI.zero (K : Nat → Ky) : KeysOfI K 0 [] := ⟨List.Pairwise.nil, fun v => by simp⟩
theorem KeysOfI.one {K : Nat → Ky} {i : Nat} {S T : List Ky} (h1 : KeysOfI K i S) (h2 : KeysOfI K i T) : S = T := h1.1.one h2.1 (fun t => (h1.2 t).trans (h2.2 t).symm)
theorem lt_succ_ex {P : Nat → Prop} {i : Nat} : (∃ j, j < i + 1 ∧ P j) ↔ (∃ j, j < i ∧ P j) ∨ P i := by
  constructor
  · rintro ⟨j, h1, h2⟩
    rcases Nat.lt_or_ge j i with h | h
    · exact .inl ⟨j, h, h2⟩
    · obtain rfl : j = i := by omega
      exact .inr h2
  · rintro (⟨j, h1, h2⟩ | h)
    · exact ⟨j, by omega, h2⟩
    · exact ⟨i, by omega, h⟩
theorem KeysOfI.again {K : Nat → Ky} {i : Nat} {S : List Ky} (h : KeysOfI K i S) (hm : K i ∈ S) : KeysOfI K (i + 1) S :=
  ⟨h.1, fun v => by
    rw [lt_succ_ex, ← h.2 v]
    constructor
    · exact .inl
    · rintro (h1 | rfl)
      · exact h1
      · exact hm⟩
theorem KeysOfI.ins {K : Nat → Ky} {i n : Nat} {S : List Ky} (h : KeysOfI K i S) (ha : AheadK S (K i) n) (hn : n ≤ S.length) (hx : n = S.length ∨ ∃ x, S[n]? = some x ∧ K i < x) : KeysOfI K (i + 1) (S.take n ++ K i :: S.drop n) := by
  obtain ⟨h1, _, h3⟩ := h.1.ins ha hn hx
  refine ⟨h1, fun v => ?_⟩
  rw [h3, lt_succ_ex, h.2 v]
  constructor
  · rintro (h | rfl)
    · exact .inl h
    · exact .inr rfl
  · rintro (h | h)
    · exact .inl h
    · exact .inr h.symm
end Go.Proofs.YtjkoppdddaknlaaGreatDoor

/- Buckets of the reference: place, fineBits, low, high. -/
namespace Go.Proofs.YtjkoppdddaknlaaGreatDoor
open Go.RowKit
set_option maxHeartbeats 400000 in
theorem place_any (b v : Int) (w : World) (hb : 2 ≤ b) (hb' : b ≤ 8) (hv : 0 ≤ v) (hv' : v < 1125899906842624) :
    Calls Tryz.prog 29 #[.int .i64 b, .int .i64 v] w fun e w' => e = .returned (.int .i64 (bkt b v)) ∧ w = w' := by
  have hM := hB_two b hb
  have hH : (2 : Int) ^ (b.toNat - 1) = hB b := rfl
  obtain ⟨hH1, hH2⟩ := hB_bd b hb hb'
  have HX := Lib.hid (fun j : Nat => bkt_of b v j hb hb')
  generalize hB b = H at *
  go_enter Tryz.func29, Tryz.ntmps29
  go_wp2
  go_loop [5, 6, 7, 8] (fun s f n m => ∃ j : Nat, j ≤ 50 ∧ pF H j ≤ v ∧ s = .int .i64 (pS j) ∧ f = .int .i64 (pF H j) ∧ n = .int .i64 (pN H j) ∧ m = .int .i64 (pM H j))
    (fun s _ _ _ => (1125899906842624 - intOf s).toNat)
  case atStart => exact ⟨0, by omega, by simp [pF]; omega, rfl, rfl, rfl, rfl⟩
  case round =>
    obtain ⟨j, hj, hfv, rfl, rfl, rfl, rfl⟩ := hrel
    have hmul := p_mul H j
    have ht := pT_ge H j hH1
    have hf := pF_nonneg H j hH1
    have hn := pN_bd H j hH1 hH2 (by omega)
    have hm := pM_bd H j hH1 hH2
    have hs : 1 ≤ pS j := pow_one_le j
    have hTle := pT_le H j hH2
    by_cases hlt : pT H j ≤ v
    · go_wp2
      go_round
      case rel =>
        refine ⟨j + 1, ?_, ?_, ?_, ?_, ?_, ?_⟩
        · have := pS_j j (by omega); omega
        · rw [pF_succ]; omega
        · rw [pS_succ]
        · rw [pF_succ]; go_num
        · rw [pN_succ]
        · rw [pM_succ]
      case measure => simp [intOf]; omega
    · have d1 : 0 ≤ (v - pF H j) / pS j := Int.ediv_nonneg (by omega) (by omega)
      have d2 : (v - pF H j) / pS j ≤ v := Int.le_trans (Int.ediv_le_self _ (by omega)) (by omega)
      go_wp2
      go_ret
      refine ⟨?_, rfl⟩
      have hj50 : j < 50 := by
        rcases Nat.eq_zero_or_pos j with rfl | hp
        · omega
        · have : pS j ≤ pF H j := by
            have : 1 * 2 ^ j ≤ H * 2 ^ j := Int.mul_le_mul_of_nonneg_right (by omega) (by have := pow_one_le j; omega)
            simp only [pF]
            rw [if_neg (by omega)]
            unfold pS; omega
          exact pS_j j (by omega)
      have := HX.out j hj50 hfv (by omega)
      simp only [← this]; rfl

end Go.Proofs.YtjkoppdddaknlaaGreatDoor
