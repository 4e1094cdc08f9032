import Derived.Test.YtjkoppdddaknlaaGreatDoorG24
import Derived.Test.YtjkoppdddaknlaaGreatDoorG34
import Derived.Test.YtjkoppdddaknlaaGreatDoorKyCmp
/- Group: what the two maps and the order hold behind some samples. -/
namespace Go.Proofs.YtjkoppdddaknlaaGreatDoor
open Go Go.RowKit Go.Proofs Go.Maps

theorem own_ne {w : World} {b1 b2 k1 k2 n1 n2 : Nat} {e1 e2 : TypeId} {v1 v2 : Value} {x1 x2 : List Value} (h1 : w.ownsRow b1 e1 k1 v1 n1 x1) (h2 : w.ownsRow b2 e2 k2 v2 n2 x2) (he : e1 ≠ e2) : ∀ b, some b = v1.ownBlock → some b ≠ v2.ownBlock := by
  intro b e e'
  rcases h1.2 with ⟨rfl, _⟩ | ⟨g, cap, cur, rfl, _, hh, _⟩
  · cases e
  · rcases h2.2 with ⟨rfl, _⟩ | ⟨g', cap', cur', rfl, _, hh', _⟩
    · cases e'
    · rw [ownBlock_eq] at e e'
      obtain rfl := Option.some.inj e
      obtain rfl := Option.some.inj e'
      rw [hh] at hh'
      simp only [Option.some.injEq, Obj.cells.injEq] at hh'
      exact he hh'.2.1
theorem map_ne {w : World} {m n b1 k1 n1 : Nat} {f : List ByteArray → Option Value} {e1 : TypeId} {v1 : Value} {x1 : List Value} (h : MapK w m n f) (h1 : w.ownsRow b1 e1 k1 v1 n1 x1) : some m ≠ v1.ownBlock := by
  intro e
  obtain ⟨es, clock, hm⟩ := h.block
  rcases h1.2 with ⟨rfl, _⟩ | ⟨g, cap, cur, rfl, _, hh, _⟩
  · cases e
  · rw [ownBlock_eq] at e
    obtain rfl := Option.some.inj e
    rw [hh] at hm
    cases hm
/-- nil -/
def nilV : Value := .slice none 0 0
/-- the took values, key by key -/
structure TK (w : World) (base m : Nat) (f : List ByteArray → Option Value) (kf : Nat → List ByteArray) (tk : Nat → Int) (j : Nat) : Prop where
  map : MapK w m j f
  own : ∀ v, w.ownsRow base 3 1 ((f v).getD nilV) (tkK kf tk j v).length (ints (tkK kf tk j v))
  apart : ∀ v v', v ≠ v' → ∀ b, some b = ((f v).getD nilV).ownBlock → some b ≠ ((f v').getD nilV).ownBlock
/-- the failures, key by key -/
structure FL (w : World) (m : Nat) (f : List ByteArray → Option Value) (kf : Nat → List ByteArray) (fl : Nat → Bool) (j : Nat) : Prop where
  map : MapK w m j f
  val : ∀ v, (f v).getD (.int .i64 0) = .int .i64 (flK kf fl j v)
def keyCells (S : List (List ByteArray)) : List Value := S.flatMap strC
/-- the order -/
structure ORD (w : World) (base : Nat) (v : Value) (S : List (List ByteArray)) (kf : Nat → List ByteArray) (j : Nat) : Prop where
  own : w.ownsRow base 53 5 v S.length (keyCells S)
  nodup : S.Nodup
  mem : ∀ x, x ∈ S ↔ ∃ i, i < j ∧ kf i = x
section
variable {w w' w1 w2 w3 : World} {base m j : Nat} {f : List ByteArray → Option Value} {kf : Nat → List ByteArray} {tk : Nat → Int} {fl : Nat → Bool} {v : Value} {S : List (List ByteArray)} {may : Nat → Prop}
theorem TK.fr (h : TK w base m f kf tk j) (hf : Fr may w w') (hm : ¬ may m) (ho : ∀ x b, some b = ((f x).getD nilV).ownBlock → ¬ may b) : TK w' base m f kf tk j :=
  ⟨h.map.fr hf hm, fun x => ownsRow_fr (h.own x) hf (ho x), h.apart⟩
theorem TK.on (h : TK w base m f kf tk j) (hb : Below w.heap.size w w') : TK w' base m f kf tk j :=
  h.fr (Fr.of_below hb) (by have := h.map.lt; omega) (fun x b hx hm => by have := (ownsRow_block (h.own x) hx).2; omega)
theorem FL.on (h : FL w m f kf fl j) (hb : Below w.heap.size w w') : FL w' m f kf fl j := ⟨h.map.on hb, h.val⟩
theorem FL.fr (h : FL w m f kf fl j) (hf : Fr may w w') (hm : ¬ may m) : FL w' m f kf fl j := ⟨h.map.fr hf hm, h.val⟩
theorem ORD.on (h : ORD w base v S kf j) (hb : Below w.heap.size w w') : ORD w' base v S kf j :=
  ⟨ownsRow_fr h.own (Fr.of_below hb) (fun i hi hm => by have := (ownsRow_block h.own hi).2; omega), h.nodup, h.mem⟩
theorem ORD.fr (h : ORD w base v S kf j) (hf : Fr may w w') (ho : ∀ b, some b = v.ownBlock → ¬ may b) : ORD w' base v S kf j :=
  ⟨ownsRow_fr h.own hf ho, h.nodup, h.mem⟩
/-- 'took[k] = append(took[k], x)' -/
theorem TK.step (h : TK w base m f kf tk j) {u : Value} (h1 : w.grownBy w1 (some m)) (hs1 : w1.heap.size = w.heap.size)
    (hown : w2.ownsRow base 3 1 u ((tkK kf tk j (kf j)).length + 1) (ints (tkK kf tk j (kf j)) ++ [.int .i64 (tk j)])) (hg2 : w1.grownBy w2 ((f (kf j)).getD nilV).ownBlock)
    (hat : u.ownBlock = ((f (kf j)).getD nilV).ownBlock ∨ u.ownBlock = some w1.heap.size)
    (hm3 : MapK w3 m (j + 1) (updK f (kf j) u)) (hm2 : ∃ es clock, w2.heap[m]? = some (.map es clock)) (hg3 : w2.grownBy w3 (some m)) : TK w3 base m (updK f (kf j) u) kf tk (j + 1) := by
  have hne : ∀ x, ∀ b, some b = ((f x).getD nilV).ownBlock → b ≠ m := fun x b hb e => map_ne h.map (h.own x) (by rw [← e]; exact hb)
  refine ⟨hm3, fun x => ?_, fun x y hxy b hb => ?_⟩
  · by_cases e : x = kf j
    · subst e
      rw [updK_same, tkK_same]
      simp only [Option.getD_some]
      have h2 : w2.ownsRow base 3 1 u (tkK kf tk j (kf j) ++ [tk j]).length (ints (tkK kf tk j (kf j) ++ [tk j])) := by
        have : ints (tkK kf tk j (kf j) ++ [tk j]) = ints (tkK kf tk j (kf j)) ++ [.int .i64 (tk j)] := by simp [ints]
        rw [this, List.length_append]
        exact hown
      refine ownsRow_fr h2 (Fr.of_grown hg3) (fun i hi hm => ?_)
      obtain rfl := Option.some.inj hm
      obtain ⟨es, clock, hmm⟩ := hm2
      rcases h2.2 with ⟨rfl, _⟩ | ⟨g, cap, cur, rfl, _, hh, _⟩
      · cases hi
      · rw [ownBlock_eq] at hi
        obtain rfl := Option.some.inj hi
        rw [hh] at hmm
        cases hmm
    · rw [updK_other _ _ e, tkK_other e]
      have a1 := ownsRow_fr (h.own x) (Fr.of_grown h1) (fun i hi hm => hne x i hi (Option.some.inj hm))
      have a2 := ownsRow_fr a1 (Fr.of_grown hg2) (fun i hi hm => h.apart x (kf j) e i hi hm)
      exact ownsRow_fr a2 (Fr.of_grown hg3) (fun i hi hm => hne x i hi (Option.some.inj hm))
  · have hlt : ∀ x, ∀ b, some b = ((f x).getD nilV).ownBlock → b < w1.heap.size := fun x b hb => by rw [hs1]; exact (ownsRow_block (h.own x) hb).2
    by_cases ex : x = kf j
    · have ey : y ≠ kf j := fun e => hxy (ex.trans e.symm)
      subst ex
      rw [updK_same] at hb
      rw [updK_other _ _ ey]
      simp only [Option.getD_some] at hb
      rcases hat with ha | ha
      · rw [ha] at hb
        exact h.apart _ y hxy b hb
      · rw [ha] at hb
        intro hb2
        have := hlt y b hb2
        have := Option.some.inj hb
        omega
    · rw [updK_other _ _ ex] at hb
      by_cases ey : y = kf j
      · subst ey
        rw [updK_same]
        simp only [Option.getD_some]
        rcases hat with ha | ha
        · rw [ha]; exact h.apart x _ ex b hb
        · rw [ha]
          intro hb2
          have := hlt x b hb
          have := Option.some.inj hb2
          omega
      · rw [updK_other _ _ ey]
        exact h.apart x y hxy b hb
/-- 'failed[k]++', if the sample has failed -/
theorem FL.step (h : FL w m f kf fl j) (hf : fl j = true) (hm3 : MapK w3 m (j + 1) (updK f (kf j) (.int .i64 (flK kf fl j (kf j) + 1)))) : FL w3 m (updK f (kf j) (.int .i64 (flK kf fl j (kf j) + 1))) kf fl (j + 1) :=
  ⟨hm3, fun x => by
    by_cases e : x = kf j
    · subst e
      rw [updK_same, flK_same, hf]; rfl
    · rw [updK_other _ _ e, flK_other e]; exact h.val x⟩
theorem FL.same (h : FL w m f kf fl j) (hf : fl j = false) : FL w m f kf fl (j + 1) :=
  ⟨h.map.mono (by omega), fun x => by
    by_cases e : x = kf j
    · subst e
      rw [flK_same, hf, h.val]; simp
    · rw [flK_other e]; exact h.val x⟩
theorem tk_nil {v' : List ByteArray} : tkK kf tk j v' = [] ↔ ∀ i, i < j → kf i ≠ v' := by
  unfold tkK
  rw [ofK_ne]
  exact ⟨fun h i hi e => h i hi (by rw [e]), fun h i hi e => h i hi (ky_inj e)⟩
theorem ORD.new (h : ORD w base v S kf j) (hn : tkK kf tk j (kf j) = []) {u : Value} (ho : w'.ownsRow base 53 5 u (S.length + 1) (keyCells S ++ strC (kf j))) : ORD w' base u (S ++ [kf j]) kf (j + 1) := by
  have hn2 := tk_nil.1 hn
  refine ⟨?_, ?_, fun x => ?_⟩
  · have : keyCells (S ++ [kf j]) = keyCells S ++ strC (kf j) := by simp [keyCells]
    rw [this, List.length_append]
    exact ho
  · rw [List.nodup_append]
    exact ⟨h.nodup, by simp, fun a ha b hb => by
      simp only [List.mem_singleton] at hb
      subst hb
      obtain ⟨i, hi, e⟩ := (h.mem a).1 ha
      rw [← e]; exact hn2 i hi⟩
  · rw [List.mem_append, List.mem_singleton, h.mem, lt_succ_ex]
    exact ⟨fun h => h.imp id Eq.symm, fun h => h.imp id Eq.symm⟩
theorem ORD.old (h : ORD w base v S kf j) (hn : tkK kf tk j (kf j) ≠ []) : ORD w base v S kf (j + 1) :=
  ⟨h.own, h.nodup, fun x => by
    rw [lt_succ_ex, h.mem]
    refine ⟨.inl, fun h2 => h2.elim id fun e => ?_⟩
    subst e
    apply Classical.byContradiction
    intro hc
    exact hn (tk_nil.2 fun i hi e => hc ⟨i, hi, e⟩)⟩
theorem TK.zero (h : MapK w m 0 (fun _ => none)) : TK w base m (fun _ => none) kf tk 0 :=
  ⟨h, fun _ => ⟨rfl, .inl ⟨rfl, rfl⟩⟩, fun _ _ _ b hb => by cases hb⟩
theorem FL.zero (h : MapK w m 0 (fun _ => none)) : FL w m (fun _ => none) kf fl 0 := ⟨h, fun _ => rfl⟩
theorem ORD.zero : ORD w base (.slice none 0 0) [] kf 0 := ⟨⟨rfl, .inl ⟨rfl, rfl⟩⟩, List.nodup_nil, fun x => by simp⟩
end
end Go.Proofs.YtjkoppdddaknlaaGreatDoor

/- Group: lists of texts compared, the world as it was. -/
namespace Go.Proofs.YtjkoppdddaknlaaGreatDoor
open Go Go.RowKit Go.Proofs

theorem isNaNS_w (x : ByteArray) (w : World) : Calls Tryz.prog 63 #[.string x] w fun e w' => e = .returned (.bool false) ∧ w' = w := by
  go_enter Tryz.func63, Tryz.ntmps63
  go_wp2
  go_ret
  exact ⟨by simp, rfl⟩
theorem cmpS_w (x y : ByteArray) (w : World) : Calls Tryz.prog 44 #[.string x, .string y] w fun e w' => e = .returned (.int .i64 (cmpS x y)) ∧ w' = w := by
  obtain ⟨v, hv⟩ : ∃ v, v = cmpS x y := ⟨_, rfl⟩
  rw [← hv]
  have HV := Lib.hid hv
  clear hv
  go_enter Tryz.func44, Tryz.ntmps44
  go_wp2_with fail
  (with_reducible refine (isNaNS_w x w).mono ?_)
  rintro e w1 ⟨rfl, rfl⟩
  go_wp2_with fail
  (with_reducible refine (isNaNS_w y _).mono ?_)
  rintro e w2 ⟨rfl, rfl⟩
  cases g1 : Op.bytesLess x.toList y.toList with
  | true =>
    have HE := Lib.hid (show v = -1 by rw [HV.out]; unfold cmpS; rw [if_pos g1])
    go_wp2
    go_ret
    exact ⟨by rw [HE.out]; rfl, rfl⟩
  | false =>
    have g1n : ¬ Op.bytesLess x.toList y.toList = true := by rw [g1]; decide
    cases g2 : Op.bytesLess y.toList x.toList with
    | true =>
      have HE := Lib.hid (show v = 1 by rw [HV.out]; unfold cmpS; rw [if_neg g1n, if_pos g2])
      have hq : (x.toList == y.toList) = false := by rw [less_eq g1, g2]; rfl
      clear g1n
      go_wp2
      go_ret
      exact ⟨by rw [HE.out]; rfl, rfl⟩
    | false =>
      have HE := Lib.hid (show v = 0 by rw [HV.out]; unfold cmpS; rw [if_neg g1n, if_neg (by rw [g2]; decide)])
      have hq : (x.toList == y.toList) = true := by rw [less_eq g1, g2]; rfl
      clear g1n
      go_wp2
      go_ret
      exact ⟨by rw [HE.out]; rfl, rfl⟩
set_option maxHeartbeats 4000000 in
set_option maxRecDepth 100000 in
/-- slices.Compare at lists of texts of one number -/
theorem compareT_w (A1 A2 : Option Addr) (c1 c2 : Nat) (z1 z2 : List ByteArray) (w : World) (h1 : Rd w 0 w.heap.size 1 A1 z1.length (strC z1)) (h2 : Rd w 0 w.heap.size 1 A2 z2.length (strC z2)) (hle : z1.length = z2.length) (hl : z1.length ≤ 1000000) :
    Calls Tryz.prog 21 #[.slice A1 z1.length c1, .slice A2 z2.length c2] w fun e w' => e = .returned (.int .i64 (cmpT z1 z2)) ∧ w' = w := by
  have H1 := Lib.hid h1
  have H2 := Lib.hid h2
  have HLE := Lib.hid hle
  obtain ⟨n, hn⟩ : ∃ n, n = z1.length := ⟨_, rfl⟩
  have HN := Lib.hid hn
  rw [← hle, ← hn]
  have hl2 : n ≤ 1000000 := by omega
  clear h1 h2 hn hle hl
  go_enter Tryz.func21, Tryz.ntmps21
  go_wp2_with fail
  go_loopw [5, 6, 7, 8, 11] (fun _ _ _ _ iv wr => ∃ i : Nat, iv = .int .i64 (i : Int) ∧ i ≤ n ∧ cmpT (z1.drop i) (z2.drop i) = cmpT z1 z2 ∧ wr = w) (fun _ _ _ _ iv _ => n - (intOf iv).toNat)
  case atStart => exact ⟨0, rfl, Nat.zero_le _, rfl, rfl⟩
  case round =>
    obtain ⟨i, rfl, hi, hc, rfl⟩ := hrel
    by_cases hlt : i < n
    · obtain ⟨b1, o1, x, e1, hb1, hx, k1⟩ := H1.out.atS (show i < z1.length by rw [← HN.out]; exact hlt)
      obtain ⟨b2, o2, y, e2, hb2, hy, k2⟩ := H2.out.atS (show i < z2.length by rw [← HLE.out, ← HN.out]; exact hlt)
      subst e1
      subst e2
      rw [drop_atS hx, drop_atS hy, cmpT] at hc
      have HC := Lib.hid hc
      have hgeq : ¬ (n : Int) ≤ (i : Int) := by omega
      obtain ⟨cv, hcv⟩ : ∃ cv, cv = cmpS x y := ⟨_, rfl⟩
      have HCM := Lib.hid (cmpS_w x y wr)
      rw [← hcv] at HCM
      clear hx hy hc
      go_wp2_with fail
      (with_reducible refine (HCM.out).mono ?_)
      rintro e w2 ⟨rfl, rfl⟩
      by_cases hz : cv = 0
      · have HR := Lib.hid (show cmpT (z1.drop (i + 1)) (z2.drop (i + 1)) = cmpT z1 z2 by
          rw [← HC.out]
          rw [hcv] at hz
          unfold cmpS at hz
          split at hz
          · exact absurd hz (by decide)
          · rename_i g1
            split at hz
            · exact absurd hz (by decide)
            · rename_i g2
              rw [if_neg g1, if_neg g2])
        have hzb : (cv != 0) = false := by simpa using hz
        clear hcv hz
        go_wp2
        go_roundw
        case rel => exact ⟨i + 1, by go_num, by omega, HR.out, by trivial⟩
        case measure => simp [intOf]; omega
      · have HR := Lib.hid (show cmpT z1 z2 = cv by
          rw [← HC.out]
          rw [hcv] at hz ⊢
          unfold cmpS at hz ⊢
          split
          · rfl
          · split
            · rfl
            · rename_i g1 g2
              rw [if_neg g1, if_neg g2] at hz
              exact absurd rfl hz)
        have hzb : (cv != 0) = true := by simpa using hz
        clear hcv hz
        go_wp2
        go_ret
        exact ⟨by rw [HR.out]; rfl, rfl⟩
    · have HR := Lib.hid (show cmpT z1 z2 = 0 by
        rw [← hc, List.drop_of_length_le (by have := HN.out; omega), List.drop_of_length_le (by have := HN.out; have := HLE.out; omega)]; rfl)
      clear hc
      go_wp2
      go_ret
      exact ⟨by rw [HR.out]; rfl, rfl⟩
end Go.Proofs.YtjkoppdddaknlaaGreatDoor
