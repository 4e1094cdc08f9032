/- Package judge: a trial is read. Printed by gen_jcomp.py. -/
import Derived.Test.YtlkjgjojahjapaaGreatDoorG32
import Derived.Test.YtlkjgjojahjapaaGreatDoorG34
import Derived.Test.YtlkjgjojahjapaaGreatDoorJShort
import Derived.Test.YtlkjgjojahjapaaGreatDoorJFrac2
import Derived.StillTailTactics
namespace Go.Proofs.YtlkjgjojahjapaaGreatDoor
open Go Go.RowKit Go.Proofs

/-- a trial's block -/
def TBl (w : World) (B : Nat) (cs : Array Value) : Prop := w.heap[B]? = some (.cells cs 74 (0, 0)) ∧ cs.size = 18 ∧ ∀ u ∈ cs.toList, NoI u
def Trd (w : World) (cs : Array Value) (o : Nat) (x y : Nat) : Prop := ∃ A1 c1 l1 A2 c2 l2, cs[o]? = some (.bool false) ∧ cs[o + 1]? = some (.slice A1 (l1 : List Nat).length c1) ∧ cs[o + 2]? = some (.slice A2 (l2 : List Nat).length c2) ∧ NatR w A1 c1 l1 x ∧ NatR w A2 c2 l2 y
theorem Trd.at {w : World} {B o x y : Nat} {cs : Array Value} (h : Trd w cs o x y) (hT : TBl w B cs) : JAt w B o x y := by
  obtain ⟨A1, c1, l1, A2, c2, l2, h0, h1, h2, h3, h4⟩ := h
  exact ⟨cs, A1, c1, l1, A2, c2, l2, hT.1, h0, h1, h2, h3, h4⟩
theorem TBl.on {w w' : World} {B : Nat} {cs : Array Value} (h : TBl w B cs) (hb : Below w.heap.size w w') : TBl w' B cs := ⟨(hb.block B (heap_lt h.1)).trans h.1, h.2⟩
theorem Trd.on {w w' : World} {o x y : Nat} {cs : Array Value} (h : Trd w cs o x y) (hb : Below w.heap.size w w') : Trd w' cs o x y := by
  obtain ⟨A1, c1, l1, A2, c2, l2, h0, h1, h2, h3, h4⟩ := h
  exact ⟨A1, c1, l1, A2, c2, l2, h0, h1, h2, h3.on hb, h4.on hb⟩
theorem TBl.facts {w : World} {B o : Nat} {cs : Array Value} (h : TBl w B cs) (ho : o < 18) : (∃ v, w.cell? ⟨B, o, none⟩ = some v) ∧ w.frozen? ⟨B, o, none⟩ = false ∧ B < w.heap.size := by
  refine ⟨⟨cs[o]'(by rw [h.2.1]; exact ho), ?_⟩, frozenAt h.1 o, heap_lt h.1⟩
  rw [cellsAt h.1]; exact Array.getElem?_eq_getElem _
abbrev set3 (w : World) (B o : Nat) (a b c : Value) : World := ((w.setCell ⟨B, o, none⟩ a).setCell ⟨B, o + 1, none⟩ b).setCell ⟨B, o + 2, none⟩ c
abbrev cs3 (cs : Array Value) (o : Nat) (a b c : Value) : Array Value := ((cs.setIfInBounds o a).setIfInBounds (o + 1) b).setIfInBounds (o + 2) c
theorem fr_set3 (w : World) (B o : Nat) (a b c : Value) : Fr (fun i => i = B) w (set3 w B o a b c) := (((Fr.refl (fun i => i = B) w).setCell (p := ⟨B, o, none⟩) (fun _ => rfl) a).setCell (p := ⟨B, o + 1, none⟩) (fun _ => rfl) b).setCell (p := ⟨B, o + 2, none⟩) (fun _ => rfl) c
theorem noI_set {cs : Array Value} {i : Nat} {a : Value} (h : ∀ u ∈ cs.toList, NoI u) (ha : NoI a) : ∀ u ∈ (cs.setIfInBounds i a).toList, NoI u := by
  intro u hu
  rw [Array.toList_setIfInBounds] at hu
  rcases List.mem_or_eq_of_mem_set hu with h' | h'
  · exact h u h'
  · rw [h']; exact ha
theorem boxT {w : World} {H : Nat} {cs : Array Value} {t : TypeId} (h : w.heap[H]? = some (.cells cs t (0, 0))) (i : Nat) (u : Value) : (w.setCell ⟨H, i, none⟩ u).heap[H]? = some (.cells (cs.setIfInBounds i u) t (0, 0)) := by
  simp [World.setCell, Array.getElem?_modify, h]
theorem TBl.set {w : World} {B o : Nat} {cs : Array Value} (h : TBl w B cs) (a b c : Value) (ha : NoI a) (hb : NoI b) (hc : NoI c) : TBl (set3 w B o a b c) B (cs3 cs o a b c) := by
  refine ⟨?_, by simp [cs3, h.2.1], noI_set (noI_set (noI_set h.2.2 ha) hb) hc⟩
  exact boxT (boxT (boxT h.1 o a) (o + 1) b) (o + 2) c
theorem NatR.setT {w : World} {B o x cc : Nat} {A : Option Addr} {l : List Nat} {cs : Array Value} (h : NatR w A cc l x) (hT : TBl w B cs) (a b c : Value) : NatR (set3 w B o a b c) A cc l x :=
  h.keepB (fr_set3 w B o a b c).size fun b' o' e hlt hl => (fr_set3 w B o a b c).block b' hlt (h.apartB hT.1 (fun v hv z => hT.2.2 v hv _ z) b' o' e hl)
theorem cs3_far (cs : Array Value) {o j : Nat} (a b c : Value) (h : j < o ∨ o + 2 < j) : (cs3 cs o a b c)[j]? = cs[j]? := by
  unfold cs3
  rw [Array.getElem?_setIfInBounds_ne (by omega), Array.getElem?_setIfInBounds_ne (by omega), Array.getElem?_setIfInBounds_ne (by omega)]
theorem Trd.keep {w : World} {B o o' x y : Nat} {cs : Array Value} (h : Trd w cs o x y) (hT : TBl w B cs) (a b c : Value) (ho : o + 2 < o' ∨ o' + 2 < o) : Trd (set3 w B o' a b c) (cs3 cs o' a b c) o x y := by
  obtain ⟨A1, c1, l1, A2, c2, l2, h0, h1, h2, h3, h4⟩ := h
  exact ⟨A1, c1, l1, A2, c2, l2, by rw [cs3_far cs a b c (by omega)]; exact h0, by rw [cs3_far cs a b c (by omega)]; exact h1, by rw [cs3_far cs a b c (by omega)]; exact h2, h3.setT hT a b c, h4.setT hT a b c⟩
theorem Trd.new {w : World} {B o x y : Nat} {cs : Array Value} {A1 A2 : Option Addr} {c1 c2 : Nat} {l1 l2 : List Nat} (hT : TBl w B cs) (ho : o + 2 < 18) (h1 : NatR w A1 c1 l1 x) (h2 : NatR w A2 c2 l2 y) : Trd (set3 w B o (.bool false) (.slice A1 l1.length c1) (.slice A2 l2.length c2)) (cs3 cs o (.bool false) (.slice A1 l1.length c1) (.slice A2 l2.length c2)) o x y := by
  refine ⟨A1, c1, l1, A2, c2, l2, ?_, ?_, ?_, h1.setT hT _ _ _, h2.setT hT _ _ _⟩
  · unfold cs3
    rw [Array.getElem?_setIfInBounds_ne (by omega), Array.getElem?_setIfInBounds_ne (by omega), Array.getElem?_setIfInBounds_self, if_pos (by have := hT.2.1; omega)]
  · unfold cs3
    rw [Array.getElem?_setIfInBounds_ne (by omega), Array.getElem?_setIfInBounds_self, if_pos (by have := hT.2.1; rw [Array.size_setIfInBounds]; omega)]
  · unfold cs3
    rw [Array.getElem?_setIfInBounds_self, if_pos (by have := hT.2.1; rw [Array.size_setIfInBounds, Array.size_setIfInBounds]; omega)]
theorem noI_b (b : Bool) : NoI (.bool b) := fun _ _ => by simp
theorem noI_s (A : Option Addr) (n c : Nat) : NoI (.slice A n c) := fun _ _ => by simp

/-- the first fault of some short ratios -/
def shL : List (ByteArray × ByteArray) → Int
  | [] => 0
  | p :: l => if shC .between p.1.data.toList p.2.data.toList ≠ 0 then shC .between p.1.data.toList p.2.data.toList else shL l
theorem shL_all : ∀ {l : List (ByteArray × ByteArray)}, (∀ (j : Nat) (p : ByteArray × ByteArray), l[j]? = some p → shC .between p.1.data.toList p.2.data.toList = 0) → shL l = 0
  | [], _ => rfl
  | p :: l, h => by
    unfold shL
    rw [if_neg (by rw [h 0 p rfl]; decide)]
    exact shL_all fun j q hj => h (j + 1) q hj
theorem shL_at : ∀ {l : List (ByteArray × ByteArray)} {i : Nat} {p : ByteArray × ByteArray}, l[i]? = some p → (∀ (j : Nat) (q : ByteArray × ByteArray), j < i → l[j]? = some q → shC .between q.1.data.toList q.2.data.toList = 0) → shC .between p.1.data.toList p.2.data.toList ≠ 0 → shL l = shC .between p.1.data.toList p.2.data.toList
  | [], i, p, e, _, _ => by simp at e
  | q :: l, 0, p, e, _, h => by
    simp at e; subst e
    unfold shL; rw [if_pos h]
  | q :: l, i + 1, p, e, h0, h => by
    unfold shL
    rw [if_neg (by rw [h0 0 q (by omega) rfl]; decide)]
    exact shL_at (by simpa using e) (fun j r hj hr => h0 (j + 1) r (by omega) (by simpa using hr)) h
/-- what compile finds fault with -/
def trCode (l : List (ByteArray × ByteArray)) (p q : Rat) : Int := if shL l ≠ 0 then shL l else if 0 ≤ ordQ p q then 10 else 0
def prQ (p : ByteArray × ByteArray) : Rat := ratX p.1.data.toList p.2.data.toList
def CompPost (l : List (ByteArray × ByteArray)) (p q r0 r1 : Rat) (w : World) (e : Ending) (w' : World) : Prop :=
  (trCode l p q ≠ 0 ∧ e = .returned (.tuple #[.pointer none, .int .i64 (trCode l p q)]) ∧ Below w.heap.size w w') ∨
  (trCode l p q = 0 ∧ ∃ B, e = .returned (.tuple #[.pointer (some ⟨B, 0, none⟩), .int .i64 0]) ∧ TrR w' B p q r0 r1 ∧ TrOk p q r0 r1 ∧ w.heap.size ≤ B ∧ Below w.heap.size w w')
theorem prQ_small {p : ByteArray × ByteArray} (h : shC .between p.1.data.toList p.2.data.toList = 0) : 0 < frN (prQ p) ∧ frN (prQ p) < (prQ p).den ∧ (prQ p).den < 1000000 ∧ frS (prQ p) = false := by
  obtain ⟨y1, y2, y3, y4⟩ := shC_small h
  have hlt := (shC_zero h).2.2.2
  simp only [inQ, Bool.and_eq_true, decide_eq_true_eq] at hlt
  unfold prQ
  exact ⟨by omega, by omega, by omega, y4⟩
theorem four_at {α : Type} {a b c d p : α} {i : Nat} (h : [a, b, c, d][i]? = some p) : (i = 0 ∧ p = a) ∨ (i = 1 ∧ p = b) ∨ (i = 2 ∧ p = c) ∨ (i = 3 ∧ p = d) := by
  match i, h with
  | 0, h => simp at h; exact .inl ⟨rfl, h.symm⟩
  | 1, h => simp at h; exact .inr (.inl ⟨rfl, h.symm⟩)
  | 2, h => simp at h; exact .inr (.inr (.inl ⟨rfl, h.symm⟩))
  | 3, h => simp at h; exact .inr (.inr (.inr ⟨rfl, h.symm⟩))
  | i + 4, h => simp at h
theorem below_grown {w0 w w' : World} {v : Value} {xs : List Fc} {e : TypeId} (h : RowFc w w0.heap.size e v xs) (hb : Below w0.heap.size w0 w) (hg : w.grownBy w' v.ownBlock) : Below w0.heap.size w0 w' :=
  hb.trans ((Fr.of_grown hg).below hb.size fun i hi hm => by have := (h.block hm).1; omega)
/-- a trial's block with its four fractions -/
structure Tr4 (w : World) (B : Nat) (cs : Array Value) (p q r0 r1 : Rat) : Prop where
  b : TBl w B cs
  p0 : Trd w cs 0 (frN p) p.den
  p1 : Trd w cs 3 (frN q) q.den
  k0 : Trd w cs 6 (frN r0) r0.den
  k1 : Trd w cs 9 (frN r1) r1.den
theorem Tr4.on {w w' : World} {B : Nat} {cs : Array Value} {p q r0 r1 : Rat} (h : Tr4 w B cs p q r0 r1) (hb : Below w.heap.size w w') : Tr4 w' B cs p q r0 r1 := ⟨h.b.on hb, h.p0.on hb, h.p1.on hb, h.k0.on hb, h.k1.on hb⟩
theorem Tr4.set {w : World} {B o : Nat} {cs : Array Value} {p q r0 r1 : Rat} (h : Tr4 w B cs p q r0 r1) (ho : 12 ≤ o) (b : Bool) (A A' : Option Addr) (n c n' c' : Nat) : Tr4 (set3 w B o (.bool b) (.slice A n c) (.slice A' n' c')) B (cs3 cs o (.bool b) (.slice A n c) (.slice A' n' c')) p q r0 r1 :=
  ⟨h.b.set _ _ _ (noI_b _) (noI_s _ _ _) (noI_s _ _ _), h.p0.keep h.b _ _ _ (by omega), h.p1.keep h.b _ _ _ (by omega), h.k0.keep h.b _ _ _ (by omega), h.k1.keep h.b _ _ _ (by omega)⟩
theorem below_set3 {w0 w : World} {B o : Nat} (hb : Below w0.heap.size w0 w) (hB : w0.heap.size ≤ B) (x y z : Value) : Below w0.heap.size w0 (set3 w B o x y z) := hb.trans ((fr_set3 w B o x y z).below hb.size fun i hi hm => by omega)
theorem jq_mk {W : World} {A1 A2 : Option Addr} {c1 c2 : Nat} {l1 l2 : List Nat} {q : Rat} (h1 : NatR W A1 c1 l1 (frN q)) (h2 : NatR W A2 c2 l2 q.den) (hs : frS q = false) (hd : q.den < 1000000) (hn : frN q < q.den) : JQ W (.agg #[.bool false, .slice A1 l1.length c1, .slice A2 l2.length c2]) q 1 :=
  JQ.of (by rw [hs]; exact jf_mk h1 h2) (by unfold W64; omega) (by unfold W64; omega)
theorem ord_cross {p q : Rat} (hp : frS p = false) (hq : frS q = false) (h : ordQ p q < 0) : frN p * q.den < frN q * p.den := by
  have h := ordQ_lt.1 h
  rw [Rat.lt_iff, frN_int hp, frN_int hq] at h
  exact_mod_cast h
theorem infoFr : (Tryz.prog.info? 71).map (fun i => (i.zero, i.size, i.bytes)) = some (some zF, 3, 56) := by kernel_rfl
theorem four_of {xs : List Fc} (h : xs.length = 4) : ∃ a b c d, xs = [a, b, c, d] := by
  match xs, h with
  | [a, b, c, d], _ => exact ⟨a, b, c, d, rfl⟩
/-- what has been read so far -/
def GotF (xs : List Fc) (prs : List (ByteArray × ByteArray)) : Prop := ∀ (j : Nat) (h : Fc), xs[j]? = some h → ∃ p, prs[j]? = some p ∧ h.x = frN (prQ p) ∧ h.y = (prQ p).den
theorem GotF.app {xs : List Fc} {prs : List (ByteArray × ByteArray)} {h : Fc} {p : ByteArray × ByteArray} (hg : GotF xs prs) (hp : prs[xs.length]? = some p) (h1 : h.x = frN (prQ p)) (h2 : h.y = (prQ p).den) : GotF (xs ++ [h]) prs := by
  intro j g hj
  rcases Nat.lt_trichotomy j xs.length with hl | hl | hl
  · rw [List.getElem?_append_left hl] at hj; exact hg j g hj
  · subst hl
    rw [List.getElem?_concat_length] at hj
    obtain rfl := Option.some.inj hj
    exact ⟨p, hp, h1, h2⟩
  · have := (List.getElem?_eq_some_iff.1 hj).1
    simp at this; omega
set_option maxHeartbeats 8000000 in
set_option maxRecDepth 100000 in
theorem jCompile_any (S0 S1 S2 S3 S4 S5 S6 S7 : ByteArray) (w : World) (z0 : S0.size ≤ 9223372036854775800) (z1 : S1.size ≤ 9223372036854775800) (z2 : S2.size ≤ 9223372036854775800) (z3 : S3.size ≤ 9223372036854775800) (z4 : S4.size ≤ 9223372036854775800) (z5 : S5.size ≤ 9223372036854775800) (z6 : S6.size ≤ 9223372036854775800) (z7 : S7.size ≤ 9223372036854775800) :
    Calls Tryz.prog 26 #[.agg #[.string S0, .string S1, .string S2, .string S3, .string S4, .string S5, .string S6, .string S7]] w (CompPost [(S0, S1), (S2, S3), (S4, S5), (S6, S7)] (prQ (S0, S1)) (prQ (S2, S3)) (prQ (S4, S5)) (prQ (S6, S7)) w) := by
  obtain ⟨prs, hprs⟩ : ∃ l : List (ByteArray × ByteArray), l = [(S0, S1), (S2, S3), (S4, S5), (S6, S7)] := ⟨_, rfl⟩
  have HPR := Lib.hid hprs
  have HSH := Lib.hid (show ∀ (i : Nat) (p : ByteArray × ByteArray), prs[i]? = some p → ∀ W, Calls Tryz.prog 75 #[.agg #[.string p.1, .string p.2], .func (.func 76) #[] #[]] W (ShPost .between p.1.data.toList p.2.data.toList W) from fun i p hp W => by
    rw [hprs] at hp
    have hz : p.1.size ≤ 9223372036854775800 ∧ p.2.size ≤ 9223372036854775800 := by
      rcases four_at hp with ⟨_, rfl⟩ | ⟨_, rfl⟩ | ⟨_, rfl⟩ | ⟨_, rfl⟩
      · exact ⟨z0, z1⟩
      · exact ⟨z2, z3⟩
      · exact ⟨z4, z5⟩
      · exact ⟨z6, z7⟩
    exact jShort_any .between p.1 p.2 _ _ W rfl rfl hz.1 hz.2)
  rw [← hprs]
  obtain ⟨W0, hW0⟩ : ∃ W0, W0 = (w.alloc (.cells #[.string S0, .string S1, .string S2, .string S3, .string S4, .string S5, .string S6, .string S7] 25)).alloc (.cells #[.string S0, .string S1, .string S2, .string S3, .string S4, .string S5, .string S6, .string S7] 23) := ⟨_, rfl⟩
  have HST0 := Lib.hid (show St w W0 [(w.heap.size, .cells #[.string S0, .string S1, .string S2, .string S3, .string S4, .string S5, .string S6, .string S7] 25 (0, 0)), (w.heap.size + 1, .cells #[.string S0, .string S1, .string S2, .string S3, .string S4, .string S5, .string S6, .string S7] 23 (0, 0))] by rw [hW0]; exact ((St.start w).alloc _ _ rfl).alloc _ _ (by simp))
  have HEL := Lib.hid (show ∀ (i : Nat) (p : ByteArray × ByteArray), prs[i]? = some p → ∀ X, Below W0.heap.size W0 X → X.cell? ⟨w.heap.size + 1, i * 2, none⟩ = some (.string p.1) ∧ X.cell? ⟨w.heap.size + 1, i * 2 + 1, none⟩ = some (.string p.2) from fun i p hp X hX => by
    rw [hprs] at hp
    have hst := HST0.out.call hX
    rcases four_at hp with ⟨rfl, rfl⟩ | ⟨rfl, rfl⟩ | ⟨rfl, rfl⟩ | ⟨rfl, rfl⟩
    · exact ⟨hst.cell 1 0 rfl rfl, hst.cell 1 1 rfl rfl⟩
    · exact ⟨hst.cell 1 2 rfl rfl, hst.cell 1 3 rfl rfl⟩
    · exact ⟨hst.cell 1 4 rfl rfl, hst.cell 1 5 rfl rfl⟩
    · exact ⟨hst.cell 1 6 rfl rfl, hst.cell 1 7 rfl rfl⟩)
  have HPL := Lib.hid (show prs.length = 4 by rw [hprs]; rfl)
  have HB0 := Lib.hid HST0.out.below
  have HRN := Lib.hid (RowFr.nil (w := W0) (base := W0.heap.size) (e := 71))
  obtain ⟨p, hp⟩ : ∃ q, q = prQ (S0, S1) := ⟨_, rfl⟩
  obtain ⟨q, hq⟩ : ∃ r, r = prQ (S2, S3) := ⟨_, rfl⟩
  obtain ⟨r0, hr0⟩ : ∃ q, q = prQ (S4, S5) := ⟨_, rfl⟩
  obtain ⟨r1, hr1⟩ : ∃ q, q = prQ (S6, S7) := ⟨_, rfl⟩
  have HQS := Lib.hid (And.intro hp (And.intro hq (And.intro hr0 hr1)))
  rw [← hp, ← hq, ← hr0, ← hr1]
  clear hprs hp hq hr0 hr1 z0 z1 z2 z3 z4 z5 z6 z7
  obtain ⟨i0, hi0, hz0, hz1, hz2⟩ := info_parts infoFr
  go_enter Tryz.func26, Tryz.ntmps26
  go_wp2
  rw [← hW0]
  clear hW0
  go_loopw [4, 20] (fun lv kv wr => ∃ (i : Nat) (xs : List Fc), kv = .int .i64 (i : Nat) ∧ i ≤ 4 ∧ xs.length = i ∧ RowFr wr W0.heap.size 71 lv xs ∧ GotF xs prs ∧ (∀ (j : Nat) (p : ByteArray × ByteArray), j < i → prs[j]? = some p → shC .between p.1.data.toList p.2.data.toList = 0) ∧ Below W0.heap.size W0 wr) (fun _ kv _ => 4 - (intOf kv).toNat)
  case atStart => exact ⟨0, [], rfl, by omega, rfl, HRN.out, fun j h hj => by simp at hj, fun j p hj => by omega, Below.refl _ _⟩
  case round =>
    obtain ⟨i, xs, rfl, hi4, hxl, hrow, hgot, hall, hbw⟩ := hrel
    have HBW := Lib.hid hbw
    have HROW := Lib.hid hrow
    have HGOT := Lib.hid hgot
    have HALL := Lib.hid hall
    have HXL := Lib.hid hxl
    by_cases hlt : i < 4
    · obtain ⟨pr, hpr⟩ : ∃ p, prs[i]? = some p := ⟨_, List.getElem?_eq_getElem (by rw [HPL.out]; exact hlt)⟩
      have HPI := Lib.hid hpr
      obtain ⟨o0, o1⟩ := HEL.out i pr hpr wr hbw
      have HSI := Lib.hid (HSH.out i pr hpr)
      obtain ⟨S, T⟩ := pr
      have HSI2 := Lib.hid (show ∀ W, Calls Tryz.prog 75 #[.agg #[.string S, .string T], .func (.func 76) #[] #[]] W (ShPost .between S.data.toList T.data.toList W) from HSI.out)
      have o0' : wr.cell? ⟨w.heap.size + 1, i * 2, none⟩ = some (.string S) := o0
      have o1' : wr.cell? ⟨w.heap.size + 1, i * 2 + 1, none⟩ = some (.string T) := o1
      obtain ⟨W1, hW1⟩ : ∃ W1, W1 = wr.alloc (.cells #[.string S, .string T] 23) := ⟨_, rfl⟩
      have HB1 := Lib.hid (show Below wr.heap.size wr W1 by rw [hW1]; exact (Below.refl _ wr).alloc (Nat.le_refl _) _)
      have e1 : W1.heap[wr.heap.size]? = some (.cells #[.string S, .string T] 23 (0, 0)) := by rw [hW1]; exact alloc_at _ _ _ rfl
      have g0 : W1.cell? ⟨wr.heap.size, 0, none⟩ = some (.string S) := by rw [cellsAt e1]; rfl
      have g1 : W1.cell? ⟨wr.heap.size, 1, none⟩ = some (.string T) := by rw [cellsAt e1]; rfl
      clear hpr hrow hgot hall hbw hxl o0 o1 HSI e1
      go_wp2_with fail
      rw [← hW1]
      clear hW1
      (with_reducible refine (HSI2.out W1).mono ?_)
      rintro e w2 (⟨hne, rfl, hb2⟩ | ⟨hz, v, rfl, hv, hb2⟩)
      · obtain ⟨cc, hcc⟩ : ∃ c, c = shC .between S.data.toList T.data.toList := ⟨_, rfl⟩
        rw [← hcc] at hne ⊢
        have HL := Lib.hid (show shL prs = cc by rw [hcc]; exact shL_at HPI.out HALL.out (by rw [← hcc]; exact hne))
        have HNE := Lib.hid hne
        have t1 : (cc != 0) = true := by rw [bne_iff_ne]; exact hne
        have HB2 := Lib.hid (fun o => ((below_next HB0.out (below_next HBW.out (below_next HB1.out hb2))).alloc (below_next HB0.out (below_next HBW.out (below_next HB1.out hb2))).size o))
        clear hcc hne hb2 g0 g1 o0' o1'
        go_wp2
        refine bodyPost_ret (v := .tuple #[.pointer none, .int .i64 cc]) (by simp [results, Tryz.results26, go_sem]) rfl (.inl ⟨?_, ?_, HB2.out _⟩)
        · unfold trCode; rw [if_pos (by rw [HL.out]; exact HNE.out), HL.out]; exact HNE.out
        · unfold trCode; rw [if_pos (by rw [HL.out]; exact HNE.out), HL.out]
      · obtain ⟨A1, c1, l1, A2, c2, l2, rfl, h1, h2⟩ := hv
        obtain ⟨W3, hW3⟩ : ∃ W3, W3 = w2.alloc (.cells #[.bool false, .slice A1 l1.length c1, .slice A2 l2.length c2] 71) := ⟨_, rfl⟩
        have hb23 : Below w2.heap.size w2 W3 := by rw [hW3]; exact (Below.refl _ w2).alloc (Nat.le_refl _) _
        have hb13 := below_next hb2 hb23
        have hbr3 := below_next HB1.out hb13
        obtain ⟨W4, hW4⟩ : ∃ W4, W4 = W3.alloc (.cells #[.bool false, .slice A1 l1.length c1, .slice A2 l2.length c2] 71) := ⟨_, rfl⟩
        have hb34 : Below W3.heap.size W3 W4 := by rw [hW4]; exact (Below.refl _ W3).alloc (Nat.le_refl _) _
        have hbr4 := below_next hbr3 hb34
        have HRW4 := Lib.hid (HROW.out.call hbr4)
        have HN1 := Lib.hid ((h1.on hb23).on hb34)
        have HN2 := Lib.hid ((h2.on hb23).on hb34)
        have HB4 := Lib.hid (below_next HBW.out hbr4)
        have e3 : W3.heap[w2.heap.size]? = some (.cells #[.bool false, .slice A1 l1.length c1, .slice A2 l2.length c2] 71 (0, 0)) := by rw [hW3]; exact alloc_at _ _ _ rfl
        have k0 : W3.cell? ⟨w2.heap.size, 0, none⟩ = some (.bool false) := by rw [cellsAt e3]; rfl
        have k1 : W3.cell? ⟨w2.heap.size, 1, none⟩ = some (.slice A1 l1.length c1) := by rw [cellsAt e3]; rfl
        have k2 : W3.cell? ⟨w2.heap.size, 2, none⟩ = some (.slice A2 l2.length c2) := by rw [cellsAt e3]; rfl
        have hsz3 : W3.heap.size = w2.heap.size + 1 := by rw [hW3]; simp
        have e4 : W4.heap[w2.heap.size + 1]? = some (.cells #[.bool false, .slice A1 l1.length c1, .slice A2 l2.length c2] 71 (0, 0)) := by rw [hW4, ← hsz3]; exact alloc_at _ _ _ rfl
        clear hsz3
        have m0 : W4.cell? ⟨w2.heap.size + 1, 0, none⟩ = some (.bool false) := by rw [cellsAt e4]; rfl
        have m1 : W4.cell? ⟨w2.heap.size + 1, 1, none⟩ = some (.slice A1 l1.length c1) := by rw [cellsAt e4]; rfl
        have m2 : W4.cell? ⟨w2.heap.size + 1, 2, none⟩ = some (.slice A2 l2.length c2) := by rw [cellsAt e4]; rfl
        have HM := Lib.hid (show ∀ (j : Nat) u, (Fc.v ⟨A1, c1, l1, frN (prQ (S, T)), A2, c2, l2, (prQ (S, T)).den⟩)[j]? = some u → W4.cell? ((⟨w2.heap.size + 1, 0, none⟩ : Addr).add j) = some u from fun j u hj => by
          match j, hj with
          | 0, hj => simp [Fc.v] at hj; subst hj; simpa [Addr.add] using m0
          | 1, hj => simp [Fc.v] at hj; subst hj; simpa [Addr.add] using m1
          | 2, hj => simp [Fc.v] at hj; subst hj; simpa [Addr.add] using m2
          | j + 3, hj => simp [Fc.v] at hj)
        have HZ := Lib.hid hz
        rw [hW3] at k0 k1 k2
        clear hz h1 h2 hb2 hb23 hb13 hbr3 hb34 hbr4 e3 e4 m0 m1 m2 g0 g1 o0' o1'
        have hs0 : W0.heap.size ≤ W4.heap.size := HB4.out.size
        go_wp2_with (at_builtin; rw [← hW3, ← hW4]; refine wpList_append_fc rfl (.tmp 32) (.tmp 34) 124 rfl W0.heap.size 71 i0 Tryz.underlying124 hi0 hz0 hz1 (by omega) _ xs rfl HRW4.out.1 ⟨w2.heap.size + 1, 0, none⟩ ⟨A1, c1, l1, frN (prQ (S, T)), A2, c2, l2, (prQ (S, T)).den⟩ rfl HM.out (by have := HXL.out; omega) (by omega) ?_)
        intro v' wa hrowa hgra
        rw [← hW3, ← hW4] at hgra
        have HRW5 := Lib.hid (HRW4.out.app HN1.out HN2.out hrowa hgra)
        have HBA := Lib.hid (show Below W0.heap.size W0 wa from below_grown HRW4.out.1 HB4.out hgra)
        clear hrowa hgra hs0 k0 k1 k2 hW3 hW4
        go_wp2
        go_roundw
        case rel => exact ⟨i + 1, xs ++ [⟨A1, c1, l1, frN (prQ (S, T)), A2, c2, l2, (prQ (S, T)).den⟩], by go_num, by omega, by simp; exact HXL.out, HRW5.out, HGOT.out.app (by rw [HXL.out]; exact HPI.out) rfl rfl, fun j p hj hp => by
          rcases Nat.lt_or_ge j i with hl | hl
          · exact HALL.out j p hl hp
          · obtain rfl : j = i := by omega
            obtain rfl := Option.some.inj (HPI.out.symm.trans hp)
            exact HZ.out, HBA.out⟩
        case measure => simp [intOf]; omega
    · obtain rfl : i = 4 := by omega
      obtain ⟨h0, h1, h2, h3, rfl⟩ := four_of hxl
      have hz : ∀ (j : Nat) (p : ByteArray × ByteArray), prs[j]? = some p → shC .between p.1.data.toList p.2.data.toList = 0 := fun j p hp => hall j p (by have := (List.getElem?_eq_some_iff.1 hp).1; rw [HPL.out] at this; exact this) hp
      have hsl : shL prs = 0 := shL_all hz
      obtain ⟨y0, y1, y2, y3⟩ : ((0 < frN p ∧ frN p < p.den ∧ p.den < 1000000 ∧ frS p = false) ∧ (0 < frN q ∧ frN q < q.den ∧ q.den < 1000000 ∧ frS q = false) ∧ (0 < frN r0 ∧ frN r0 < r0.den ∧ r0.den < 1000000 ∧ frS r0 = false) ∧ (0 < frN r1 ∧ frN r1 < r1.den ∧ r1.den < 1000000 ∧ frS r1 = false)) := by
        obtain ⟨e0, e1, e2, e3⟩ := HQS.out
        have hp := HPR.out
        refine ⟨?_, ?_, ?_, ?_⟩
        · rw [e0]; exact prQ_small (hz 0 (S0, S1) (by rw [hp]; rfl))
        · rw [e1]; exact prQ_small (hz 1 (S2, S3) (by rw [hp]; rfl))
        · rw [e2]; exact prQ_small (hz 2 (S4, S5) (by rw [hp]; rfl))
        · rw [e3]; exact prQ_small (hz 3 (S6, S7) (by rw [hp]; rfl))
      have hg : (h0.x = frN p ∧ h0.y = p.den) ∧ (h1.x = frN q ∧ h1.y = q.den) ∧ (h2.x = frN r0 ∧ h2.y = r0.den) ∧ (h3.x = frN r1 ∧ h3.y = r1.den) := by
        obtain ⟨e0, e1, e2, e3⟩ := HQS.out
        have hp := HPR.out
        obtain ⟨a0, b0, g0, g0'⟩ := hgot 0 h0 rfl
        obtain ⟨a1, b1, g1, g1'⟩ := hgot 1 h1 rfl
        obtain ⟨a2, b2, g2, g2'⟩ := hgot 2 h2 rfl
        obtain ⟨a3, b3, g3, g3'⟩ := hgot 3 h3 rfl
        rw [hp] at b0 b1 b2 b3
        simp at b0 b1 b2 b3
        subst b0 b1 b2 b3
        rw [e0, e1, e2, e3]
        exact ⟨⟨g0, g0'⟩, ⟨g1, g1'⟩, ⟨g2, g2'⟩, ⟨g3, g3'⟩⟩
      obtain ⟨g, cap, hv0, hgl, a0, a1, a2, n0, n0'⟩ := hrow.at (i := 0) (h := h0) rfl
      obtain ⟨g', cap', hv1, _, b0, b1, b2, n1, n1'⟩ := hrow.at (i := 1) (h := h1) rfl
      obtain ⟨g'', cap'', hv2, _, d0, d1, d2, n2, n2'⟩ := hrow.at (i := 2) (h := h2) rfl
      obtain ⟨g3, cap3, hv3, _, f0, f1, f2, n3, n3'⟩ := hrow.at (i := 3) (h := h3) rfl
      rw [hv0] at hv1 hv2 hv3
      simp only [Value.slice.injEq, Option.some.injEq, Addr.mk.injEq, and_true, true_and] at hv1 hv2 hv3
      obtain ⟨rfl, rfl⟩ := hv1
      obtain ⟨rfl, rfl⟩ := hv2
      obtain ⟨rfl, rfl⟩ := hv3
      have hv0 := hv0
      subst hv0
      rw [hg.1.1] at n0
      rw [hg.1.2] at n0'
      rw [hg.2.1.1] at n1
      rw [hg.2.1.2] at n1'
      rw [hg.2.2.1.1] at n2
      rw [hg.2.2.1.2] at n2'
      rw [hg.2.2.2.1] at n3
      rw [hg.2.2.2.2] at n3'
      obtain ⟨B, hB⟩ : ∃ B, B = wr.heap.size := ⟨_, rfl⟩
      obtain ⟨cs, hcs⟩ : ∃ cs : Array Value, cs = #[.bool false, .slice h0.A1 h0.l1.length h0.c1, .slice h0.A2 h0.l2.length h0.c2, .bool false, .slice h1.A1 h1.l1.length h1.c1, .slice h1.A2 h1.l2.length h1.c2, .bool false, .slice h2.A1 h2.l1.length h2.c1, .slice h2.A2 h2.l2.length h2.c2, .bool false, .slice h3.A1 h3.l1.length h3.c1, .slice h3.A2 h3.l2.length h3.c2, .bool false, .slice none 0 0, .slice none 0 0, .bool false, .slice none 0 0, .slice none 0 0] := ⟨_, rfl⟩
      obtain ⟨W5, hW5⟩ : ∃ W5, W5 = (wr.alloc (.cells cs 74)).drew := ⟨_, rfl⟩
      have hb5 : Below wr.heap.size wr W5 := by rw [hW5]; exact ((Below.refl _ wr).alloc (Nat.le_refl _) _).drew
      have HT4 := Lib.hid (show Tr4 W5 B cs p q r0 r1 from by
        refine ⟨⟨by rw [hW5, hB]; exact alloc_at wr _ _ rfl, by rw [hcs]; rfl, ?_⟩, ⟨_, _, _, _, _, _, by rw [hcs]; rfl, by rw [hcs]; rfl, by rw [hcs]; rfl, n0.on hb5, n0'.on hb5⟩, ⟨_, _, _, _, _, _, by rw [hcs]; rfl, by rw [hcs]; rfl, by rw [hcs]; rfl, n1.on hb5, n1'.on hb5⟩, ⟨_, _, _, _, _, _, by rw [hcs]; rfl, by rw [hcs]; rfl, by rw [hcs]; rfl, n2.on hb5, n2'.on hb5⟩, ⟨_, _, _, _, _, _, by rw [hcs]; rfl, by rw [hcs]; rfl, by rw [hcs]; rfl, n3.on hb5, n3'.on hb5⟩⟩
        rw [hcs]
        intro u hu
        simp at hu
        rcases hu with rfl | rfl | rfl | rfl | rfl | rfl | rfl | rfl | rfl | rfl | rfl | rfl | rfl | rfl | rfl | rfl <;> first | exact noI_b _ | exact noI_s _ _ _)
      have N0 := Lib.hid (And.intro (n0.on hb5) (n0'.on hb5))
      have N1 := Lib.hid (And.intro (n1.on hb5) (n1'.on hb5))
      have HCS := Lib.hid hcs
      have HB5 := Lib.hid (below_next HB0.out (below_next HBW.out hb5))
      have HBsz := Lib.hid (show w.heap.size ≤ B by rw [hB]; have := HB0.out.size; have := HBW.out.size; omega)
      have HSL := Lib.hid hsl
      have HY := Lib.hid (And.intro y0 (And.intro y1 (And.intro y2 y3)))
      clear hrow hgot hall hbw hxl hz hg n0 n0' n1 n1' n2 n2' n3 n3' hb5 hsl y0 y1 y2 y3 HROW HGOT HALL HXL
      have HPQ := Lib.hid (show ∀ W, Below W5.heap.size W5 W → JQ W (.agg #[.bool false, .slice h0.A1 h0.l1.length h0.c1, .slice h0.A2 h0.l2.length h0.c2]) p 1 ∧ JQ W (.agg #[.bool false, .slice h1.A1 h1.l1.length h1.c1, .slice h1.A2 h1.l2.length h1.c2]) q 1 from fun W hb => ⟨jq_mk (N0.out.1.on hb) (N0.out.2.on hb) HY.out.1.2.2.2 HY.out.1.2.2.1 HY.out.1.2.1, jq_mk (N1.out.1.on hb) (N1.out.2.on hb) HY.out.2.1.2.2.2 HY.out.2.1.2.2.1 HY.out.2.1.2.1⟩)
      have HKS := Lib.hid (show ∀ X, Below W5.heap.size W5 X → (fun X => Below W5.heap.size W5 X ∧ X.cell? ⟨B, 0, none⟩ = some (.bool false) ∧ X.cell? ⟨B, 1, none⟩ = some (.slice h0.A1 h0.l1.length h0.c1) ∧ X.cell? ⟨B, 2, none⟩ = some (.slice h0.A2 h0.l2.length h0.c2) ∧ X.cell? ⟨B, 3, none⟩ = some (.bool false) ∧ X.cell? ⟨B, 4, none⟩ = some (.slice h1.A1 h1.l1.length h1.c1) ∧ X.cell? ⟨B, 5, none⟩ = some (.slice h1.A2 h1.l2.length h1.c2)) X from fun X hX => by
        have e := (hX.block B (heap_lt HT4.out.b.1)).trans HT4.out.b.1
        have hc := HCS.out
        exact ⟨hX, by rw [cellsAt e, hc]; rfl, by rw [cellsAt e, hc]; rfl, by rw [cellsAt e, hc]; rfl, by rw [cellsAt e, hc]; rfl, by rw [cellsAt e, hc]; rfl, by rw [cellsAt e, hc]; rfl⟩)
      have HCP := Lib.hid (fun W (hb : Below W5.heap.size W5 W) => jCompareQ 1 1 _ _ p q W (by omega) (by omega) (HPQ.out W hb).1 (HPQ.out W hb).2)
      obtain ⟨o, ho⟩ : ∃ o, o = ordQ p q := ⟨_, rfl⟩
      rw [← ho] at HCP
      have HO := Lib.hid ho
      clear ho
      go_wp2
      refine wp_region_still_tail 13 (by kernel_rfl) (by kernel_rfl) ?_
      simp only [List.take_succ_cons, List.take_zero, List.drop_succ_cons, List.drop_zero]
      repeat still_step
      refine wpStill_nil ?_
      change wpList _ _ _ _ _ wr.drew
      go_wp2_with fail
      rw [← hB]
      simp only [← hcs]
      rw [← hW5]
      clear hW5 hB hcs a0 a1 a2 b0 b1 b2 d0 d1 d2 f0 f1 f2
      go_region_held3 (fun X => Below W5.heap.size W5 X ∧ X.cell? ⟨B, 0, none⟩ = some (.bool false) ∧ X.cell? ⟨B, 1, none⟩ = some (.slice h0.A1 h0.l1.length h0.c1) ∧ X.cell? ⟨B, 2, none⟩ = some (.slice h0.A2 h0.l2.length h0.c2) ∧ X.cell? ⟨B, 3, none⟩ = some (.bool false) ∧ X.cell? ⟨B, 4, none⟩ = some (.slice h1.A1 h1.l1.length h1.c1) ∧ X.cell? ⟨B, 5, none⟩ = some (.slice h1.A2 h1.l2.length h1.c2))
        (first
          | exact HKS.out _ (Below.refl _ W5).drew
          | (go_split_ands; refine HKS.out _ (below_next ?_ hb6); assumption))
        (first
          | (go_at_call 77; (with_reducible refine (HCP.out _ (by go_split_ands; assumption)).mono ?_); rintro e w6 ⟨rfl, hb6⟩))
      have hb56 : Below W5.heap.size W5 w6 := by go_split_ands; assumption
      have HT6 := Lib.hid (HT4.out.on hb56)
      have HB6 := Lib.hid (below_next HB5.out hb56)
      have HN06 := Lib.hid (And.intro (N0.out.1.on hb56) (N0.out.2.on hb56))
      have HN16 := Lib.hid (And.intro (N1.out.1.on hb56) (N1.out.2.on hb56))
      clear hb6
      by_cases hlt : 0 ≤ o
      · clear hb56
        have t1 : decide (0 ≤ o) = true := decide_eq_true hlt
        have HC10 := Lib.hid (show trCode prs p q = 10 by unfold trCode; rw [if_neg (by rw [HSL.out]; decide), if_pos (by rw [← HO.out]; exact hlt)])
        go_wp2
        refine bodyPost_ret (v := .tuple #[.pointer none, .int .i64 10]) (by simp [results, Tryz.results26, go_sem]) rfl (.inl ⟨by rw [HC10.out]; decide, by rw [HC10.out], HB6.out⟩)
      · have t1 : decide (0 ≤ o) = false := decide_eq_false hlt
        have HC0 := Lib.hid (show trCode prs p q = 0 by unfold trCode; rw [if_neg (by rw [HSL.out]; decide), if_neg (by rw [← HO.out]; exact hlt)])
        obtain ⟨⟨y1, y2, y3, y4⟩, ⟨u1, u2, u3, u4⟩, ⟨x1, x2, x3, x4⟩, x5, x6, x7, x8⟩ := HY.out
        have hlt2 : ordQ p q < 0 := by rw [← HO.out]; omega
        have hG : TrG p q := ⟨y1, y2, u1, u2, ord_cross y4 u4 hlt2⟩
        have HOK := Lib.hid (show TrOk p q r0 r1 from ⟨hG, ⟨y3, u3⟩, x1, x2, x3, x5, x6, x7⟩)
        have hpW : frN p < W64 ^ 1 ∧ p.den < W64 ^ 1 := by unfold W64; omega
        have hqW : frN q < W64 ^ 1 ∧ q.den < W64 ^ 1 := by unfold W64; omega
        have HJF := Lib.hid (show ∀ W, Below w6.heap.size w6 W → JF W (.agg #[.bool false, .slice h0.A1 h0.l1.length h0.c1, .slice h0.A2 h0.l2.length h0.c2]) false (frN p) p.den ∧ JF W (.agg #[.bool false, .slice h1.A1 h1.l1.length h1.c1, .slice h1.A2 h1.l2.length h1.c2]) false (frN q) q.den from fun W hb => ⟨jf_mk (HN06.out.1.on hb) (HN06.out.2.on hb), jf_mk (HN16.out.1.on hb) (HN16.out.2.on hb)⟩)
        have HOV := Lib.hid (fun W (hb : Below w6.heap.size w6 W) => jOver_any 1 _ _ false false (frN q) q.den (frN p) p.den W (by omega) (HJF.out W hb).2 (HJF.out W hb).1 hqW.1 hqW.2 hpW.1 hpW.2)
        obtain ⟨_, _, _, _, hs1⟩ := lw_k (frN q * p.den) (y := q.den * frN p) (by rw [Nat.mul_comm]; exact hG.A.2.2.1)
        have HLW := Lib.hid (fun W v (hv : JF W v (false != false) (frN q * p.den) (q.den * frN p)) => show Calls Tryz.prog 78 #[v] W (JFPost false (bdN p q) (bdD p q) W) from by
          have h := jLowest_any v (false != false) _ _ (1 + 1) W hv (W64_mul hqW.1 hpW.2) (W64_mul hqW.2 hpW.1) (by omega) (by rw [Nat.mul_comm]; exact hG.A.2.2.1)
          rw [show (false != false) = false from rfl, hs1] at h
          exact h)
        have HRQ0 := Lib.hid (fun W v (hv : JF W v false (frN q) q.den) => jRest_any v false _ _ 1 W hv (by omega) hqW.2 (by omega))
        have HRP0 := Lib.hid (fun W v (hv : JF W v false (frN p) p.den) => jRest_any v false _ _ 1 W hv (by omega) hpW.2 (by omega))
        have m1 : q.den - frN q < W64 ^ 1 := by omega
        have m2 : p.den - frN p < W64 ^ 1 := by omega
        have HOV2 := Lib.hid (fun W u v (hu : JF W u false (q.den - frN q) q.den) (hv : JF W v false (p.den - frN p) p.den) => jOver_any 1 u v false false _ _ _ _ W (by omega) hu hv m1 hqW.2 m2 hpW.2)
        obtain ⟨_, _, _, _, hs2⟩ := lw_k ((q.den - frN q) * p.den) (y := q.den * (p.den - frN p)) (by rw [Nat.mul_comm]; exact hG.A.2.2.2)
        have HLW2 := Lib.hid (fun W v (hv : JF W v (false != false) ((q.den - frN q) * p.den) (q.den * (p.den - frN p))) => show Calls Tryz.prog 78 #[v] W (JFPost false (gdN p q) (gdD p q) W) from by
          have h := jLowest_any v (false != false) _ _ (1 + 1) W hv (W64_mul m1 hpW.2) (W64_mul hqW.2 m2) (by omega) (by rw [Nat.mul_comm]; exact hG.A.2.2.2)
          rw [show (false != false) = false from rfl, hs2] at h
          exact h)
        obtain ⟨a1, ha1⟩ : ∃ z, z = bdN p q := ⟨_, rfl⟩
        obtain ⟨a2, ha2⟩ : ∃ z, z = bdD p q := ⟨_, rfl⟩
        obtain ⟨a3, ha3⟩ : ∃ z, z = gdN p q := ⟨_, rfl⟩
        obtain ⟨a4, ha4⟩ : ∃ z, z = gdD p q := ⟨_, rfl⟩
        have HBG := Lib.hid (And.intro ha1 (And.intro ha2 (And.intro ha3 ha4)))
        rw [← ha1, ← ha2] at HLW
        rw [← ha3, ← ha4] at HLW2
        have HB56 := Lib.hid hb56
        clear ha1 ha2 ha3 ha4 hs1 hs2 m1 m2 hpW hqW hG hlt2 y1 y2 y3 y4 u1 u2 u3 u4 x1 x2 x3 x4 x5 x6 x7 x8 hb56
        have HKS6 := Lib.hid (show ∀ X, Below w6.heap.size w6 X → (fun X => Below w6.heap.size w6 X ∧ X.cell? ⟨B, 0, none⟩ = some (.bool false) ∧ X.cell? ⟨B, 1, none⟩ = some (.slice h0.A1 h0.l1.length h0.c1) ∧ X.cell? ⟨B, 2, none⟩ = some (.slice h0.A2 h0.l2.length h0.c2) ∧ X.cell? ⟨B, 3, none⟩ = some (.bool false) ∧ X.cell? ⟨B, 4, none⟩ = some (.slice h1.A1 h1.l1.length h1.c1) ∧ X.cell? ⟨B, 5, none⟩ = some (.slice h1.A2 h1.l2.length h1.c2)) X from fun X hX => by
          obtain ⟨_, e0, e1, e2, e3, e4, e5⟩ := HKS.out X (below_next HB56.out hX)
          exact ⟨hX, e0, e1, e2, e3, e4, e5⟩)
        go_upto_region 1 with fail
        refine wp_region_last (init := #[_, _, _, _, _, _, _, _, _, _, _, _, _]) (last := _) rfl (by kernel_rfl) (by kernel_rfl) (by kernel_rfl) ?_
        show wpAny _ _ _ _ 13 (Array.replicate 13 false) _ _
        refine wpAny_of_held (S := (fun X => Below w6.heap.size w6 X ∧ X.cell? ⟨B, 0, none⟩ = some (.bool false) ∧ X.cell? ⟨B, 1, none⟩ = some (.slice h0.A1 h0.l1.length h0.c1) ∧ X.cell? ⟨B, 2, none⟩ = some (.slice h0.A2 h0.l2.length h0.c2) ∧ X.cell? ⟨B, 3, none⟩ = some (.bool false) ∧ X.cell? ⟨B, 4, none⟩ = some (.slice h1.A1 h1.l1.length h1.c1) ∧ X.cell? ⟨B, 5, none⟩ = some (.slice h1.A2 h1.l2.length h1.c2))) _ _ _ _ ?_
        have HS0 := HKS6.out _ (Below.refl _ w6).drew
        refine wpAnyH_take (i := 0) (v := ?_) rfl (by kernel_rfl) (by kernel_rfl) (by kernel_rfl) (fun _ _ _ h => h) (Or.inl ⟨by rfl, ?_⟩) HS0 ?_
        rotate_left
        · intro W hW; (try dsimp only at hW); go_simp; try (with_reducible rfl)
        (try simp only [List.getElem_toArray, List.getElem_cons_succ, List.getElem_cons_zero, Act.put, List.setIfInBounds_toArray, List.set_cons_zero, List.set_cons_succ])
        refine wpAnyH_take (i := 1) (v := ?_) rfl (by kernel_rfl) (by kernel_rfl) (by kernel_rfl) (fun _ _ _ h => h) (Or.inl ⟨by rfl, ?_⟩) HS0 ?_
        rotate_left
        · intro W hW; (try dsimp only at hW); go_simp; try (with_reducible rfl)
        (try simp only [List.getElem_toArray, List.getElem_cons_succ, List.getElem_cons_zero, Act.put, List.setIfInBounds_toArray, List.set_cons_zero, List.set_cons_succ])
        refine wpAnyH_take (i := 2) (v := ?_) rfl (by kernel_rfl) (by kernel_rfl) (by kernel_rfl) (fun _ _ _ h => h) (Or.inl ⟨by rfl, ?_⟩) HS0 ?_
        rotate_left
        · intro W hW; (try dsimp only at hW); go_simp; try (with_reducible rfl)
        (try simp only [List.getElem_toArray, List.getElem_cons_succ, List.getElem_cons_zero, Act.put, List.setIfInBounds_toArray, List.set_cons_zero, List.set_cons_succ])
        refine wpAnyH_take (i := 3) (v := ?_) rfl (by kernel_rfl) (by kernel_rfl) (by kernel_rfl) (fun _ _ _ h => h) (Or.inl ⟨by rfl, ?_⟩) HS0 ?_
        rotate_left
        · intro W hW; (try dsimp only at hW); go_simp; try (with_reducible rfl)
        (try simp only [List.getElem_toArray, List.getElem_cons_succ, List.getElem_cons_zero, Act.put, List.setIfInBounds_toArray, List.set_cons_zero, List.set_cons_succ])
        refine wpAnyH_take (i := 4) (v := ?_) rfl (by kernel_rfl) (by kernel_rfl) (by kernel_rfl) (fun _ _ _ h => h) (Or.inl ⟨by rfl, ?_⟩) HS0 ?_
        rotate_left
        · intro W hW; (try dsimp only at hW); go_simp; try (with_reducible rfl)
        (try simp only [List.getElem_toArray, List.getElem_cons_succ, List.getElem_cons_zero, Act.put, List.setIfInBounds_toArray, List.set_cons_zero, List.set_cons_succ])
        refine wpAnyH_take (i := 5) (v := ?_) rfl (by kernel_rfl) (by kernel_rfl) (by kernel_rfl) (fun _ _ _ h => h) (Or.inl ⟨by rfl, ?_⟩) HS0 ?_
        rotate_left
        · intro W hW; (try dsimp only at hW); go_simp; try (with_reducible rfl)
        (try simp only [List.getElem_toArray, List.getElem_cons_succ, List.getElem_cons_zero, Act.put, List.setIfInBounds_toArray, List.set_cons_zero, List.set_cons_succ])
        refine wpAnyH_take (i := 6) (v := ?_) rfl (by kernel_rfl) (by kernel_rfl) (by kernel_rfl) (fun _ _ _ h => h) (Or.inl ⟨by rfl, ?_⟩) HS0 ?_
        rotate_left
        · intro W hW; (try dsimp only at hW); go_simp; try (with_reducible rfl)
        (try simp only [List.getElem_toArray, List.getElem_cons_succ, List.getElem_cons_zero, Act.put, List.setIfInBounds_toArray, List.set_cons_zero, List.set_cons_succ])
        refine wpAnyH_take (i := 7) (v := ?_) rfl (by kernel_rfl) (by kernel_rfl) (by kernel_rfl) (fun _ _ _ h => h) (Or.inl ⟨by rfl, ?_⟩) HS0 ?_
        rotate_left
        · intro W hW; (try dsimp only at hW); go_simp; try (with_reducible rfl)
        (try simp only [List.getElem_toArray, List.getElem_cons_succ, List.getElem_cons_zero, Act.put, List.setIfInBounds_toArray, List.set_cons_zero, List.set_cons_succ])
        refine wpAnyH_take (i := 8) (v := ?_) rfl (by kernel_rfl) (by kernel_rfl) (by kernel_rfl) (fun _ _ _ h => h) (Or.inl ⟨by rfl, ?_⟩) HS0 ?_
        rotate_left
        · intro W hW; (try dsimp only at hW); go_simp; try (with_reducible rfl)
        (try simp only [List.getElem_toArray, List.getElem_cons_succ, List.getElem_cons_zero, Act.put, List.setIfInBounds_toArray, List.set_cons_zero, List.set_cons_succ])
        refine run_one (i := 9) (by kernel_rfl) rfl rfl ?_
        intro K hK
        go_simp
        refine (HOV.out _ HS0.1).mono ?_
        rintro e w8 ⟨v8, rfl, hv8, hb8⟩
        refine hK.out _ _ (HKS6.out _ (below_next HS0.1 hb8)) ?_
        clear hK K
        have HSP := HS0
        clear HS0
        intro HS0
        refine run_one (i := 10) (by kernel_rfl) rfl rfl ?_
        intro K hK
        go_simp
        refine (HLW.out _ v8 hv8).mono ?_
        rintro e w9 ⟨v9, rfl, hv9, hb9⟩
        refine hK.out _ _ (HKS6.out _ (below_next HS0.1 hb9)) ?_
        clear hK K
        have HSP := HS0
        clear HS0
        intro HS0
        refine wpAnyH_take (i := 11) (v := ?_) rfl (by kernel_rfl) (by kernel_rfl) (by kernel_rfl) (fun _ _ _ h => h) (Or.inl ⟨by rfl, ?_⟩) HS0 ?_
        rotate_left
        · intro W hW; (try dsimp only at hW); go_simp; try (with_reducible rfl)
        (try simp only [List.getElem_toArray, List.getElem_cons_succ, List.getElem_cons_zero, Act.put, List.setIfInBounds_toArray, List.set_cons_zero, List.set_cons_succ])
        refine wpAnyH_take (i := 12) (v := ?_) rfl (by kernel_rfl) (by kernel_rfl) (by kernel_rfl) (fun _ _ _ h => h) (Or.inl ⟨by rfl, ?_⟩) HS0 ?_
        rotate_left
        · intro W hW; (try dsimp only at hW); go_simp; try (with_reducible rfl)
        (try simp only [List.getElem_toArray, List.getElem_cons_succ, List.getElem_cons_zero, Act.put, List.setIfInBounds_toArray, List.set_cons_zero, List.set_cons_succ])
        refine wpAnyH_done (by kernel_rfl) ?_ _
        simp only [LastQ]
        obtain ⟨A8, c8, l8, A9, c9, l9, rfl, hj1, hj2⟩ := hv9
        have hT9 := HT6.out.on HS0.1
        obtain ⟨⟨f12, k12⟩, z12, hlB⟩ := hT9.b.facts (o := 12) (by omega)
        obtain ⟨⟨f13, k13⟩, z13, -⟩ := hT9.b.facts (o := 13) (by omega)
        obtain ⟨⟨f14, k14⟩, z14, -⟩ := hT9.b.facts (o := 14) (by omega)
        obtain ⟨W10, hW10⟩ : ∃ W, W = ((w9.setCell ⟨B, 12, none⟩ (.bool false)).setCell ⟨B, 13, none⟩ (.slice A8 l8.length c8)).setCell ⟨B, 14, none⟩ (.slice A9 l9.length c9) := ⟨_, rfl⟩
        have HT10 := Lib.hid (show Tr4 W10 B _ p q r0 r1 from by rw [hW10]; exact hT9.set (o := 12) (by omega) false A8 A9 l8.length c8 l9.length c9)
        have HD12 := Lib.hid (show Trd W10 _ 12 a1 a2 from by rw [hW10]; exact Trd.new (o := 12) hT9.b (by omega) hj1 hj2)
        have HB10 := Lib.hid (show Below w.heap.size w W10 from by rw [hW10]; exact below_set3 (o := 12) (below_next HB6.out HS0.1) HBsz.out _ _ _)
        have HFR := Lib.hid (show ∀ i, i < 6 → ∀ X, Below W10.heap.size W10 X → X.cell? ⟨B, i, none⟩ = w9.cell? ⟨B, i, none⟩ from fun i hi X hX => by
          have e := (hX.block B (heap_lt HT10.out.b.1)).trans HT10.out.b.1
          rw [cellsAt e, cs3_far _ _ _ _ (by omega), cellsAt hT9.b.1])
        have HS9 := Lib.hid HS0.2
        have HNK := Lib.hid (show ∀ (A : Option Addr) (c : Nat) (l : List Nat) (x : Nat), NatR w6 A c l x → NatR W10 A c l x from fun A c l x h => by rw [hW10]; exact (h.on HS0.1).setT (o := 12) hT9.b _ _ _)
        have HJF2 := Lib.hid (show ∀ W, Below W10.heap.size W10 W → JF W (.agg #[.bool false, .slice h0.A1 h0.l1.length h0.c1, .slice h0.A2 h0.l2.length h0.c2]) false (frN p) p.den ∧ JF W (.agg #[.bool false, .slice h1.A1 h1.l1.length h1.c1, .slice h1.A2 h1.l2.length h1.c2]) false (frN q) q.den from fun W hb => ⟨jf_mk ((HNK.out _ _ _ _ HN06.out.1).on hb) ((HNK.out _ _ _ _ HN06.out.2).on hb), jf_mk ((HNK.out _ _ _ _ HN16.out.1).on hb) ((HNK.out _ _ _ _ HN16.out.2).on hb)⟩)
        clear HS0 HSP hb8 hb9 hv8 hj1 hj2 hT9
        go_simp
        have HRQ := Lib.hid (fun W (hb : Below W10.heap.size W10 W) => HRQ0.out W _ (HJF2.out W hb).2)
        have HRP := Lib.hid (fun W (hb : Below W10.heap.size W10 W) => HRP0.out W _ (HJF2.out W hb).1)
        have HKS10 := Lib.hid (show ∀ X, Below W10.heap.size W10 X → (fun X => Below W10.heap.size W10 X ∧ X.cell? ⟨B, 0, none⟩ = some (.bool false) ∧ X.cell? ⟨B, 1, none⟩ = some (.slice h0.A1 h0.l1.length h0.c1) ∧ X.cell? ⟨B, 2, none⟩ = some (.slice h0.A2 h0.l2.length h0.c2) ∧ X.cell? ⟨B, 3, none⟩ = some (.bool false) ∧ X.cell? ⟨B, 4, none⟩ = some (.slice h1.A1 h1.l1.length h1.c1) ∧ X.cell? ⟨B, 5, none⟩ = some (.slice h1.A2 h1.l2.length h1.c2)) X from fun X hX => by
          obtain ⟨e0, e1, e2, e3, e4, e5⟩ := HS9.out
          exact ⟨hX, (HFR.out 0 (by omega) X hX).trans e0, (HFR.out 1 (by omega) X hX).trans e1, (HFR.out 2 (by omega) X hX).trans e2, (HFR.out 3 (by omega) X hX).trans e3, (HFR.out 4 (by omega) X hX).trans e4, (HFR.out 5 (by omega) X hX).trans e5⟩)
        rw [← hW10]
        clear hW10 k12 k13 k14 z12 z13 z14 hlB
        go_upto_region 1 with fail
        refine wp_region_last (init := #[_, _, _, _, _, _, _, _, _, _, _, _, _, _, _]) (last := _) rfl (by kernel_rfl) (by kernel_rfl) (by kernel_rfl) ?_
        show wpAny _ _ _ _ 15 (Array.replicate 15 false) _ _
        refine wpAny_of_held (S := (fun X => Below W10.heap.size W10 X ∧ X.cell? ⟨B, 0, none⟩ = some (.bool false) ∧ X.cell? ⟨B, 1, none⟩ = some (.slice h0.A1 h0.l1.length h0.c1) ∧ X.cell? ⟨B, 2, none⟩ = some (.slice h0.A2 h0.l2.length h0.c2) ∧ X.cell? ⟨B, 3, none⟩ = some (.bool false) ∧ X.cell? ⟨B, 4, none⟩ = some (.slice h1.A1 h1.l1.length h1.c1) ∧ X.cell? ⟨B, 5, none⟩ = some (.slice h1.A2 h1.l2.length h1.c2))) _ _ _ _ ?_
        have HS0 := HKS10.out _ (Below.refl _ W10).drew
        refine wpAnyH_take (i := 0) (v := ?_) rfl (by kernel_rfl) (by kernel_rfl) (by kernel_rfl) (fun _ _ _ h => h) (Or.inl ⟨by rfl, ?_⟩) HS0 ?_
        rotate_left
        · intro W hW; (try dsimp only at hW); go_simp; try (with_reducible rfl)
        (try simp only [List.getElem_toArray, List.getElem_cons_succ, List.getElem_cons_zero, Act.put, List.setIfInBounds_toArray, List.set_cons_zero, List.set_cons_succ])
        refine wpAnyH_take (i := 1) (v := ?_) rfl (by kernel_rfl) (by kernel_rfl) (by kernel_rfl) (fun _ _ _ h => h) (Or.inl ⟨by rfl, ?_⟩) HS0 ?_
        rotate_left
        · intro W hW; (try dsimp only at hW); go_simp; try (with_reducible rfl)
        (try simp only [List.getElem_toArray, List.getElem_cons_succ, List.getElem_cons_zero, Act.put, List.setIfInBounds_toArray, List.set_cons_zero, List.set_cons_succ])
        refine wpAnyH_take (i := 2) (v := ?_) rfl (by kernel_rfl) (by kernel_rfl) (by kernel_rfl) (fun _ _ _ h => h) (Or.inl ⟨by rfl, ?_⟩) HS0 ?_
        rotate_left
        · intro W hW; (try dsimp only at hW); go_simp; try (with_reducible rfl)
        (try simp only [List.getElem_toArray, List.getElem_cons_succ, List.getElem_cons_zero, Act.put, List.setIfInBounds_toArray, List.set_cons_zero, List.set_cons_succ])
        refine wpAnyH_take (i := 3) (v := ?_) rfl (by kernel_rfl) (by kernel_rfl) (by kernel_rfl) (fun _ _ _ h => h) (Or.inl ⟨by rfl, ?_⟩) HS0 ?_
        rotate_left
        · intro W hW; (try dsimp only at hW); go_simp; try (with_reducible rfl)
        (try simp only [List.getElem_toArray, List.getElem_cons_succ, List.getElem_cons_zero, Act.put, List.setIfInBounds_toArray, List.set_cons_zero, List.set_cons_succ])
        refine wpAnyH_take (i := 4) (v := ?_) rfl (by kernel_rfl) (by kernel_rfl) (by kernel_rfl) (fun _ _ _ h => h) (Or.inl ⟨by rfl, ?_⟩) HS0 ?_
        rotate_left
        · intro W hW; (try dsimp only at hW); go_simp; try (with_reducible rfl)
        (try simp only [List.getElem_toArray, List.getElem_cons_succ, List.getElem_cons_zero, Act.put, List.setIfInBounds_toArray, List.set_cons_zero, List.set_cons_succ])
        refine wpAnyH_take (i := 6) (v := ?_) rfl (by kernel_rfl) (by kernel_rfl) (by kernel_rfl) (fun _ _ _ h => h) (Or.inl ⟨by rfl, ?_⟩) HS0 ?_
        rotate_left
        · intro W hW; (try dsimp only at hW); go_simp; try (with_reducible rfl)
        (try simp only [List.getElem_toArray, List.getElem_cons_succ, List.getElem_cons_zero, Act.put, List.setIfInBounds_toArray, List.set_cons_zero, List.set_cons_succ])
        refine wpAnyH_take (i := 7) (v := ?_) rfl (by kernel_rfl) (by kernel_rfl) (by kernel_rfl) (fun _ _ _ h => h) (Or.inl ⟨by rfl, ?_⟩) HS0 ?_
        rotate_left
        · intro W hW; (try dsimp only at hW); go_simp; try (with_reducible rfl)
        (try simp only [List.getElem_toArray, List.getElem_cons_succ, List.getElem_cons_zero, Act.put, List.setIfInBounds_toArray, List.set_cons_zero, List.set_cons_succ])
        refine wpAnyH_take (i := 8) (v := ?_) rfl (by kernel_rfl) (by kernel_rfl) (by kernel_rfl) (fun _ _ _ h => h) (Or.inl ⟨by rfl, ?_⟩) HS0 ?_
        rotate_left
        · intro W hW; (try dsimp only at hW); go_simp; try (with_reducible rfl)
        (try simp only [List.getElem_toArray, List.getElem_cons_succ, List.getElem_cons_zero, Act.put, List.setIfInBounds_toArray, List.set_cons_zero, List.set_cons_succ])
        refine wpAnyH_take (i := 9) (v := ?_) rfl (by kernel_rfl) (by kernel_rfl) (by kernel_rfl) (fun _ _ _ h => h) (Or.inl ⟨by rfl, ?_⟩) HS0 ?_
        rotate_left
        · intro W hW; (try dsimp only at hW); go_simp; try (with_reducible rfl)
        (try simp only [List.getElem_toArray, List.getElem_cons_succ, List.getElem_cons_zero, Act.put, List.setIfInBounds_toArray, List.set_cons_zero, List.set_cons_succ])
        refine run_one (i := 5) (by kernel_rfl) rfl rfl ?_
        intro K hK
        go_simp
        refine (HRQ.out _ HS0.1).mono ?_
        rintro e w12 ⟨v12, rfl, hv12, hb12⟩
        refine hK.out _ _ (HKS10.out _ (below_next HS0.1 hb12)) ?_
        clear hK K
        have HSP := HS0
        clear HS0
        intro HS0
        refine run_one (i := 10) (by kernel_rfl) rfl rfl ?_
        intro K hK
        go_simp
        refine (HRP.out _ HS0.1).mono ?_
        rintro e w13 ⟨v13, rfl, hv13, hb13⟩
        refine hK.out _ _ (HKS10.out _ (below_next HS0.1 hb13)) ?_
        clear hK K
        have HSP := HS0
        clear HS0
        intro HS0
        refine run_one (i := 11) (by kernel_rfl) rfl rfl ?_
        intro K hK
        go_simp
        refine (HOV2.out _ v12 v13 (hv12.on hb13) hv13).mono ?_
        rintro e w14 ⟨v14, rfl, hv14, hb14⟩
        refine hK.out _ _ (HKS10.out _ (below_next HS0.1 hb14)) ?_
        clear hK K
        have HSP := HS0
        clear HS0
        intro HS0
        refine run_one (i := 12) (by kernel_rfl) rfl rfl ?_
        intro K hK
        go_simp
        refine (HLW2.out _ v14 hv14).mono ?_
        rintro e w15 ⟨v15, rfl, hv15, hb15⟩
        refine hK.out _ _ (HKS10.out _ (below_next HS0.1 hb15)) ?_
        clear hK K
        have HSP := HS0
        clear HS0
        intro HS0
        refine wpAnyH_take (i := 13) (v := ?_) rfl (by kernel_rfl) (by kernel_rfl) (by kernel_rfl) (fun _ _ _ h => h) (Or.inl ⟨by rfl, ?_⟩) HS0 ?_
        rotate_left
        · intro W hW; (try dsimp only at hW); go_simp; try (with_reducible rfl)
        (try simp only [List.getElem_toArray, List.getElem_cons_succ, List.getElem_cons_zero, Act.put, List.setIfInBounds_toArray, List.set_cons_zero, List.set_cons_succ])
        refine wpAnyH_take (i := 14) (v := ?_) rfl (by kernel_rfl) (by kernel_rfl) (by kernel_rfl) (fun _ _ _ h => h) (Or.inl ⟨by rfl, ?_⟩) HS0 ?_
        rotate_left
        · intro W hW; (try dsimp only at hW); go_simp; try (with_reducible rfl)
        (try simp only [List.getElem_toArray, List.getElem_cons_succ, List.getElem_cons_zero, Act.put, List.setIfInBounds_toArray, List.set_cons_zero, List.set_cons_succ])
        refine wpAnyH_done (by kernel_rfl) ?_ _
        simp only [LastQ]
        obtain ⟨A18, c18, l18, A19, c19, l19, rfl, hj1, hj2⟩ := hv15
        have hT15 := HT10.out.on HS0.1
        obtain ⟨⟨f15, k15⟩, z15, hlB⟩ := hT15.b.facts (o := 15) (by omega)
        obtain ⟨⟨f16, k16⟩, z16, -⟩ := hT15.b.facts (o := 16) (by omega)
        obtain ⟨⟨f17, k17⟩, z17, -⟩ := hT15.b.facts (o := 17) (by omega)
        obtain ⟨W20, hW20⟩ : ∃ W, W = ((w15.setCell ⟨B, 15, none⟩ (.bool false)).setCell ⟨B, 16, none⟩ (.slice A18 l18.length c18)).setCell ⟨B, 17, none⟩ (.slice A19 l19.length c19) := ⟨_, rfl⟩
        have HT20 := Lib.hid (show Tr4 W20 B _ p q r0 r1 from by rw [hW20]; exact hT15.set (o := 15) (by omega) false A18 A19 l18.length c18 l19.length c19)
        have HE12 := Lib.hid (show Trd W20 _ 12 a1 a2 from by rw [hW20]; exact (HD12.out.on HS0.1).keep (o' := 15) hT15.b _ _ _ (by omega))
        have HE15 := Lib.hid (show Trd W20 _ 15 a3 a4 from by rw [hW20]; exact Trd.new (o := 15) hT15.b (by omega) hj1 hj2)
        have HB20 := Lib.hid (show Below w.heap.size w W20 from by rw [hW20]; exact below_set3 (o := 15) (below_next HB10.out HS0.1) HBsz.out _ _ _)
        clear HS0 HSP hb12 hb13 hb14 hb15 hv12 hv13 hv14 hj1 hj2 hT15
        go_simp
        rw [← hW20]
        clear hW20 k15 k16 k17 z15 z16 z17 hlB
        go_wp2
        have hbg := HBG.out
        have hTR : TrR W20 B p q r0 r1 := ⟨HT20.out.p0.at HT20.out.b, HT20.out.p1.at HT20.out.b, HT20.out.k0.at HT20.out.b, HT20.out.k1.at HT20.out.b, by rw [← hbg.1, ← hbg.2.1]; exact HE12.out.at HT20.out.b, by rw [← hbg.2.2.1, ← hbg.2.2.2]; exact HE15.out.at HT20.out.b⟩
        refine bodyPost_ret (v := .tuple #[.pointer (some ⟨B, 0, none⟩), .int .i64 0]) (by simp [results, Tryz.results26, go_sem]) rfl (.inr ⟨HC0.out, B, rfl, hTR, HOK.out, HBsz.out, HB20.out⟩)
end Go.Proofs.YtlkjgjojahjapaaGreatDoor
