import Derived.Test.YtnpfdelklolchaaGreatDoorNat
import Derived.Test.YtnpfdelklolchaaGreatDoorFracPlus
import Derived.Test.YtnpfdelklolchaaGreatDoorG22
import Derived.Test.YtnpfdelklolchaaGreatDoorRDivMod
import Derived.Test.YtnpfdelklolchaaGreatDoorNatDivK
import Derived.Test.YtnpfdelklolchaaGreatDoorG8
/- A number keeps its value. -/
namespace Go.Proofs.YtnpfdelklolchaaGreatDoor
open Go Go.RowKit Go.Proofs

theorem NatR.keep {w w' : World} {A : Option Addr} {c : Nat} {l : List Nat} {x : Nat} (h : NatR w A c l x) (hs : w.heap.size ≤ w'.heap.size) (hk : ∀ b o, A = some ⟨b, o, none⟩ → b < w.heap.size → 0 < l.length → w'.heap[b]? = w.heap[b]?) : NatR w' A c l x :=
  ⟨⟨h.rd.1, fun hn => by
    obtain ⟨b, o, e, h1, h2, h3⟩ := h.rd.2 hn
    exact ⟨b, o, e, h1, by omega, fun j u hu => (World.cell?_of_block (hk b o e h2 hn)).trans (h3 j u hu)⟩⟩, h.norm, h.val, h.cap, h.max, h.nil⟩
end Go.Proofs.YtnpfdelklolchaaGreatDoor

/- Fractions in variables that lie in memory. -/
namespace Go.Proofs.YtnpfdelklolchaaGreatDoor
open Go Go.RowKit Go.Proofs

/-- box B holds the fraction q -/
def VarQ (w : World) (B : Nat) (q : Rat) : Prop := ∃ A1 c1 l1 A2 c2 l2, w.heap[B]? = some (.cells #[.bool (frS q), .slice A1 l1.length c1, .slice A2 l2.length c2] 31 (0, 0)) ∧ RNatR w A1 c1 l1 (frN q) ∧ RNatR w A2 c2 l2 q.den
theorem VarQ.on {w w' : World} {B : Nat} {q : Rat} (h : VarQ w B q) (hb : Below w.heap.size w w') : VarQ w' B q := by
  obtain ⟨A1, c1, l1, A2, c2, l2, e, h1, h2⟩ := h
  exact ⟨A1, c1, l1, A2, c2, l2, (hb.block B (heap_lt e)).trans e, h1.on hb, h2.on hb⟩
theorem below_realloc {B : Nat} {w x : World} {Z Y : Obj} (h : Below B w (x.alloc Z)) (hB : B ≤ x.heap.size) : Below B w (x.alloc Y) := ⟨h.os, h.tape, h.output, by simpa using h.size, fun k hk => by
  have := h.block k hk
  rw [Below.heap_alloc _ _ _ (by omega)] at this ⊢
  exact this⟩
theorem varq_set {w : World} {B : Nat} {u0 u1 u2 : Value} {A1 A2 : Option Addr} {c1 c2 : Nat} {l1 l2 : List Nat} {q : Rat} (hX : w.heap[B]? = some (.cells #[u0, u1, u2] 31 (0, 0))) (hne : ∀ z, u0 ≠ .int .i64 z ∧ u1 ≠ .int .i64 z ∧ u2 ≠ .int .i64 z) (h1 : RNatR w A1 c1 l1 (frN q)) (h2 : RNatR w A2 c2 l2 q.den) :
    VarQ (((w.setCell ⟨B, 0, none⟩ (.bool (frS q))).setCell ⟨B, 1, none⟩ (.slice A1 l1.length c1)).setCell ⟨B, 2, none⟩ (.slice A2 l2.length c2)) B q := by
  have hf := fr3 (w := w) (B := B) (.bool (frS q)) (.slice A1 l1.length c1) (.slice A2 l2.length c2)
  have key : ∀ A c l x, RNatR w A c l x → RNatR (((w.setCell ⟨B, 0, none⟩ (.bool (frS q))).setCell ⟨B, 1, none⟩ (.slice A1 l1.length c1)).setCell ⟨B, 2, none⟩ (.slice A2 l2.length c2)) A c l x := fun A c l x h => h.keep hf.size (fun b o e hb hl => hf.block b hb (h.apart hX (by intro v hv z; have := hne z; simp at hv; rcases hv with rfl | rfl | rfl <;> simp [this]) b o e hl))
  refine ⟨A1, c1, l1, A2, c2, l2, ?_, key _ _ _ _ h1, key _ _ _ _ h2⟩
  simp [World.setCell, Array.getElem?_modify, hX]
/-- a store into a box of three cells that are no integers leaves the others as they are -/
theorem varq_far {w : World} {B B' : Nat} {u0 u1 u2 a0 a1 a2 : Value} {q : Rat} (h : VarQ w B q) (hX : w.heap[B']? = some (.cells #[u0, u1, u2] 31 (0, 0))) (hne : ∀ z, u0 ≠ .int .i64 z ∧ u1 ≠ .int .i64 z ∧ u2 ≠ .int .i64 z) (hB : B ≠ B') :
    VarQ (((w.setCell ⟨B', 0, none⟩ a0).setCell ⟨B', 1, none⟩ a1).setCell ⟨B', 2, none⟩ a2) B q := by
  have hf := fr3 (w := w) (B := B') a0 a1 a2
  have key : ∀ A c l x, RNatR w A c l x → RNatR (((w.setCell ⟨B', 0, none⟩ a0).setCell ⟨B', 1, none⟩ a1).setCell ⟨B', 2, none⟩ a2) A c l x := fun A c l x h => h.keep hf.size (fun b o e hb hl => hf.block b hb (h.apart hX (by intro v hv z; have := hne z; simp at hv; rcases hv with rfl | rfl | rfl <;> simp [this]) b o e hl))
  obtain ⟨A1, c1, l1, A2, c2, l2, e, h1, h2⟩ := h
  exact ⟨A1, c1, l1, A2, c2, l2, (hf.block B (heap_lt e) hB).trans e, key _ _ _ _ h1, key _ _ _ _ h2⟩
end Go.Proofs.YtnpfdelklolchaaGreatDoor

/- Package judge: fractions in memory: plus, compare. Printed by gen_jfrac2.py. -/
namespace Go.Proofs.YtnpfdelklolchaaGreatDoor
open Go Go.RowKit Go.Proofs


/-- box B holds a fraction -/
def JVar (w : World) (B : Nat) (b : Bool) (x y : Nat) : Prop := ∃ A1 c1 l1 A2 c2 l2, w.heap[B]? = some (.cells #[.bool b, .slice A1 (l1 : List Nat).length c1, .slice A2 (l2 : List Nat).length c2] 73 (0, 0)) ∧ NatR w A1 c1 l1 x ∧ NatR w A2 c2 l2 y
theorem JVar.on {w w' : World} {B : Nat} {b : Bool} {x y : Nat} (h : JVar w B b x y) (hb : Below w.heap.size w w') : JVar w' B b x y := by
  obtain ⟨A1, c1, l1, A2, c2, l2, e, h1, h2⟩ := h
  exact ⟨A1, c1, l1, A2, c2, l2, (hb.block B (heap_lt e)).trans e, h1.on hb, h2.on hb⟩
theorem JVar.lt {w : World} {B : Nat} {b : Bool} {x y : Nat} (h : JVar w B b x y) : B < w.heap.size := by
  obtain ⟨A1, c1, l1, A2, c2, l2, e, h1, h2⟩ := h
  exact heap_lt e
/-- what lies in such a box, as a value -/
theorem JVar.get {w : World} {B : Nat} {b : Bool} {x y : Nat} (h : JVar w B b x y) : ∃ A1 c1 l1 A2 c2 l2, (∀ W, Below w.heap.size w W → W.cell? ⟨B, 0, none⟩ = some (.bool b) ∧ W.cell? ⟨B, 1, none⟩ = some (.slice A1 (l1 : List Nat).length c1) ∧ W.cell? ⟨B, 2, none⟩ = some (.slice A2 (l2 : List Nat).length c2)) ∧ NatR w A1 c1 l1 x ∧ NatR w A2 c2 l2 y := by
  obtain ⟨A1, c1, l1, A2, c2, l2, e, h1, h2⟩ := h
  refine ⟨A1, c1, l1, A2, c2, l2, fun W hW => ?_, h1, h2⟩
  have e' := (hW.block B (heap_lt e)).trans e
  exact ⟨by rw [cellsAt e']; rfl, by rw [cellsAt e']; rfl, by rw [cellsAt e']; rfl⟩
theorem jvar_set {w : World} {B : Nat} {u0 u1 u2 : Value} {A1 A2 : Option Addr} {c1 c2 : Nat} {l1 l2 : List Nat} {b : Bool} {x y : Nat} (hX : w.heap[B]? = some (.cells #[u0, u1, u2] 73 (0, 0))) (hne : ∀ z, u0 ≠ .int .u64 z ∧ u1 ≠ .int .u64 z ∧ u2 ≠ .int .u64 z) (h1 : NatR w A1 c1 l1 x) (h2 : NatR w A2 c2 l2 y) :
    JVar (((w.setCell ⟨B, 0, none⟩ (.bool b)).setCell ⟨B, 1, none⟩ (.slice A1 l1.length c1)).setCell ⟨B, 2, none⟩ (.slice A2 l2.length c2)) B b x y := by
  have hf := fr3 (w := w) (B := B) (.bool b) (.slice A1 l1.length c1) (.slice A2 l2.length c2)
  have key : ∀ A c l x, NatR w A c l x → NatR (((w.setCell ⟨B, 0, none⟩ (.bool b)).setCell ⟨B, 1, none⟩ (.slice A1 l1.length c1)).setCell ⟨B, 2, none⟩ (.slice A2 l2.length c2)) A c l x := fun A c l x h => h.keepB hf.size (fun b o e hb hl => hf.block b hb (h.apartB hX (by intro v hv z; have := hne z; simp at hv; rcases hv with rfl | rfl | rfl <;> simp [this]) b o e hl))
  refine ⟨A1, c1, l1, A2, c2, l2, ?_, key _ _ _ _ h1, key _ _ _ _ h2⟩
  simp [World.setCell, Array.getElem?_modify, hX]
end Go.Proofs.YtnpfdelklolchaaGreatDoor

/- How long a power's number is; the exponents of powers by squares. -/
namespace Go.Proofs.YtnpfdelklolchaaGreatDoor

theorem pow_bound {B x K e n : Nat} (hB : 1 < B) (hx : x < B ^ K) (he : e ≤ n) : x ^ e < B ^ (K * n + 1) := by
  have h1 : x ^ e ≤ (B ^ K) ^ e := Nat.pow_le_pow_left (Nat.le_of_lt hx) e
  rw [← Nat.pow_mul] at h1
  have h2 : B ^ (K * e) ≤ B ^ (K * n) := Nat.pow_le_pow_right (by omega) (Nat.mul_le_mul_left K he)
  have h3 : B ^ (K * n) < B ^ (K * n + 1) := Nat.pow_lt_pow_right hB (Nat.lt_succ_self _)
  omega
theorem pow_len64 {l : List Nat} {x K e n : Nat} (hx : x < W64 ^ K) (he : e ≤ n) (hn : Norm W64 l) (hv : val W64 l = x ^ e) : l.length ≤ K * n + 1 :=
  len_of_lt hn hv (pow_bound W64_pos hx he)
theorem pow_odd_e {m e k n : Nat} (h : m + e * k = n) (hk : k % 2 = 1) : m + e + (e + e) * (k / 2) = n := by
  have h1 : e * k = e * (2 * (k / 2) + 1) := by congr 1; omega
  have h2 : e * (2 * (k / 2) + 1) = (e + e) * (k / 2) + e := by grind
  omega
theorem pow_even_e {m e k n : Nat} (h : m + e * k = n) (hk : k % 2 = 0) : m + (e + e) * (k / 2) = n := by
  have h1 : e * k = e * (2 * (k / 2)) := by congr 1; omega
  have h2 : e * (2 * (k / 2)) = (e + e) * (k / 2) := by grind
  omega
end Go.Proofs.YtnpfdelklolchaaGreatDoor

/- Package nat: Pow. -/
namespace Go.Proofs.YtnpfdelklolchaaGreatDoor
open Go Go.RowKit Go.Proofs

/-- what the loop keeps: powers of x, whose exponents still make n -/
def PowKeep (w wr : World) (x n k : Nat) (va vo : Value) : Prop :=
  ∃ (A1 A2 : Option Addr) (c1 c2 : Nat) (l1 l2 : List Nat) (m e : Nat), va = .slice A1 l1.length c1 ∧ vo = .slice A2 l2.length c2 ∧ NatR wr A1 c1 l1 (x ^ e) ∧ NatR wr A2 c2 l2 (x ^ m) ∧ m + e * k = n ∧ Below w.heap.size w wr
theorem nat_one_new (w : World) : NatR (w.alloc (.cells #[.int .u64 1] 110)) (some ⟨w.heap.size, 0, none⟩) 1 [1] 1 := by
  refine ⟨⟨by simp [u64s], fun _ => ⟨w.heap.size, 0, rfl, Nat.zero_le _, by simp, fun j u hj => ?_⟩⟩, ⟨?_, ?_⟩, ?_, by simp, by unfold maxLen; omega, fun h => by cases h⟩
  · have hj' := (List.getElem?_eq_some_iff.1 hj).1
    simp [u64s] at hj'
    subst hj'
    rw [cellsAt (alloc_at w _ _ rfl)]
    simp [u64s] at hj ⊢
    exact hj
  · intro d hd
    simp at hd
    subst hd; unfold W64; omega
  · simp
  · simp [val]

set_option maxHeartbeats 2000000 in
set_option maxRecDepth 100000 in
theorem natPow_any (A : Option Addr) (c : Nat) (l : List Nat) (x n K : Nat) (w : World) (h : NatR w A c l x) (hx : x < W64 ^ K) (hK : K * n ≤ 800000) (hn : n ≤ 1000000) :
    Calls Tryz.prog 85 #[.slice A l.length c, .int .i64 n] w (NatPost (x ^ n) w) := by
  have HN := Lib.hid h
  have HX := Lib.hid hx
  have HB0 := Lib.hid ((Below.refl w.heap.size w).alloc (Nat.le_refl _) (.cells #[.int .u64 1] 110))
  have HONE := Lib.hid (nat_one_new w)
  clear h hx
  go_enter Tryz.func85, Tryz.ntmps85
  go_wp2_with fail
  go_loopw [0, 1, 5, 7, 8] (fun a i o _ _ wr => ∃ k : Nat, i = .int .i64 k ∧ k ≤ n ∧ PowKeep w wr x n k a o) (fun _ i _ _ _ _ => (intOf i).toNat)
  case atStart => exact ⟨n, rfl, Nat.le_refl _, A, _, c, 1, l, [1], 0, 1, rfl, rfl, by rw [Nat.pow_one]; exact HN.out.on HB0.out, by rw [Nat.pow_zero]; exact HONE.out, by omega, HB0.out⟩
  case round =>
    obtain ⟨k, rfl, hk, A3, A4, c3, c4, l3, l4, m, e, rfl, rfl, h3, h4, hme, hb⟩ := hrel
    by_cases hp : 0 < k
    · have hek : e ≤ e * k := Nat.le_mul_of_pos_right e hp
      have hl3 : l3.length ≤ K * n + 1 := pow_len64 HX.out (show e ≤ n by omega) h3.norm h3.val
      have hl4 : l4.length ≤ K * n + 1 := pow_len64 HX.out (show m ≤ n by omega) h4.norm h4.val
      have t1 : decide ((0 : Int) < ↑k) = true := by simp; omega
      have t2 : decide (0 < k) = true := by simpa using hp
      have HB := Lib.hid hb
      have H3 := Lib.hid h3
      have H4 := Lib.hid h4
      clear hb h3 h4 hek
      by_cases ho : k % 2 = 1
      · have t3 : decide (0 < (k : Int) % 2) = true := by simp; omega
        have t4 : decide (0 < k % 2) = true := by simp; omega
        have HM := Lib.hid (natMul_any A4 A3 c4 c3 l4 l3 _ _ wr H4.out H3.out (by omega) (by omega))
        go_wp2_with fail
        refine HM.out.mono ?_
        rintro e2 w2 ⟨A5, c5, l5, rfl, h5, hb5⟩
        have H5 := Lib.hid h5
        have HB5 := Lib.hid hb5
        clear h5 hb5
        by_cases h1 : 1 < k
        · have t5 : decide (1 < (k : Int)) = true := by simp; omega
          have t6 : decide (1 < k) = true := by simpa using h1
          have HS := Lib.hid (fun W (hW : Below wr.heap.size wr W) => natMul_any A3 A3 c3 c3 l3 l3 _ _ W (H3.out.on hW) (H3.out.on hW) (by omega) (by omega))
          have HE := Lib.hid (pow_odd_e hme ho)
          clear hme
          go_wp2_with fail
          refine (HS.out _ HB5.out).mono ?_
          rintro e3 w3 ⟨A6, c6, l6, rfl, h6, hb6⟩
          have H6 := Lib.hid h6
          have HB6 := Lib.hid hb6
          clear h6 hb6
          go_wp2
          go_roundw
          case rel => exact ⟨k / 2, by first | rfl | go_num, by omega, A6, A5, c6, c5, l6, l5, m + e, e + e, rfl, rfl, by rw [Nat.pow_add]; exact H6.out, by rw [Nat.pow_add]; exact H5.out.on HB6.out, HE.out, HB.out.trans ((HB5.out.trans (HB6.out.mono HB5.out.size)).mono HB.out.size)⟩
          case measure => simp [intOf]; omega
        · obtain rfl : k = 1 := by omega
          have HE := Lib.hid (show m + e + e * 0 = n by omega)
          clear hme
          go_wp2
          go_roundw
          case rel => exact ⟨0, by first | rfl | go_num, by omega, A3, A5, c3, c5, l3, l5, m + e, e, rfl, rfl, H3.out.on HB5.out, by rw [Nat.pow_add]; exact H5.out, HE.out, HB.out.trans (HB5.out.mono HB.out.size)⟩
          case measure => simp [intOf]
      · have t3 : decide (0 < (k : Int) % 2) = false := by simp; omega
        have t4 : decide (0 < k % 2) = false := by simp; omega
        have t5 : decide (1 < (k : Int)) = true := by simp; omega
        have t6 : decide (1 < k) = true := by simp; omega
        have HS := Lib.hid (natMul_any A3 A3 c3 c3 l3 l3 _ _ wr H3.out H3.out (by omega) (by omega))
        have HE := Lib.hid (pow_even_e hme (show k % 2 = 0 by omega))
        clear hme
        go_wp2_with fail
        refine HS.out.mono ?_
        rintro e3 w3 ⟨A6, c6, l6, rfl, h6, hb6⟩
        have H6 := Lib.hid h6
        have HB6 := Lib.hid hb6
        clear h6 hb6
        go_wp2
        go_roundw
        case rel => exact ⟨k / 2, by first | rfl | go_num, by omega, A6, A4, c6, c4, l6, l4, m, e + e, rfl, rfl, by rw [Nat.pow_add]; exact H6.out, H4.out.on HB6.out, HE.out, HB.out.trans (HB6.out.mono HB.out.size)⟩
        case measure => simp [intOf]; omega
    · obtain rfl : k = 0 := by omega
      have HF := Lib.hid (show NatPost (x ^ n) w (.returned (.slice A4 l4.length c4)) wr from ⟨A4, c4, l4, rfl, by rw [← hme, Nat.mul_zero, Nat.add_zero]; exact h4, hb⟩)
      clear h3 h4 hme hb
      go_wp2
      go_ret
      exact HF.out
end Go.Proofs.YtnpfdelklolchaaGreatDoor
