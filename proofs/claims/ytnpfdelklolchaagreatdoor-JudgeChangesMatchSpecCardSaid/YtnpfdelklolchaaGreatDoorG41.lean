import Derived.Test.YtnpfdelklolchaaGreatDoorG31
import Derived.Test.YtnpfdelklolchaaGreatDoorG15
import Derived.Test.YtnpfdelklolchaaGreatDoorG14
import Derived.Test.YtnpfdelklolchaaGreatDoorG13
import Derived.Test.YtnpfdelklolchaaGreatDoorG12
import Derived.Test.YtnpfdelklolchaaGreatDoorG11
import Derived.Test.YtnpfdelklolchaaGreatDoorRowT
import Derived.Test.YtnpfdelklolchaaGreatDoorG34
import Derived.Test.YtnpfdelklolchaaGreatDoorG35
import Derived.Test.YtnpfdelklolchaaGreatDoorG23
import Derived.Test.YtnpfdelklolchaaGreatDoorG38
import Derived.Test.YtnpfdelklolchaaGreatDoorG19
/- The reference: common (the least number that all numbers up to n divide). -/
namespace Go.Proofs.YtnpfdelklolchaaGreatDoor
open Go Go.RowKit Go.Proofs

set_option maxHeartbeats 8000000 in
set_option maxRecDepth 100000 in
theorem r10Common_any (n : Nat) (w : World) (hn : n ≤ 300) : Calls Tryz.prog 45 #[.int .i64 (n : Int)] w (RNatPost (cmn n) w) := by
  have HSM := Lib.hid (fun W A c l x (h : RNatR W A c l x) (hx : x < T4 ^ 34) => (show (l : List Nat).length ≤ 34 from rlen_lt h.norm h.val hx))
  have HC := Lib.hid (fun k (hk : k ≤ 300) => (show cmn k < T4 ^ 34 from (cmn_small hk).2))
  go_enter Tryz.func45, Tryz.ntmps45
  go_wp2_with fail
  (with_reducible refine (rnatOf_any 1 w (by omega)).mono ?_)
  rintro e w1 ⟨A1, c1, l1, rfl, h1, hb1⟩
  go_wp2
  go_loopw [3, 4] (fun ov kv wr => ∃ (k : Nat) (A : Option Addr) (c : Nat) (l : List Nat), kv = .int .i64 (k : Int) ∧ 2 ≤ k ∧ k ≤ n + 2 ∧ (k ≤ n + 1 ∨ k = 2) ∧ ov = .slice A l.length c ∧ RNatR wr A c l (cmn (k - 1)) ∧ Below w.heap.size w wr) (fun _ kv _ => n + 1 - (intOf kv).toNat)
  case atStart => exact ⟨2, A1, c1, l1, rfl, by omega, by omega, .inr rfl, rfl, h1, hb1⟩
  case round =>
    obtain ⟨k, A, c, l, rfl, hk1, hk2, hk3, rfl, ho, hb⟩ := hrel
    by_cases hlt : k ≤ n
    · have HB := Lib.hid hb
      have HO := Lib.hid ho
      have HLO := Lib.hid (HSM.out _ _ _ _ _ ho (HC.out _ (by omega)))
      have HNX := Lib.hid (cmn_next (k := k) (by omega))
      have HG0 := Lib.hid (cmn_gcd (k := k))
      have HGK := Lib.hid (show Nat.gcd (cmn (k - 1)) k ≤ k from Nat.gcd_le_right _ (by omega))
      have HKW := Lib.hid (show ∀ x, x ≤ k → x < T4 ^ 34 from fun x hx => Nat.lt_of_le_of_lt hx (by unfold T4; omega))
      obtain ⟨C, hC⟩ : ∃ C, C = cmn (k - 1) := ⟨_, rfl⟩
      rw [← hC] at HO HNX HG0 HGK
      obtain ⟨G, hG⟩ : ∃ G, G = Nat.gcd C k := ⟨_, rfl⟩
      rw [← hG] at HNX HG0 HGK
      have HGE := Lib.hid hG
      clear hG hC ho hb
      go_wp2_with fail
      (with_reducible refine (rnatOf_any (k : Int) wr (by omega)).mono ?_)
      rintro e w2 ⟨A2, c2, l2, rfl, h2, hb2⟩
      rw [Int.toNat_natCast] at h2
      have HL2 := Lib.hid (HSM.out _ _ _ _ _ h2 (HKW.out _ (Nat.le_refl _)))
      have HGC := Lib.hid (rnatGcd_any A A2 c c2 l l2 C k w2 (HO.out.on hb2) h2 (by have := HLO.out; omega) (by have := HL2.out; omega))
      rw [← HGE.out] at HGC
      have HB2 := Lib.hid (below_next HB.out hb2)
      have HO2 := Lib.hid (HO.out.on hb2)
      clear h2 hb2 HO HB
      go_wp2_with fail
      (with_reducible refine (HGC.out).mono ?_)
      rintro e w3 ⟨A3, c3, l3, rfl, h3, hb3⟩
      have HL3 := Lib.hid (HSM.out _ _ _ _ _ h3 (HKW.out _ HGK.out))
      have HB3 := Lib.hid (below_next HB2.out hb3)
      have HO3 := Lib.hid (HO2.out.on hb3)
      have H3 := Lib.hid h3
      clear h3 hb3 HO2 HB2 HGC
      go_wp2_with fail
      (with_reducible refine (rnatOf_any (k : Int) w3 (by omega)).mono ?_)
      rintro e w4 ⟨A4, c4, l4, rfl, h4, hb4⟩
      rw [Int.toNat_natCast] at h4
      have HL4 := Lib.hid (HSM.out _ _ _ _ _ h4 (HKW.out _ (Nat.le_refl _)))
      have HDM := Lib.hid (rnatDivMod_any A4 A3 c4 c3 l4 l3 k G w4 h4 (H3.out.on hb4) (by have := HL4.out; omega) (by have := HL3.out; omega) HG0.out)
      have HB4 := Lib.hid (below_next HB3.out hb4)
      have HO4 := Lib.hid (HO3.out.on hb4)
      clear h4 hb4 HO3 HB3 H3
      go_wp2_with fail
      (with_reducible refine (HDM.out).mono ?_)
      rintro e w5 ⟨A5, c5, l5, A6, c6, l6, rfl, h5, -, hb5⟩
      have HL5 := Lib.hid (HSM.out _ _ _ _ _ h5 (HKW.out _ (Nat.div_le_self _ _)))
      have HMU := Lib.hid (rnatMul_any A A5 c c5 l l5 C (k / G) w5 (HO4.out.on hb5) h5 (by have := HLO.out; omega) (by have := HL5.out; omega))
      rw [HNX.out] at HMU
      have HB5 := Lib.hid (below_next HB4.out hb5)
      clear h5 hb5 HO4 HB4 HDM
      go_wp2_with fail
      (with_reducible refine (HMU.out).mono ?_)
      rintro e w6 ⟨A7, c7, l7, rfl, h7, hb7⟩
      have H7 := Lib.hid h7
      have HB7 := Lib.hid (below_next HB5.out hb7)
      clear h7 hb7 HB5 HMU
      go_wp2
      go_roundw
      case rel => exact ⟨k + 1, A7, c7, l7, by go_num, by omega, by omega, .inl (by omega), rfl, by rw [Nat.add_sub_cancel]; exact H7.out, HB7.out⟩
      case measure => simp [intOf]; omega
    · have HE := Lib.hid (show cmn (k - 1) = cmn n by
        rcases hk3 with h | h
        · rw [show k - 1 = n by omega]
        · subst h
          have : n = 0 ∨ n = 1 := by omega
          rcases this with rfl | rfl <;> decide)
      have HO := Lib.hid ho
      have HB := Lib.hid hb
      clear ho hb
      go_wp2
      go_ret
      exact ⟨A, c, l, rfl, by rw [← HE.out]; exact HO.out, HB.out⟩
end Go.Proofs.YtnpfdelklolchaaGreatDoor

/- Quotients of fractions: plain. -/
namespace Go.Proofs.YtnpfdelklolchaaGreatDoor
open Go

/-- bounds of a value through any form of it -/
theorem mk_sz {b : Bool} {x y X Y : Nat} (hy : 0 < y) (hx : x < X) (hY : y < Y) : frN (mkRat (sg b x) y) < X ∧ (mkRat (sg b x) y).den < Y := by
  obtain ⟨_, h2, h3⟩ := low_parts b (x := x) hy
  rw [h2, h3]
  exact ⟨Nat.lt_of_le_of_lt (Nat.div_le_self _ _) hx, Nat.lt_of_le_of_lt (Nat.div_le_self _ _) hY⟩
end Go.Proofs.YtnpfdelklolchaaGreatDoor

/- The reference's Changes: lemmas; parts of a function's code. Printed by gen_r10chg2.py. -/
namespace Go.Proofs.YtnpfdelklolchaaGreatDoor
open Go Go.RowKit Go.Proofs

/-- region n of a code -/
def findR (n : Nat) : Code → Option Code
  | .region m ops d => match Nat.beq m n with | true => some (.region m ops d) | false => none
  | .seq a b => match findR n a with | some c => some c | none => findR n b
  | .loop c => findR n c
  | .block _ c => findR n c
  | .cond _ a b => match findR n a with | some c => some c | none => findR n b
  | _ => none
/-- what follows region n in its sequence -/
def findT (n : Nat) : Code → Option Code
  | .seq (.region m _ops _d) b => match Nat.beq m n with | true => some b | false => findT n b
  | .seq a b => match findT n a with | some c => some c | none => findT n b
  | .loop c => findT n c
  | .block _ c => findT n c
  | .cond _ a b => match findT n a with | some c => some c | none => findT n b
  | _ => none
theorem at_KC {P : Program} {code : Code} {Q : Exit → Act → World → Prop} {K : Act → World → Prop} {a : Act} {w : World} (hK : ∀ (a : Act) (w : World), Code.wp P code Q a w → K a w) (h : Code.wp P code Q a w) : K a w := hK a w h
section
variable {P : Program} {Q : Exit → Act → World → Prop} {md : Region.Mode} {ops : Array Oper} {S : World → Prop}
theorem run_oneG {i : Nat} {o : Oper} {fuel : Nat} {listed : Array Bool} {a : Act} {w : World} (hr : Region.ready md ops listed = [i]) (ho : ops[i]? = some o) (hg : Region.wanted o (yielded ops a.tmps) = true)
    (h : ∀ K : Act → World → Prop, Hid (∀ a' w', S w' → (S w' → wpAnyH P md ops Q S fuel (listed.setIfInBounds i true) a' w') → K a' w') → o.wp P a w K Q) : wpAnyH P md ops Q S (fuel + 1) listed a w := by
  refine wpAnyH_all (rs := [i]) hr (by simp) fun j hj => ?_
  obtain rfl : j = i := by simpa using hj
  unfold wpOp
  rw [ho]
  simp only [hg, if_true]
  exact .inl (h _ (fun a' w' h1 h2 => ⟨h1, h2 h1⟩))
end
theorem bet_lt {a b : Nat × List Nat} {y z : Tv} (hy : y.k = f3 a) (hz : z.k = f3 b) (h : y.x < z.x) : betK a b = true := by
  have e1 : y.x = a.1 := congrArg Prod.fst hy
  have e2 : z.x = b.1 := congrArg Prod.fst hz
  unfold betK
  exact decide_eq_true (.inl (by omega))
theorem bet_gt {a b : Nat × List Nat} {y z : Tv} (hy : y.k = f3 a) (hz : z.k = f3 b) (h : z.x < y.x) : betK a b = false := by
  have e1 : y.x = a.1 := congrArg Prod.fst hy
  have e2 : z.x = b.1 := congrArg Prod.fst hz
  unfold betK
  exact decide_eq_false (by rintro (h1 | ⟨h1, _⟩) <;> omega)
theorem bet_less {a b : Nat × List Nat} {y z : Tv} (hy : y.k = f3 a) (hz : z.k = f3 b) (h : y.x = z.x) (hp : y.p < z.p) : betK a b = true := by
  have e1 : y.x = a.1 := congrArg Prod.fst hy
  have e2 : z.x = b.1 := congrArg Prod.fst hz
  have e3 : y.p = a.2.length + 1 := congrArg (fun u => u.2.1) hy
  have e4 : z.p = b.2.length + 1 := congrArg (fun u => u.2.1) hz
  unfold betK
  exact decide_eq_true (.inr ⟨by omega, .inl (by omega)⟩)
theorem bet_more {a b : Nat × List Nat} {y z : Tv} (hy : y.k = f3 a) (hz : z.k = f3 b) (h : y.x = z.x) (hp : z.p < y.p) : betK a b = false := by
  have e1 : y.x = a.1 := congrArg Prod.fst hy
  have e2 : z.x = b.1 := congrArg Prod.fst hz
  have e3 : y.p = a.2.length + 1 := congrArg (fun u => u.2.1) hy
  have e4 : z.p = b.2.length + 1 := congrArg (fun u => u.2.1) hz
  unfold betK
  exact decide_eq_false (by rintro (h1 | ⟨_, h1 | ⟨h1, _⟩⟩) <;> omega)
theorem bet_same {a b : Nat × List Nat} {y z : Tv} (hy : y.k = f3 a) (hz : z.k = f3 b) (h : y.x = z.x) (hp : y.p = z.p) : betK a b = befL y.zs z.zs := by
  have e1 : y.x = a.1 := congrArg Prod.fst hy
  have e2 : z.x = b.1 := congrArg Prod.fst hz
  have e3 : y.p = a.2.length + 1 := congrArg (fun u => u.2.1) hy
  have e4 : z.p = b.2.length + 1 := congrArg (fun u => u.2.1) hz
  have e5 : y.zs = a.2 := congrArg (fun u => u.2.2) hy
  have e6 : z.zs = b.2 := congrArg (fun u => u.2.2) hz
  have hl : a.2.length = b.2.length := by omega
  rw [e5, e6, befL_eq hl]
  unfold betK
  have h1 : ¬ a.1 < b.1 := by omega
  have h2 : a.1 = b.1 := by omega
  simp [hl, h2]
theorem runF_le {c : Nat → Nat → Nat} {E n i : Nat} {T : Nat → Nat × List Nat} : ∀ s, (runF c E T n i s).1 ≤ c i n
  | 0 => Nat.le_refl _
  | s + 1 => by
    have ih := runF_le (c := c) (E := E) (n := n) (i := i) (T := T) s
    rw [runF]
    rcases pickK_or (c i (i + (s + 1)) + E + (T (i + (s + 1))).1, (i + (s + 1)) :: (T (i + (s + 1))).2) (runF c E T n i s) with ⟨h1, e⟩ | ⟨_, e⟩
    · rw [e]
      rcases h1 with h1 | ⟨h1, _⟩ <;> omega
    · rw [e]; exact ih
theorem runF_len {c : Nat → Nat → Nat} {E n i : Nat} {T : Nat → Nat × List Nat} (hT : ∀ q, i < q → q < n → (T q).2.length ≤ n) : ∀ s, i + s < n → (runF c E T n i s).2.length ≤ n + 1
  | 0, _ => by rw [runF]; simp
  | s + 1, h => by
    have ih := runF_len (c := c) (E := E) hT s (by omega)
    have h2 := hT (i + (s + 1)) (by omega) h
    rw [runF]
    rcases pickK_or (c i (i + (s + 1)) + E + (T (i + (s + 1))).1, (i + (s + 1)) :: (T (i + (s + 1))).2) (runF c E T n i s) with ⟨_, e⟩ | ⟨_, e⟩
    · rw [e]; simp only [List.length_cons]; omega
    · rw [e]; exact ih
/-- the places lie apart from the box of texts -/
theorem pl_txt2 {W : World} {B c : Nat} {A : Option Addr} {zs : List Nat} {R1 R2 : ByteArray} {x y : Value} (h : PlR W A c zs) (ht : Txt2 W B R1 R2) :
    Rd ((W.setCell ⟨B, 0, none⟩ x).setCell ⟨B, 1, none⟩ y) 0 ((W.setCell ⟨B, 0, none⟩ x).setCell ⟨B, 1, none⟩ y).heap.size 1 A zs.length (nInts zs) := by
  refine ⟨h.1.1, fun hn => ?_⟩
  obtain ⟨b, o, e, h1, h2, hc⟩ := h.1.2 hn
  have hbB : b ≠ B := fun hb => by
    subst hb
    obtain ⟨z, hz⟩ : ∃ z, (nInts zs)[0]? = some (.int .i64 z) := by
      cases zs with
      | nil => simp at hn
      | cons a r => exact ⟨(a : Int), by simp [nInts]⟩
    have h3 := hc 0 _ hz
    rw [cellsAt ht] at h3
    match o + 0, h3 with
    | 0, h3 => simp at h3
    | 1, h3 => simp at h3
    | j + 2, h3 => simp at h3
  exact ⟨b, o, e, h1, by simpa [World.setCell] using h2, fun j u hj => (World.cell?_of_block (txt2_far hbB)).trans (hc j u hj)⟩
end Go.Proofs.YtnpfdelklolchaaGreatDoor
