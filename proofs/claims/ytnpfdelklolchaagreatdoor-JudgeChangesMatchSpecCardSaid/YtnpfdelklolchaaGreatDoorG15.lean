import Derived.Test.YtnpfdelklolchaaGreatDoorG14
import Derived.Deep.LoopGhost
import Derived.Test.YtnpfdelklolchaaGreatDoorG0
import Derived.Test.YtnpfdelklolchaaGreatDoorG1
import Derived.Deep.RegionHeld3
import Derived.Deep.CutRange
import Derived.Test.YtnpfdelklolchaaGreatDoorG11
/- Package dynamometerref0: Gcd. -/
namespace Go.Proofs.YtnpfdelklolchaaGreatDoor
open Go Go.RowKit Go.Proofs

set_option maxHeartbeats 2000000 in
set_option maxRecDepth 100000 in
theorem rnatGcd_any (A1 A2 : Option Addr) (c1 c2 : Nat) (l1 l2 : List Nat) (x y : Nat) (w : World) (h1 : RNatR w A1 c1 l1 x) (h2 : RNatR w A2 c2 l2 y) (hs : l1.length ≤ 900000) (hs2 : l2.length ≤ 900000) :
    Calls Tryz.prog 89 #[.slice A1 l1.length c1, .slice A2 l2.length c2] w (RNatPost (Nat.gcd x y) w) := by
  have HN1 := Lib.hid h1
  have HN2 := Lib.hid h2
  clear h1 h2
  go_enter Tryz.func89, Tryz.ntmps89
  go_wp2_with fail
  go_loopg [0, 1, 5, 6] y (fun k a b _ _ wr => ∃ (A1 A2 : Option Addr) (c1 c2 : Nat) (l1 l2 : List Nat) (x' : Nat), a = .slice A1 l1.length c1 ∧ b = .slice A2 l2.length c2 ∧ RNatR wr A1 c1 l1 x' ∧ RNatR wr A2 c2 l2 k ∧ Nat.gcd x' k = Nat.gcd x y ∧ l1.length ≤ 900000 ∧ l2.length ≤ 900000 ∧ Below w.heap.size w wr)
  case atStart => exact ⟨A1, A2, c1, c2, l1, l2, x, rfl, rfl, HN1.out, HN2.out, rfl, hs, hs2, Below.refl _ _⟩
  case round =>
    obtain ⟨A3, A4, c3, c4, l3, l4, x', rfl, rfl, h3, h4, hg, hs3, hs4, hb⟩ := hrel
    rcases Nat.eq_zero_or_pos gk with h0 | h0
    · have h0' : l4 = [] := (val_zero T4_pos h4.norm).1 (by rw [h4.val, h0])
      subst h0'
      have HR := Lib.hid (show RNatPost (Nat.gcd x y) w (.returned (.slice A3 l3.length c3)) wr from ⟨_, _, _, rfl, by rw [← hg, h0, Nat.gcd_zero_right]; exact h3, hb⟩)
      clear hg h3 h4 hb h0
      go_wp2
      go_ret
      exact HR.out
    · have hl4 : l4 ≠ [] := by
        rintro rfl
        have := h4.val
        simp [val] at this; omega
      have hl4' : l4.length ≠ 0 := fun h => hl4 (List.eq_nil_of_length_eq_zero h)
      have hz : decide (0 < (l4.length : Int)) = true := by simp; omega
      have hz' : decide (0 < l4.length) = true := by simp; omega
      have HD := Lib.hid (rnatDivMod_any A3 A4 c3 c4 l3 l4 x' gk wr h3 h4 hs3 hs4 h0)
      have HG := Lib.hid hg
      have H4 := Lib.hid h4
      have HB := Lib.hid hb
      clear hg h3 h4 hb hl4 hl4'
      go_wp2_with fail
      refine HD.out.mono ?_
      rintro e w1 ⟨A5, c5, l5, A6, c6, l6, rfl, h5, h6, hb1⟩
      have HR := Lib.hid (show RNatR w1 A4 c4 l4 gk ∧ RNatR w1 A6 c6 l6 (x' % gk) ∧ Nat.gcd gk (x' % gk) = Nat.gcd x y ∧ l6.length ≤ 900000 ∧ Below w.heap.size w w1 from ⟨H4.out.on hb1, h6, by
        rw [← HG.out, Nat.gcd_comm gk, ← Nat.gcd_rec, Nat.gcd_comm], by
        have := dm_len h6.norm h6.val H4.out.norm H4.out.val (Nat.mod_lt x' h0)
        omega, HB.out.trans (hb1.mono HB.out.size)⟩)
      clear h5 h6 hb1
      go_wp2
      go_roundg (x' % gk)
      case measure => exact Nat.mod_lt _ h0
      case rel => exact ⟨A4, A6, c4, c6, l4, l6, gk, rfl, rfl, HR.out.1, HR.out.2.1, HR.out.2.2.1, hs4, HR.out.2.2.2.1, HR.out.2.2.2.2⟩
end Go.Proofs.YtnpfdelklolchaaGreatDoor

/- Package dynamometerref0: fractions in memory; Lowest, Part, Whole. -/
namespace Go.Proofs.YtnpfdelklolchaaGreatDoor
open Go Go.RowKit Go.Proofs

/-- a value that is a fraction -/
def FracR (w : World) (v : Value) (q : Rat) : Prop :=
  ∃ A1 c1 l1 A2 c2 l2, v = .agg #[.bool (frS q), .slice A1 l1.length c1, .slice A2 l2.length c2] ∧ RNatR w A1 c1 l1 (frN q) ∧ RNatR w A2 c2 l2 q.den
theorem FracR.on {w w' : World} {v : Value} {q : Rat} (h : FracR w v q) (hb : Below w.heap.size w w') : FracR w' v q := by
  obtain ⟨A1, c1, l1, A2, c2, l2, e, h1, h2⟩ := h
  exact ⟨A1, c1, l1, A2, c2, l2, e, h1.on hb, h2.on hb⟩
def FracPost (q : Rat) (w : World) (e : Ending) (w' : World) : Prop := ∃ v, e = .returned v ∧ FracR w' v q ∧ Below w.heap.size w w'
/-- a fraction whose parts have at most n limbs -/
def Sz (n : Nat) (q : Rat) : Prop := frN q < T4 ^ n ∧ q.den < T4 ^ n
theorem RNatR.len {w : World} {A : Option Addr} {c : Nat} {l : List Nat} {x n : Nat} (h : RNatR w A c l x) (hx : x < T4 ^ n) : l.length ≤ n := rlen_lt h.norm h.val hx
/-- a number does not lie in a box whose cells are no integers -/
theorem RNatR.apart {w : World} {A : Option Addr} {c : Nat} {l : List Nat} {x B : Nat} {cs : Array Value} {t : TypeId} (h : RNatR w A c l x) (hB : w.heap[B]? = some (.cells cs t (0, 0))) (hcs : ∀ v ∈ cs.toList, ∀ z, v ≠ .int .i64 z) : ∀ b o, A = some ⟨b, o, none⟩ → 0 < l.length → b ≠ B := by
  rintro b o e hl rfl
  obtain ⟨b', o', e', _, _, hc⟩ := h.rd.2 hl
  rw [e] at e'
  simp only [Option.some.injEq, Addr.mk.injEq, and_true] at e'
  obtain ⟨rfl, rfl⟩ := e'
  have hu : (d4s l)[0]? = some ((d4s l)[0]'(by rw [d4s_length]; exact hl)) := List.getElem?_eq_getElem _
  have h1 := hc 0 _ hu
  obtain ⟨d, _, hd⟩ := d4s_get hu
  rw [cellsAt hB, hd] at h1
  obtain ⟨hlt, h2⟩ := Array.getElem?_eq_some_iff.1 h1
  exact hcs _ (by rw [← Array.getElem_toList hlt]; exact List.getElem_mem _) d h2
/-- the box of a result that is a fraction, as it is laid -/
def FBox (w : World) (B : Nat) : Prop := w.heap[B]? = some (.cells #[.bool false, .slice none 0 0, .slice none 0 0] 31 (0, 0))
theorem FBox.facts {w : World} {B : Nat} (h : FBox w B) : w.cell? ⟨B, 0, none⟩ = some (.bool false) ∧ w.cell? ⟨B, 1, none⟩ = some (.slice none 0 0) ∧ w.cell? ⟨B, 2, none⟩ = some (.slice none 0 0) ∧ w.frozen? ⟨B, 0, none⟩ = false ∧ w.frozen? ⟨B, 1, none⟩ = false ∧ w.frozen? ⟨B, 2, none⟩ = false ∧ B < w.heap.size :=
  ⟨by rw [cellsAt h]; rfl, by rw [cellsAt h]; rfl, by rw [cellsAt h]; rfl, frozenAt h 0, frozenAt h 1, frozenAt h 2, heap_lt h⟩
theorem FBox.on {w w' : World} {B : Nat} (h : FBox w B) (hb : Below w.heap.size w w') : FBox w' B := (hb.block B (heap_lt h)).trans h
/-- a fraction stored into the box of the result -/
theorem frac_ret {w0 w W : World} {B : Nat} {A1 A2 : Option Addr} {c1 c2 : Nat} {l1 l2 : List Nat} {q : Rat} {b : Bool} (hB : FBox w B) (hb : b = frS q) (h1 : RNatR w A1 c1 l1 (frN q)) (h2 : RNatR w A2 c2 l2 q.den) (hbl : Below w0.heap.size w0 w) (h0 : w0.heap.size ≤ B) (hf : Fr (fun i => i = B) w W) :
    FracR W (.agg #[.bool b, .slice A1 l1.length c1, .slice A2 l2.length c2]) q ∧ Below w0.heap.size w0 W := by
  have hcs : ∀ v ∈ (#[.bool false, .slice none 0 0, .slice none 0 0] : Array Value).toList, ∀ z, v ≠ .int .i64 z := by
    intro v hv z; simp at hv; rcases hv with rfl | rfl <;> simp
  refine ⟨⟨A1, c1, l1, A2, c2, l2, by rw [hb], h1.keep hf.size (fun b o e hlt hl => hf.block b hlt (h1.apart hB hcs b o e hl)), h2.keep hf.size (fun b o e hlt hl => hf.block b hlt (h2.apart hB hcs b o e hl))⟩, hbl.trans (hf.below hbl.size (fun i hi hm => by omega))⟩
theorem fr3 {w : World} {B : Nat} (u v z : Value) : Fr (fun i => i = B) w (((w.setCell ⟨B, 0, none⟩ u).setCell ⟨B, 1, none⟩ v).setCell ⟨B, 2, none⟩ z) :=
  (((Fr.refl (fun i => i = B) w).setCell (fun _ => rfl) _).setCell (fun _ => rfl) _).setCell (fun _ => rfl) _

set_option maxHeartbeats 2000000 in
set_option maxRecDepth 100000 in
theorem rLowest_any (b : Bool) (A1 A2 : Option Addr) (c1 c2 : Nat) (l1 l2 : List Nat) (x y : Nat) (w : World) (h1 : RNatR w A1 c1 l1 x) (h2 : RNatR w A2 c2 l2 y) (hs : l1.length ≤ 900000) (hs2 : l2.length ≤ 900000) (hy : 0 < y) :
    Calls Tryz.prog 53 #[.bool b, .slice A1 l1.length c1, .slice A2 l2.length c2] w (FracPost (mkRat (sg b x) y) w) := by
  have HN1 := Lib.hid h1
  have HN2 := Lib.hid h2
  rcases Nat.eq_zero_or_pos x with h0 | h0
  · have h0' : l1 = [] := (val_zero T4_pos h1.norm).1 (by rw [h1.val, h0])
    subst h0' h0
    rw [low_zero]
    clear h1 h2
    have HO := Lib.hid (fun W => rnatOf_any 1 W (by omega))
    go_enter Tryz.func53, Tryz.ntmps53
    obtain ⟨W0, hW0⟩ : ∃ W0, W0 = w.alloc (.cells #[.bool false, .slice none 0 0, .slice none 0 0] 31) := ⟨_, rfl⟩
    have hb0 : Below w.heap.size w W0 := by rw [hW0]; exact (Below.refl _ w).alloc (Nat.le_refl _) _
    have hx0 : FBox W0 w.heap.size := by rw [hW0]; exact alloc_at _ _ _ rfl
    go_wp2_with fail
    rw [← hW0]
    clear hW0
    refine (HO.out _).mono ?_
    rintro e w1 ⟨A3, c3, l3, rfl, hn3, hb3⟩
    have HX := Lib.hid (hx0.on hb3)
    have HF := Lib.hid (fun W (hf : Fr (fun i => i = w.heap.size) w1 W) => frac_ret (q := 0) (b := false) (hx0.on hb3) rfl (rnatr_nil w1) hn3 (below_next hb0 hb3) (Nat.le_refl _) hf)
    obtain ⟨k0, k1, k2, z0, z1, z2, hlt⟩ := HX.out.facts
    clear hb0 hx0 hn3 hb3
    go_wp2
    refine bodyPost_ret (v := .agg #[.bool false, .slice none 0 0, .slice A3 l3.length c3]) (by simp [results, Tryz.results53, go_sem, k0, k1, k2]) rfl ⟨_, rfl, HF.out _ ?_⟩
    exact fr3 _ _ _
  · obtain ⟨f1, f2, f3⟩ := low_pos (b := b) h0 hy
    have hg0 : 0 < Nat.gcd x y := Nat.gcd_pos_of_pos_left y h0
    have hgy : Nat.gcd x y ≤ y := Nat.le_of_dvd hy (Nat.gcd_dvd_right x y)
    have hyl : y < T4 ^ l2.length := rval_lt h2.norm h2.val
    have hxl : l1.length ≠ 0 := by
      intro h
      have : l1 = [] := List.eq_nil_of_length_eq_zero h
      subst this
      have := h1.val
      simp [val] at this; omega
    have t1 : ((l1.length : Int) == 0) = false := by simpa using hxl
    have t1' : (l1.length == 0) = false := by simpa using hxl
    have hGL := fun (W : World) A c (l : List Nat) (h : RNatR W A c l (Nat.gcd x y)) => show l.length ≤ l2.length from h.len (Nat.lt_of_le_of_lt hgy hyl)
    obtain ⟨g, hg⟩ : ∃ g, g = Nat.gcd x y := ⟨_, rfl⟩
    rw [← hg] at f2 f3 hg0 hGL
    obtain ⟨q, hq⟩ : ∃ q, q = mkRat (sg b x) y := ⟨_, rfl⟩
    rw [← hq] at f1 f2 f3 ⊢
    have HGL := Lib.hid hGL
    have HFF := Lib.hid (And.intro f1 (And.intro f2 f3))
    have HO := Lib.hid (fun W => rnatOf_any 1 W (by omega))
    have HG := Lib.hid (fun W (hb : Below w.heap.size w W) => rnatGcd_any A1 A2 c1 c2 l1 l2 x y W (HN1.out.on hb) (HN2.out.on hb) hs hs2)
    rw [← hg] at HG
    clear h1 h2 hq hg f1 f2 f3 hgy hyl hxl hGL
    obtain ⟨W0, hW0⟩ : ∃ W0, W0 = w.alloc (.cells #[.bool false, .slice none 0 0, .slice none 0 0] 31) := ⟨_, rfl⟩
    have HB0 := Lib.hid (show Below w.heap.size w W0 by rw [hW0]; exact (Below.refl _ w).alloc (Nat.le_refl _) _)
    have HX0 := Lib.hid (show FBox W0 w.heap.size by rw [hW0]; exact alloc_at _ _ _ rfl)
    go_enter Tryz.func53, Tryz.ntmps53
    go_wp2_with fail
    rw [← hW0]
    clear hW0
    refine (HG.out _ HB0.out).mono ?_
    rintro e w1 ⟨A3, c3, l3, rfl, hn3, hb3⟩
    have HN3 := Lib.hid hn3
    have HB1 := Lib.hid hb3
    have hl3 := HGL.out w1 A3 c3 l3 hn3
    clear hn3 hb3
    go_wp2_with fail
    refine (HO.out _).mono ?_
    rintro e w2 ⟨A4, c4, l4, rfl, hn4, hb4⟩
    have hl4 : l4.length ≤ 4 := hn4.len (by rw [T4_4]; decide)
    have HC := Lib.hid (rnatCmp_any A3 A4 c3 c4 l3 l4 g _ w2 (HN3.out.on hb4) hn4 (by omega) (by omega))
    have HB2 := Lib.hid (below_next HB1.out hb4)
    obtain ⟨cv, hcv⟩ : ∃ cv, cv = cmpN g (1 : Int).toNat := ⟨_, rfl⟩
    rw [← hcv] at HC
    clear hn4
    by_cases hg1 : 1 < g
    · have tc : decide (0 < cv) = true := by rw [hcv]; unfold cmpN; simp; split <;> (try split) <;> omega
      have HD1 := Lib.hid (fun W (hb : Below w2.heap.size w2 W) (h3 : RNatR W A3 c3 l3 g) => rnatDivMod_any A1 A3 c1 c3 l1 l3 x g W (HN1.out.on (below_next HB0.out (below_next HB2.out hb))) h3 (by omega) (by omega) hg0)
      have HD2 := Lib.hid (fun W (hb : Below w2.heap.size w2 W) (h3 : RNatR W A3 c3 l3 g) => rnatDivMod_any A2 A3 c2 c3 l2 l3 y g W (HN2.out.on (below_next HB0.out (below_next HB2.out hb))) h3 (by omega) (by omega) hg0)
      clear hcv
      go_wp2_with fail
      refine HC.out.mono ?_
      rintro e w3 ⟨rfl, qq, rfl⟩
      have HN3' := Lib.hid (show RNatR (w2.drewN qq) A3 c3 l3 g from (HN3.out.on hb4).on (below_drewN (Below.refl _ w2) qq))
      have HD := Lib.hid (below_drewN (Below.refl w2.heap.size w2) qq)
      go_wp2_with fail
      refine (HD1.out _ HD.out HN3'.out).mono ?_
      rintro e w4 ⟨A5, c5, l5, A6, c6, l6, rfl, hn5, _, hb5⟩
      have HD4 := Lib.hid (below_next HD.out hb5)
      have HN5 := Lib.hid hn5
      have HN3'' := Lib.hid (HN3'.out.on hb5)
      clear hn5 hb5
      go_wp2_with fail
      refine (HD2.out _ HD4.out HN3''.out).mono ?_
      rintro e w5 ⟨A7, c7, l7, A8, c8, l8, rfl, hn7, _, hb7⟩
      have hb9 : Below W0.heap.size W0 w5 := below_next HB2.out (below_next HD4.out hb7)
      have HX := Lib.hid (HX0.out.on hb9)
      obtain ⟨f1, f2, f3⟩ := HFF.out
      have HF := Lib.hid (fun W (hf : Fr (fun i => i = w.heap.size) w5 W) => frac_ret (q := q) (b := b) HX.out f1.symm (by rw [f2]; exact HN5.out.on hb7) (by rw [f3]; exact hn7) (below_next HB0.out hb9) (Nat.le_refl _) hf)
      obtain ⟨k0, k1, k2, z0, z1, z2, hlt⟩ := HX.out.facts
      clear hb9 f1 f2 f3 hn7 hb7
      go_wp2
      refine bodyPost_ret (v := .agg #[.bool b, .slice A5 l5.length c5, .slice A7 l7.length c7]) (by simp [results, Tryz.results53, go_sem, k0, k1, k2]) rfl ⟨_, rfl, HF.out _ ?_⟩
      exact fr3 _ _ _
    · obtain rfl : g = 1 := by omega
      have tc : decide (0 < cv) = false := by rw [hcv]; rfl
      clear hcv
      go_wp2_with fail
      refine HC.out.mono ?_
      rintro e w3 ⟨rfl, qq, rfl⟩
      have hb3 : Below W0.heap.size W0 (w2.drewN qq) := below_drewN HB2.out qq
      have HX := Lib.hid (HX0.out.on hb3)
      obtain ⟨f1, f2, f3⟩ := HFF.out
      rw [Nat.div_one] at f2 f3
      have HF := Lib.hid (fun W (hf : Fr (fun i => i = w.heap.size) (w2.drewN qq) W) => frac_ret (q := q) (b := b) HX.out f1.symm (by rw [f2]; exact HN1.out.on (below_next HB0.out hb3)) (by rw [f3]; exact HN2.out.on (below_next HB0.out hb3)) (below_next HB0.out hb3) (Nat.le_refl _) hf)
      obtain ⟨k0, k1, k2, z0, z1, z2, hlt⟩ := HX.out.facts
      clear hb3 f1 f2 f3
      go_wp2
      refine bodyPost_ret (v := .agg #[.bool b, .slice A1 l1.length c1, .slice A2 l2.length c2]) (by simp [results, Tryz.results53, go_sem, k0, k1, k2]) rfl ⟨_, rfl, HF.out _ ?_⟩
      exact fr3 _ _ _
end Go.Proofs.YtnpfdelklolchaaGreatDoor

/- Package dynamometerref0: fractions: Part, Whole, Minus, Plus, Less, Times, Sign, Order, Floor. Printed by gen_frac.py. -/
namespace Go.Proofs.YtnpfdelklolchaaGreatDoor
open Go Go.RowKit Go.Proofs

end Go.Proofs.YtnpfdelklolchaaGreatDoor
