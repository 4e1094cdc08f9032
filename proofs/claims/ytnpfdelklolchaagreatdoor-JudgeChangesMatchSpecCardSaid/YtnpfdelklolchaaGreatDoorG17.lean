import Derived.Test.YtnpfdelklolchaaGreatDoorFracPlus
import Derived.Test.YtnpfdelklolchaaGreatDoorG11
import Derived.Deep.RegionHeld3
import Derived.Deep.CutRange
import Derived.Test.YtnpfdelklolchaaGreatDoorG3
import Derived.Test.YtnpfdelklolchaaGreatDoorG14
import Derived.Test.YtnpfdelklolchaaGreatDoorNatDivK
import Derived.Test.YtnpfdelklolchaaGreatDoorG6
/- Package dynamometerref0: Order, Floor, Int. -/
namespace Go.Proofs.YtnpfdelklolchaaGreatDoor
open Go Go.RowKit Go.Proofs

end Go.Proofs.YtnpfdelklolchaaGreatDoor

/- Package judge: fractions in memory: of, whole, opposite, lowest, plus, compare. Printed by gen_jfrac.py. -/
namespace Go.Proofs.YtnpfdelklolchaaGreatDoor
open Go Go.RowKit Go.Proofs

/-- a value that is a fraction of package judge: sign, numerator and denominator as they stand -/
def JF (w : World) (v : Value) (b : Bool) (x y : Nat) : Prop :=
  ∃ A1 c1 l1 A2 c2 l2, v = .agg #[.bool b, .slice A1 l1.length c1, .slice A2 l2.length c2] ∧ NatR w A1 c1 l1 x ∧ NatR w A2 c2 l2 y
theorem JF.on {w w' : World} {v : Value} {b : Bool} {x y : Nat} (h : JF w v b x y) (hb : Below w.heap.size w w') : JF w' v b x y := by
  obtain ⟨A1, c1, l1, A2, c2, l2, e, h1, h2⟩ := h
  exact ⟨A1, c1, l1, A2, c2, l2, e, h1.on hb, h2.on hb⟩
def JFPost (b : Bool) (x y : Nat) (w : World) (e : Ending) (w' : World) : Prop := ∃ v, e = .returned v ∧ JF w' v b x y ∧ Below w.heap.size w w'
theorem NatR.len {w : World} {A : Option Addr} {c : Nat} {l : List Nat} {x n : Nat} (h : NatR w A c l x) (hx : x < W64 ^ n) : l.length ≤ n := len_of_lt h.norm h.val hx
/-- a number does not lie in a box whose cells are no words -/
theorem NatR.apartB {w : World} {A : Option Addr} {c : Nat} {l : List Nat} {x B : Nat} {cs : Array Value} {t : TypeId} (h : NatR w A c l x) (hB : w.heap[B]? = some (.cells cs t (0, 0))) (hcs : ∀ v ∈ cs.toList, ∀ z, v ≠ .int .u64 z) : ∀ b o, A = some ⟨b, o, none⟩ → 0 < l.length → b ≠ B := by
  rintro b o e hl rfl
  obtain ⟨b', o', e', _, _, hc⟩ := h.rd.2 hl
  rw [e] at e'
  simp only [Option.some.injEq, Addr.mk.injEq, and_true] at e'
  obtain ⟨rfl, rfl⟩ := e'
  have hu : (u64s l)[0]? = some ((u64s l)[0]'(by rw [u64s_length]; exact hl)) := List.getElem?_eq_getElem _
  have h1 := hc 0 _ hu
  obtain ⟨d, _, hd⟩ := u64s_get hu
  rw [cellsAt hB, hd] at h1
  obtain ⟨hlt, h2⟩ := Array.getElem?_eq_some_iff.1 h1
  exact hcs _ (by rw [← Array.getElem_toList hlt]; exact List.getElem_mem _) d h2
theorem NatR.keepB {w w' : World} {A : Option Addr} {c : Nat} {l : List Nat} {x : Nat} (h : NatR w A c l x) (hsz : w.heap.size ≤ w'.heap.size) (hk : ∀ b o, A = some ⟨b, o, none⟩ → b < w.heap.size → 0 < l.length → w'.heap[b]? = w.heap[b]?) : NatR w' A c l x := by
  refine ⟨⟨h.rd.1, fun hn => ?_⟩, h.norm, h.val, h.cap, h.max, h.nil⟩
  obtain ⟨b, o, e, hl, hb, hc⟩ := h.rd.2 hn
  exact ⟨b, o, e, hl, Nat.lt_of_lt_of_le hb hsz, fun j u hj => (World.cell?_of_block (hk b o e hb hn)).trans (hc j u hj)⟩
/-- the box of a result that is a fraction, as it is laid -/
def JBox (w : World) (B : Nat) : Prop := w.heap[B]? = some (.cells #[.bool false, .slice none 0 0, .slice none 0 0] 73 (0, 0))
theorem JBox.facts {w : World} {B : Nat} (h : JBox w B) : w.cell? ⟨B, 0, none⟩ = some (.bool false) ∧ w.cell? ⟨B, 1, none⟩ = some (.slice none 0 0) ∧ w.cell? ⟨B, 2, none⟩ = some (.slice none 0 0) ∧ w.frozen? ⟨B, 0, none⟩ = false ∧ w.frozen? ⟨B, 1, none⟩ = false ∧ w.frozen? ⟨B, 2, none⟩ = false ∧ B < w.heap.size :=
  ⟨by rw [cellsAt h]; rfl, by rw [cellsAt h]; rfl, by rw [cellsAt h]; rfl, frozenAt h 0, frozenAt h 1, frozenAt h 2, heap_lt h⟩
theorem JBox.on {w w' : World} {B : Nat} (h : JBox w B) (hb : Below w.heap.size w w') : JBox w' B := (hb.block B (heap_lt h)).trans h
/-- a fraction stored into the box of the result -/
theorem jf_ret {w0 w W : World} {B : Nat} {v : Value} {b : Bool} {x y : Nat} (hB : JBox w B) (h : JF w v b x y) (hbl : Below w0.heap.size w0 w) (h0 : w0.heap.size ≤ B) (hf : Fr (fun i => i = B) w W) :
    JF W v b x y ∧ Below w0.heap.size w0 W := by
  obtain ⟨A1, c1, l1, A2, c2, l2, rfl, h1, h2⟩ := h
  have hcs : ∀ v ∈ (#[.bool false, .slice none 0 0, .slice none 0 0] : Array Value).toList, ∀ z, v ≠ .int .u64 z := by
    intro v hv z; simp at hv; rcases hv with rfl | rfl <;> simp
  refine ⟨⟨A1, c1, l1, A2, c2, l2, rfl, h1.keepB hf.size (fun b o e hlt hl => hf.block b hlt (h1.apartB hB hcs b o e hl)), h2.keepB hf.size (fun b o e hlt hl => hf.block b hlt (h2.apartB hB hcs b o e hl))⟩, hbl.trans (hf.below hbl.size (fun i hi hm => by omega))⟩
theorem jf_mk {w : World} {A1 A2 : Option Addr} {c1 c2 : Nat} {l1 l2 : List Nat} {b : Bool} {x y : Nat} (h1 : NatR w A1 c1 l1 x) (h2 : NatR w A2 c2 l2 y) : JF w (.agg #[.bool b, .slice A1 l1.length c1, .slice A2 l2.length c2]) b x y := ⟨A1, c1, l1, A2, c2, l2, rfl, h1, h2⟩
theorem W64_gt (x : Nat) (h : x ≤ 9223372036854775808) : x < W64 ^ 1 := by unfold W64; omega

set_option maxHeartbeats 4000000 in
set_option maxRecDepth 100000 in
theorem jOf_any (A1 A2 : Option Addr) (c1 c2 : Nat) (l1 l2 : List Nat) (x y : Nat) (w : World) (h1 : NatR w A1 c1 l1 x) (h2 : NatR w A2 c2 l2 y) :
    Calls Tryz.prog 33 #[.slice A1 l1.length c1, .slice A2 l2.length c2] w (JFPost false x y w) := by
  have HF := Lib.hid (fun o => (show JF (w.alloc o) (.agg #[.bool false, .slice A1 l1.length c1, .slice A2 l2.length c2]) false x y ∧ Below w.heap.size w (w.alloc o) from ⟨jf_mk (h1.on ((Below.refl _ w).alloc (Nat.le_refl _) _)) (h2.on ((Below.refl _ w).alloc (Nat.le_refl _) _)), (Below.refl _ w).alloc (Nat.le_refl _) _⟩))
  clear h1 h2
  go_enter Tryz.func33, Tryz.ntmps33
  go_wp2
  refine bodyPost_ret (v := .agg #[.bool false, .slice A1 l1.length c1, .slice A2 l2.length c2]) (by simp [results, Tryz.results33, go_sem]) rfl ⟨_, rfl, HF.out _⟩

set_option maxHeartbeats 4000000 in
set_option maxRecDepth 100000 in
theorem jWhole_any (n : Int) (w : World) (h0 : -9223372036854775807 ≤ n) (h1 : n ≤ 9223372036854775807) :
    Calls Tryz.prog 56 #[.int .i64 n] w (JFPost (decide (n < 0)) n.natAbs 1 w) := by
  have HO := Lib.hid (fun W => natOf_any 1 W (by omega))
  rw [show (1 : Int).toNat = 1 from rfl] at HO
  obtain ⟨W0, hW0⟩ : ∃ W0, W0 = w.alloc (.cells #[.bool false, .slice none 0 0, .slice none 0 0] 73) := ⟨_, rfl⟩
  have HB0 := Lib.hid (show Below w.heap.size w W0 by rw [hW0]; exact (Below.refl _ w).alloc (Nat.le_refl _) _)
  have HX0 := Lib.hid (show JBox W0 w.heap.size by rw [hW0]; exact alloc_at _ _ _ rfl)
  by_cases hn : n < 0
  · have t1 : decide (n < 0) = true := by simpa using hn
    rw [t1]
    have HN := Lib.hid (fun W => natOf_any (-n) W (by omega))
    rw [show ((-n) : Int).toNat = n.natAbs by omega] at HN
    go_enter Tryz.func56, Tryz.ntmps56
    go_wp2_with fail
    rw [← hW0]
    clear hW0
    refine (HN.out _).mono ?_
    rintro e w1 ⟨A1, c1, l1, rfl, hn1, hb1⟩
    have HN1 := Lib.hid hn1
    have HB1 := Lib.hid hb1
    clear hn1 hb1
    go_wp2_with fail
    refine (HO.out _).mono ?_
    rintro e w2 ⟨A2, c2, l2, rfl, hn2, hb2⟩
    have hb2' := below_next HB1.out hb2
    have HF := Lib.hid (fun W (hf : Fr (fun i => i = w.heap.size) w2 W) => jf_ret (HX0.out.on hb2') (jf_mk (b := true) (HN1.out.on hb2) hn2) (below_next HB0.out hb2') (Nat.le_refl _) hf)
    obtain ⟨k0, k1, k2, z0, z1, z2, hlt⟩ := (HX0.out.on hb2').facts
    clear hb2 hb2' hn2
    go_wp2
    refine bodyPost_ret (v := .agg #[.bool true, .slice A1 l1.length c1, .slice A2 l2.length c2]) (by simp [results, Tryz.results56, go_sem, k0, k1, k2]) rfl ⟨_, rfl, HF.out _ (fr3 _ _ _)⟩
  · have t1 : decide (n < 0) = false := by simpa using hn
    rw [t1]
    have HN := Lib.hid (fun W => natOf_any n W (by omega))
    rw [show (n : Int).toNat = n.natAbs by omega] at HN
    go_enter Tryz.func56, Tryz.ntmps56
    go_wp2_with fail
    rw [← hW0]
    clear hW0
    refine (HN.out _).mono ?_
    rintro e w1 ⟨A1, c1, l1, rfl, hn1, hb1⟩
    have HN1 := Lib.hid hn1
    have HB1 := Lib.hid hb1
    clear hn1 hb1
    go_wp2_with fail
    refine (HO.out _).mono ?_
    rintro e w2 ⟨A2, c2, l2, rfl, hn2, hb2⟩
    have hb2' := below_next HB1.out hb2
    have HOF := Lib.hid (jOf_any A1 A2 c1 c2 l1 l2 _ _ w2 (HN1.out.on hb2) hn2)
    have HB2 := Lib.hid hb2'
    clear hb2 hb2' hn2
    go_wp2_with fail
    refine HOF.out.mono ?_
    rintro e w3 ⟨v, rfl, hv, hb3⟩
    have hb3' := below_next HB2.out hb3
    have HF := Lib.hid (fun W (hf : Fr (fun i => i = w.heap.size) w3 W) => jf_ret (HX0.out.on hb3') hv (below_next HB0.out hb3') (Nat.le_refl _) hf)
    obtain ⟨k0, k1, k2, z0, z1, z2, hlt⟩ := (HX0.out.on hb3').facts
    obtain ⟨A3, c3, l3, A4, c4, l4, rfl, -, -⟩ := hv
    clear hb3 hb3'
    go_wp2
    refine bodyPost_ret (v := .agg #[.bool false, .slice A3 l3.length c3, .slice A4 l4.length c4]) (by simp [results, Tryz.results56, go_sem, k0, k1, k2]) rfl ⟨_, rfl, HF.out _ (fr3 _ _ _)⟩

theorem natLenJ {w w' : World} {A A' : Option Addr} {c c' : Nat} {l l' : List Nat} {x y : Nat} (h : NatR w A c l x) (h' : NatR w' A' c' l' y) (hxy : y ≤ x) : l'.length ≤ l.length :=
  len_le h.norm h'.norm (by rw [h.val, h'.val]; exact hxy)
set_option maxHeartbeats 4000000 in
set_option maxRecDepth 100000 in
theorem jLowest_any (u : Value) (b : Bool) (x y n : Nat) (w : World) (h : JF w u b x y) (hx : x < W64 ^ n) (hy : y < W64 ^ n) (hn : n ≤ 900000) (hy0 : 0 < y) :
    Calls Tryz.prog 80 #[u] w (JFPost (frS (mkRat (sg b x) y)) (frN (mkRat (sg b x) y)) (mkRat (sg b x) y).den w) := by
  obtain ⟨A1, c1, l1, A2, c2, l2, rfl, h1, h2⟩ := h
  obtain ⟨W0, hW0⟩ : ∃ W0, W0 = (w.alloc (.cells #[.bool b, .slice A1 l1.length c1, .slice A2 l2.length c2] 73)).alloc (.cells #[.bool false, .slice none 0 0, .slice none 0 0] 73) := ⟨_, rfl⟩
  have hST0 : St w W0 [(w.heap.size, .cells #[.bool b, .slice A1 l1.length c1, .slice A2 l2.length c2] 73 (0, 0)), (w.heap.size + 1, .cells #[.bool false, .slice none 0 0, .slice none 0 0] 73 (0, 0))] := by rw [hW0]; exact ((St.start w).alloc _ _ rfl).alloc _ _ (by simp)
  have HST0 := Lib.hid hST0
  have HX0 := Lib.hid (show JBox W0 (w.heap.size + 1) from hST0.at 1 rfl)
  have hl1 : l1.length ≤ n := h1.len hx
  have hl2 : l2.length ≤ n := h2.len hy
  have hG0 : 0 < Nat.gcd y x := Nat.gcd_pos_of_pos_left _ hy0
  have hGy : Nat.gcd y x ≤ y := Nat.gcd_le_left _ hy0
  obtain ⟨p1, p2, p3⟩ := low_parts b (x := x) hy0
  rw [p1, p2, p3]
  have HN1 := Lib.hid (fun W (hb : Below w.heap.size w W) => h1.on hb)
  have HN2 := Lib.hid (fun W (hb : Below w.heap.size w W) => h2.on hb)
  have HG := Lib.hid (natGcd_any A2 A1 c2 c1 l2 l1 y x W0 (h2.on hST0.below) (h1.on hST0.below) (by omega) (by omega))
  obtain ⟨G, hG⟩ : ∃ G, G = Nat.gcd y x := ⟨_, rfl⟩
  rw [← hG] at hG0 hGy HG ⊢
  obtain ⟨zb, hzb⟩ : ∃ zb, zb = decide (x / G = 0) := ⟨_, rfl⟩
  rw [← hzb]
  have HZB := Lib.hid hzb
  clear hzb
  have g0 := hST0.cell 0 0 rfl rfl
  have g1 := hST0.cell 0 1 rfl rfl
  have g2 := hST0.cell 0 2 rfl rfl
  clear hST0 h1 h2 p1 p2 p3 hG hx hy
  go_enter Tryz.func80, Tryz.ntmps80
  go_wp2_with fail
  rw [← hW0]
  clear hW0
  go_wp2_with fail
  (with_reducible refine HG.out.mono ?_)
  rintro e w1 ⟨AG, cG, lG, rfl, hNG, hb1⟩
  have hST1 := HST0.out.call hb1
  have HST1 := Lib.hid hST1
  have hlG : lG.length ≤ n := by have := natLenJ (HN2.out w1 hST1.below) hNG hGy; omega
  have HD1 := Lib.hid (natDivMod_any A1 AG c1 cG l1 lG x G w1 (HN1.out w1 hST1.below) hNG (by omega) (by omega) hG0)
  have HNG := Lib.hid hNG
  have g0 := hST1.cell 0 0 rfl rfl
  have g1 := hST1.cell 0 1 rfl rfl
  have g2 := hST1.cell 0 2 rfl rfl
  clear HG hb1 hST1 hNG
  go_wp2_with fail
  (with_reducible refine HD1.out.mono ?_)
  rintro e w2 ⟨AQ, cQ, lQ, AR, cR, lR, rfl, hNQ, -, hb2⟩
  have hST2 := HST1.out.call hb2
  have HST2 := Lib.hid hST2
  have hlQ : lQ.length ≤ n := by have := natLenJ (HN1.out w2 hST2.below) hNQ (Nat.div_le_self _ _); omega
  have HD2 := Lib.hid (natDivMod_any A2 AG c2 cG l2 lG y G w2 (HN2.out w2 hST2.below) (HNG.out.on hb2) (by omega) (by omega) hG0)
  have HNQ := Lib.hid hNQ
  have g0 := hST2.cell 0 0 rfl rfl
  have g1 := hST2.cell 0 1 rfl rfl
  have g2 := hST2.cell 0 2 rfl rfl
  clear HD1 hb2 hST2 hNQ
  go_wp2_with fail
  (with_reducible refine HD2.out.mono ?_)
  rintro e w3 ⟨AP, cP, lP, AS, cS, lS, rfl, hNP, -, hb3⟩
  have hST3 := HST2.out.call hb3
  have HX3 := Lib.hid (show JBox w3 (w.heap.size + 1) from hST3.at 1 rfl)
  have HZ := Lib.hid (fun W => natZero_any AQ cQ lQ W (by omega))
  have hq0 : lQ.length = 0 ↔ x / G = 0 := by
    constructor
    · intro hz
      have : lQ = [] := List.eq_nil_of_length_eq_zero hz
      subst this
      have := HNQ.out.val; simpa [val] using this.symm
    · intro hz
      rw [(val_zero W64_pos HNQ.out.norm).1 (by rw [HNQ.out.val, hz])]; rfl
  have hzz : ((lQ.length : Int) == 0) = decide (x / G = 0) := by
    rw [Bool.eq_iff_iff]; simp only [beq_iff_eq, decide_eq_true_eq]; rw [← hq0]; omega
  rw [hzz, ← HZB.out] at HZ
  have HF := Lib.hid (fun W (hf : Fr (fun i => i = w.heap.size + 1) w3 W) => jf_ret HX3.out (jf_mk (b := b && !zb) (HNQ.out.on hb3) hNP) hST3.below (by omega) hf)
  obtain ⟨k0, k1, k2, z0, z1, z2, hlt⟩ := HX3.out.facts
  have g0 := hST3.cell 0 0 rfl rfl
  have g1 := hST3.cell 0 1 rfl rfl
  have g2 := hST3.cell 0 2 rfl rfl
  clear HD2 hb3 hST3 hNP hq0 hzz
  cases b with
  | false =>
    simp only [Bool.false_and] at HF
    go_wp2
    refine bodyPost_ret (v := .agg #[.bool false, .slice AQ lQ.length cQ, .slice AP lP.length cP]) (by simp [results, Tryz.results80, go_sem, k0, k1, k2]) rfl ⟨_, rfl, HF.out _ (fr3 _ _ _)⟩
  | true =>
    simp only [Bool.true_and] at HF
    go_wp2_with fail
    (with_reducible refine (HZ.out _).mono ?_)
    rintro e w4 ⟨rfl, rfl⟩
    go_wp2
    refine bodyPost_ret (v := .agg #[.bool (!zb), .slice AQ lQ.length cQ, .slice AP lP.length cP]) (by simp [results, Tryz.results80, go_sem, k0, k1, k2]) rfl ⟨_, rfl, HF.out _ (fr3 _ _ _)⟩

end Go.Proofs.YtnpfdelklolchaaGreatDoor

/- A number keeps its value. -/
namespace Go.Proofs.YtnpfdelklolchaaGreatDoor
open Go Go.RowKit Go.Proofs

theorem NatR.keep {w w' : World} {A : Option Addr} {c : Nat} {l : List Nat} {x : Nat} (h : NatR w A c l x) (hs : w.heap.size ≤ w'.heap.size) (hk : ∀ b o, A = some ⟨b, o, none⟩ → b < w.heap.size → 0 < l.length → w'.heap[b]? = w.heap[b]?) : NatR w' A c l x :=
  ⟨⟨h.rd.1, fun hn => by
    obtain ⟨b, o, e, h1, h2, h3⟩ := h.rd.2 hn
    exact ⟨b, o, e, h1, by omega, fun j u hu => (World.cell?_of_block (hk b o e h2 hn)).trans (h3 j u hu)⟩⟩, h.norm, h.val, h.cap, h.max, h.nil⟩
end Go.Proofs.YtnpfdelklolchaaGreatDoor

/- Fractions in variables that lie in memory. -/
namespace Go.Proofs.YtnpfdelklolchaaGreatDoor
open Go Go.RowKit Go.Proofs

/-- box B holds the fraction q -/
def VarQ (w : World) (B : Nat) (q : Rat) : Prop := ∃ A1 c1 l1 A2 c2 l2, w.heap[B]? = some (.cells #[.bool (frS q), .slice A1 l1.length c1, .slice A2 l2.length c2] 31 (0, 0)) ∧ RNatR w A1 c1 l1 (frN q) ∧ RNatR w A2 c2 l2 q.den
theorem VarQ.on {w w' : World} {B : Nat} {q : Rat} (h : VarQ w B q) (hb : Below w.heap.size w w') : VarQ w' B q := by
  obtain ⟨A1, c1, l1, A2, c2, l2, e, h1, h2⟩ := h
  exact ⟨A1, c1, l1, A2, c2, l2, (hb.block B (heap_lt e)).trans e, h1.on hb, h2.on hb⟩
theorem below_realloc {B : Nat} {w x : World} {Z Y : Obj} (h : Below B w (x.alloc Z)) (hB : B ≤ x.heap.size) : Below B w (x.alloc Y) := ⟨h.os, h.tape, h.output, by simpa using h.size, fun k hk => by
  have := h.block k hk
  rw [Below.heap_alloc _ _ _ (by omega)] at this ⊢
  exact this⟩
end Go.Proofs.YtnpfdelklolchaaGreatDoor

/- Package judge: fractions in memory: plus, compare. Printed by gen_jfrac2.py. -/
namespace Go.Proofs.YtnpfdelklolchaaGreatDoor
open Go Go.RowKit Go.Proofs


/-- box B holds a fraction -/
def JVar (w : World) (B : Nat) (b : Bool) (x y : Nat) : Prop := ∃ A1 c1 l1 A2 c2 l2, w.heap[B]? = some (.cells #[.bool b, .slice A1 (l1 : List Nat).length c1, .slice A2 (l2 : List Nat).length c2] 73 (0, 0)) ∧ NatR w A1 c1 l1 x ∧ NatR w A2 c2 l2 y
theorem JVar.on {w w' : World} {B : Nat} {b : Bool} {x y : Nat} (h : JVar w B b x y) (hb : Below w.heap.size w w') : JVar w' B b x y := by
  obtain ⟨A1, c1, l1, A2, c2, l2, e, h1, h2⟩ := h
  exact ⟨A1, c1, l1, A2, c2, l2, (hb.block B (heap_lt e)).trans e, h1.on hb, h2.on hb⟩
theorem JVar.lt {w : World} {B : Nat} {b : Bool} {x y : Nat} (h : JVar w B b x y) : B < w.heap.size := by
  obtain ⟨A1, c1, l1, A2, c2, l2, e, h1, h2⟩ := h
  exact heap_lt e
/-- what lies in such a box, as a value -/
theorem JVar.get {w : World} {B : Nat} {b : Bool} {x y : Nat} (h : JVar w B b x y) : ∃ A1 c1 l1 A2 c2 l2, (∀ W, Below w.heap.size w W → W.cell? ⟨B, 0, none⟩ = some (.bool b) ∧ W.cell? ⟨B, 1, none⟩ = some (.slice A1 (l1 : List Nat).length c1) ∧ W.cell? ⟨B, 2, none⟩ = some (.slice A2 (l2 : List Nat).length c2)) ∧ NatR w A1 c1 l1 x ∧ NatR w A2 c2 l2 y := by
  obtain ⟨A1, c1, l1, A2, c2, l2, e, h1, h2⟩ := h
  refine ⟨A1, c1, l1, A2, c2, l2, fun W hW => ?_, h1, h2⟩
  have e' := (hW.block B (heap_lt e)).trans e
  exact ⟨by rw [cellsAt e']; rfl, by rw [cellsAt e']; rfl, by rw [cellsAt e']; rfl⟩
theorem jvar_set {w : World} {B : Nat} {u0 u1 u2 : Value} {A1 A2 : Option Addr} {c1 c2 : Nat} {l1 l2 : List Nat} {b : Bool} {x y : Nat} (hX : w.heap[B]? = some (.cells #[u0, u1, u2] 73 (0, 0))) (hne : ∀ z, u0 ≠ .int .u64 z ∧ u1 ≠ .int .u64 z ∧ u2 ≠ .int .u64 z) (h1 : NatR w A1 c1 l1 x) (h2 : NatR w A2 c2 l2 y) :
    JVar (((w.setCell ⟨B, 0, none⟩ (.bool b)).setCell ⟨B, 1, none⟩ (.slice A1 l1.length c1)).setCell ⟨B, 2, none⟩ (.slice A2 l2.length c2)) B b x y := by
  have hf := fr3 (w := w) (B := B) (.bool b) (.slice A1 l1.length c1) (.slice A2 l2.length c2)
  have key : ∀ A c l x, NatR w A c l x → NatR (((w.setCell ⟨B, 0, none⟩ (.bool b)).setCell ⟨B, 1, none⟩ (.slice A1 l1.length c1)).setCell ⟨B, 2, none⟩ (.slice A2 l2.length c2)) A c l x := fun A c l x h => h.keepB hf.size (fun b o e hb hl => hf.block b hb (h.apartB hX (by intro v hv z; have := hne z; simp at hv; rcases hv with rfl | rfl | rfl <;> simp [this]) b o e hl))
  refine ⟨A1, c1, l1, A2, c2, l2, ?_, key _ _ _ _ h1, key _ _ _ _ h2⟩
  simp [World.setCell, Array.getElem?_modify, hX]
end Go.Proofs.YtnpfdelklolchaaGreatDoor

/- How long a power's number is; the exponents of powers by squares. -/
namespace Go.Proofs.YtnpfdelklolchaaGreatDoor

theorem pow_bound {B x K e n : Nat} (hB : 1 < B) (hx : x < B ^ K) (he : e ≤ n) : x ^ e < B ^ (K * n + 1) := by
  have h1 : x ^ e ≤ (B ^ K) ^ e := Nat.pow_le_pow_left (Nat.le_of_lt hx) e
  rw [← Nat.pow_mul] at h1
  have h2 : B ^ (K * e) ≤ B ^ (K * n) := Nat.pow_le_pow_right (by omega) (Nat.mul_le_mul_left K he)
  have h3 : B ^ (K * n) < B ^ (K * n + 1) := Nat.pow_lt_pow_right hB (Nat.lt_succ_self _)
  omega
theorem pow_len64 {l : List Nat} {x K e n : Nat} (hx : x < W64 ^ K) (he : e ≤ n) (hn : Norm W64 l) (hv : val W64 l = x ^ e) : l.length ≤ K * n + 1 :=
  len_of_lt hn hv (pow_bound W64_pos hx he)
theorem pow_odd_e {m e k n : Nat} (h : m + e * k = n) (hk : k % 2 = 1) : m + e + (e + e) * (k / 2) = n := by
  have h1 : e * k = e * (2 * (k / 2) + 1) := by congr 1; omega
  have h2 : e * (2 * (k / 2) + 1) = (e + e) * (k / 2) + e := by grind
  omega
theorem pow_even_e {m e k n : Nat} (h : m + e * k = n) (hk : k % 2 = 0) : m + (e + e) * (k / 2) = n := by
  have h1 : e * k = e * (2 * (k / 2)) := by congr 1; omega
  have h2 : e * (2 * (k / 2)) = (e + e) * (k / 2) := by grind
  omega
end Go.Proofs.YtnpfdelklolchaaGreatDoor

/- Package nat: Pow. -/
namespace Go.Proofs.YtnpfdelklolchaaGreatDoor
open Go Go.RowKit Go.Proofs

/-- what the loop keeps: powers of x, whose exponents still make n -/
def PowKeep (w wr : World) (x n k : Nat) (va vo : Value) : Prop :=
  ∃ (A1 A2 : Option Addr) (c1 c2 : Nat) (l1 l2 : List Nat) (m e : Nat), va = .slice A1 l1.length c1 ∧ vo = .slice A2 l2.length c2 ∧ NatR wr A1 c1 l1 (x ^ e) ∧ NatR wr A2 c2 l2 (x ^ m) ∧ m + e * k = n ∧ Below w.heap.size w wr
theorem nat_one_new (w : World) : NatR (w.alloc (.cells #[.int .u64 1] 110)) (some ⟨w.heap.size, 0, none⟩) 1 [1] 1 := by
  refine ⟨⟨by simp [u64s], fun _ => ⟨w.heap.size, 0, rfl, Nat.zero_le _, by simp, fun j u hj => ?_⟩⟩, ⟨?_, ?_⟩, ?_, by simp, by unfold maxLen; omega, fun h => by cases h⟩
  · have hj' := (List.getElem?_eq_some_iff.1 hj).1
    simp [u64s] at hj'
    subst hj'
    rw [cellsAt (alloc_at w _ _ rfl)]
    simp [u64s] at hj ⊢
    exact hj
  · intro d hd
    simp at hd
    subst hd; unfold W64; omega
  · simp
  · simp [val]

set_option maxHeartbeats 2000000 in
set_option maxRecDepth 100000 in
theorem natPow_any (A : Option Addr) (c : Nat) (l : List Nat) (x n K : Nat) (w : World) (h : NatR w A c l x) (hx : x < W64 ^ K) (hK : K * n ≤ 800000) (hn : n ≤ 1000000) :
    Calls Tryz.prog 85 #[.slice A l.length c, .int .i64 n] w (NatPost (x ^ n) w) := by
  have HN := Lib.hid h
  have HX := Lib.hid hx
  have HB0 := Lib.hid ((Below.refl w.heap.size w).alloc (Nat.le_refl _) (.cells #[.int .u64 1] 110))
  have HONE := Lib.hid (nat_one_new w)
  clear h hx
  go_enter Tryz.func85, Tryz.ntmps85
  go_wp2_with fail
  go_loopw [0, 1, 5, 7, 8] (fun a i o _ _ wr => ∃ k : Nat, i = .int .i64 k ∧ k ≤ n ∧ PowKeep w wr x n k a o) (fun _ i _ _ _ _ => (intOf i).toNat)
  case atStart => exact ⟨n, rfl, Nat.le_refl _, A, _, c, 1, l, [1], 0, 1, rfl, rfl, by rw [Nat.pow_one]; exact HN.out.on HB0.out, by rw [Nat.pow_zero]; exact HONE.out, by omega, HB0.out⟩
  case round =>
    obtain ⟨k, rfl, hk, A3, A4, c3, c4, l3, l4, m, e, rfl, rfl, h3, h4, hme, hb⟩ := hrel
    by_cases hp : 0 < k
    · have hek : e ≤ e * k := Nat.le_mul_of_pos_right e hp
      have hl3 : l3.length ≤ K * n + 1 := pow_len64 HX.out (show e ≤ n by omega) h3.norm h3.val
      have hl4 : l4.length ≤ K * n + 1 := pow_len64 HX.out (show m ≤ n by omega) h4.norm h4.val
      have t1 : decide ((0 : Int) < ↑k) = true := by simp; omega
      have t2 : decide (0 < k) = true := by simpa using hp
      have HB := Lib.hid hb
      have H3 := Lib.hid h3
      have H4 := Lib.hid h4
      clear hb h3 h4 hek
      by_cases ho : k % 2 = 1
      · have t3 : decide (0 < (k : Int) % 2) = true := by simp; omega
        have t4 : decide (0 < k % 2) = true := by simp; omega
        have HM := Lib.hid (natMul_any A4 A3 c4 c3 l4 l3 _ _ wr H4.out H3.out (by omega) (by omega))
        go_wp2_with fail
        refine HM.out.mono ?_
        rintro e2 w2 ⟨A5, c5, l5, rfl, h5, hb5⟩
        have H5 := Lib.hid h5
        have HB5 := Lib.hid hb5
        clear h5 hb5
        by_cases h1 : 1 < k
        · have t5 : decide (1 < (k : Int)) = true := by simp; omega
          have t6 : decide (1 < k) = true := by simpa using h1
          have HS := Lib.hid (fun W (hW : Below wr.heap.size wr W) => natMul_any A3 A3 c3 c3 l3 l3 _ _ W (H3.out.on hW) (H3.out.on hW) (by omega) (by omega))
          have HE := Lib.hid (pow_odd_e hme ho)
          clear hme
          go_wp2_with fail
          refine (HS.out _ HB5.out).mono ?_
          rintro e3 w3 ⟨A6, c6, l6, rfl, h6, hb6⟩
          have H6 := Lib.hid h6
          have HB6 := Lib.hid hb6
          clear h6 hb6
          go_wp2
          go_roundw
          case rel => exact ⟨k / 2, by first | rfl | go_num, by omega, A6, A5, c6, c5, l6, l5, m + e, e + e, rfl, rfl, by rw [Nat.pow_add]; exact H6.out, by rw [Nat.pow_add]; exact H5.out.on HB6.out, HE.out, HB.out.trans ((HB5.out.trans (HB6.out.mono HB5.out.size)).mono HB.out.size)⟩
          case measure => simp [intOf]; omega
        · obtain rfl : k = 1 := by omega
          have HE := Lib.hid (show m + e + e * 0 = n by omega)
          clear hme
          go_wp2
          go_roundw
          case rel => exact ⟨0, by first | rfl | go_num, by omega, A3, A5, c3, c5, l3, l5, m + e, e, rfl, rfl, H3.out.on HB5.out, by rw [Nat.pow_add]; exact H5.out, HE.out, HB.out.trans (HB5.out.mono HB.out.size)⟩
          case measure => simp [intOf]
      · have t3 : decide (0 < (k : Int) % 2) = false := by simp; omega
        have t4 : decide (0 < k % 2) = false := by simp; omega
        have t5 : decide (1 < (k : Int)) = true := by simp; omega
        have t6 : decide (1 < k) = true := by simp; omega
        have HS := Lib.hid (natMul_any A3 A3 c3 c3 l3 l3 _ _ wr H3.out H3.out (by omega) (by omega))
        have HE := Lib.hid (pow_even_e hme (show k % 2 = 0 by omega))
        clear hme
        go_wp2_with fail
        refine HS.out.mono ?_
        rintro e3 w3 ⟨A6, c6, l6, rfl, h6, hb6⟩
        have H6 := Lib.hid h6
        have HB6 := Lib.hid hb6
        clear h6 hb6
        go_wp2
        go_roundw
        case rel => exact ⟨k / 2, by first | rfl | go_num, by omega, A6, A4, c6, c4, l6, l4, m, e + e, rfl, rfl, by rw [Nat.pow_add]; exact H6.out, H4.out.on HB6.out, HE.out, HB.out.trans (HB6.out.mono HB.out.size)⟩
        case measure => simp [intOf]; omega
    · obtain rfl : k = 0 := by omega
      have HF := Lib.hid (show NatPost (x ^ n) w (.returned (.slice A4 l4.length c4)) wr from ⟨A4, c4, l4, rfl, by rw [← hme, Nat.mul_zero, Nat.add_zero]; exact h4, hb⟩)
      clear h3 h4 hme hb
      go_wp2
      go_ret
      exact HF.out
end Go.Proofs.YtnpfdelklolchaaGreatDoor
