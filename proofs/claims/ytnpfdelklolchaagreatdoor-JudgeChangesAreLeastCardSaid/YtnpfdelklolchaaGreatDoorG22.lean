import Derived.Test.YtnpfdelklolchaaGreatDoorFracPlus
import Derived.Test.YtnpfdelklolchaaGreatDoorG14
import Derived.Deep.RegionHeld3
import Derived.Deep.CutRange
/- Package dynamometerref0: Order, Floor, Int. -/
namespace Go.Proofs.YtnpfdelklolchaaGreatDoor
open Go Go.RowKit Go.Proofs

theorem sgnQ_sub (a b : Rat) : sgnQ (a - b) = ordQ a b := ordQ_eq a b
set_option maxHeartbeats 2000000 in
set_option maxRecDepth 100000 in
theorem rOrder_any (n : Nat) (u v : Value) (a b : Rat) (w : World) (hn : n ≤ 400000) (ha : FracR w u a) (hb : FracR w v b) (hsa : Sz n a) (hsb : Sz n b) :
    Calls Tryz.prog 10 #[u, v] w fun e w' => e = .returned (.int .i64 (ordQ a b)) ∧ Below w.heap.size w w' := by
  have HFA := Lib.hid ha
  have HFB := Lib.hid hb
  obtain ⟨A1, c1, l1, A2, c2, l2, rfl, ha1, ha2⟩ := ha
  obtain ⟨A3, c3, l3, A4, c4, l4, rfl, hb1, hb2⟩ := hb
  have HL := Lib.hid (fun W (hb : Below w.heap.size w W) => rLess_any n _ _ a b W hn (HFA.out.on hb) (HFB.out.on hb) hsa hsb)
  have HS := Lib.hid (fun W v (h : FracR W v (a - b)) => rSign_any v (a - b) W h)
  rw [sgnQ_sub] at HS
  have hbl := two_on (w := w) (.cells #[.bool (frS a), .slice A1 l1.length c1, .slice A2 l2.length c2] 31) (.cells #[.bool (frS b), .slice A3 l3.length c3, .slice A4 l4.length c4] 31)
  have HBL := Lib.hid hbl
  clear ha1 ha2 hb1 hb2 hbl hsa hsb
  go_enter Tryz.func10, Tryz.ntmps10
  go_wp2_with fail
  refine (HL.out _ HBL.out).mono ?_
  rintro e w1 ⟨v1, rfl, hv1, hb1⟩
  have HS1 := Lib.hid (HS.out w1 v1 hv1)
  have HB1 := Lib.hid (below_next HBL.out hb1)
  clear hv1 hb1
  go_wp2_with fail
  refine HS1.out.mono ?_
  rintro e w2 ⟨rfl, hb2⟩
  have HB2 := Lib.hid (below_next HB1.out hb2)
  clear hb2
  go_wp2
  go_ret
  exact ⟨rfl, HB2.out⟩

end Go.Proofs.YtnpfdelklolchaaGreatDoor

/- Package judge: fractions in memory: of, whole, opposite, lowest, plus, compare. Printed by gen_jfrac.py. -/
namespace Go.Proofs.YtnpfdelklolchaaGreatDoor
open Go Go.RowKit Go.Proofs

/-- a value that is a fraction of package judge: sign, numerator and denominator as they stand -/
def JF (w : World) (v : Value) (b : Bool) (x y : Nat) : Prop :=
  ∃ A1 c1 l1 A2 c2 l2, v = .agg #[.bool b, .slice A1 l1.length c1, .slice A2 l2.length c2] ∧ NatR w A1 c1 l1 x ∧ NatR w A2 c2 l2 y
theorem JF.on {w w' : World} {v : Value} {b : Bool} {x y : Nat} (h : JF w v b x y) (hb : Below w.heap.size w w') : JF w' v b x y := by
  obtain ⟨A1, c1, l1, A2, c2, l2, e, h1, h2⟩ := h
  exact ⟨A1, c1, l1, A2, c2, l2, e, h1.on hb, h2.on hb⟩
def JFPost (b : Bool) (x y : Nat) (w : World) (e : Ending) (w' : World) : Prop := ∃ v, e = .returned v ∧ JF w' v b x y ∧ Below w.heap.size w w'
theorem NatR.len {w : World} {A : Option Addr} {c : Nat} {l : List Nat} {x n : Nat} (h : NatR w A c l x) (hx : x < W64 ^ n) : l.length ≤ n := len_of_lt h.norm h.val hx
/-- a number does not lie in a box whose cells are no words -/
theorem NatR.apartB {w : World} {A : Option Addr} {c : Nat} {l : List Nat} {x B : Nat} {cs : Array Value} {t : TypeId} (h : NatR w A c l x) (hB : w.heap[B]? = some (.cells cs t (0, 0))) (hcs : ∀ v ∈ cs.toList, ∀ z, v ≠ .int .u64 z) : ∀ b o, A = some ⟨b, o, none⟩ → 0 < l.length → b ≠ B := by
  rintro b o e hl rfl
  obtain ⟨b', o', e', _, _, hc⟩ := h.rd.2 hl
  rw [e] at e'
  simp only [Option.some.injEq, Addr.mk.injEq, and_true] at e'
  obtain ⟨rfl, rfl⟩ := e'
  have hu : (u64s l)[0]? = some ((u64s l)[0]'(by rw [u64s_length]; exact hl)) := List.getElem?_eq_getElem _
  have h1 := hc 0 _ hu
  obtain ⟨d, _, hd⟩ := u64s_get hu
  rw [cellsAt hB, hd] at h1
  obtain ⟨hlt, h2⟩ := Array.getElem?_eq_some_iff.1 h1
  exact hcs _ (by rw [← Array.getElem_toList hlt]; exact List.getElem_mem _) d h2
theorem NatR.keepB {w w' : World} {A : Option Addr} {c : Nat} {l : List Nat} {x : Nat} (h : NatR w A c l x) (hsz : w.heap.size ≤ w'.heap.size) (hk : ∀ b o, A = some ⟨b, o, none⟩ → b < w.heap.size → 0 < l.length → w'.heap[b]? = w.heap[b]?) : NatR w' A c l x := by
  refine ⟨⟨h.rd.1, fun hn => ?_⟩, h.norm, h.val, h.cap, h.max, h.nil⟩
  obtain ⟨b, o, e, hl, hb, hc⟩ := h.rd.2 hn
  exact ⟨b, o, e, hl, Nat.lt_of_lt_of_le hb hsz, fun j u hj => (World.cell?_of_block (hk b o e hb hn)).trans (hc j u hj)⟩
/-- the box of a result that is a fraction, as it is laid -/
def JBox (w : World) (B : Nat) : Prop := w.heap[B]? = some (.cells #[.bool false, .slice none 0 0, .slice none 0 0] 73 (0, 0))
theorem JBox.facts {w : World} {B : Nat} (h : JBox w B) : w.cell? ⟨B, 0, none⟩ = some (.bool false) ∧ w.cell? ⟨B, 1, none⟩ = some (.slice none 0 0) ∧ w.cell? ⟨B, 2, none⟩ = some (.slice none 0 0) ∧ w.frozen? ⟨B, 0, none⟩ = false ∧ w.frozen? ⟨B, 1, none⟩ = false ∧ w.frozen? ⟨B, 2, none⟩ = false ∧ B < w.heap.size :=
  ⟨by rw [cellsAt h]; rfl, by rw [cellsAt h]; rfl, by rw [cellsAt h]; rfl, frozenAt h 0, frozenAt h 1, frozenAt h 2, heap_lt h⟩
theorem JBox.on {w w' : World} {B : Nat} (h : JBox w B) (hb : Below w.heap.size w w') : JBox w' B := (hb.block B (heap_lt h)).trans h
/-- a fraction stored into the box of the result -/
theorem jf_ret {w0 w W : World} {B : Nat} {v : Value} {b : Bool} {x y : Nat} (hB : JBox w B) (h : JF w v b x y) (hbl : Below w0.heap.size w0 w) (h0 : w0.heap.size ≤ B) (hf : Fr (fun i => i = B) w W) :
    JF W v b x y ∧ Below w0.heap.size w0 W := by
  obtain ⟨A1, c1, l1, A2, c2, l2, rfl, h1, h2⟩ := h
  have hcs : ∀ v ∈ (#[.bool false, .slice none 0 0, .slice none 0 0] : Array Value).toList, ∀ z, v ≠ .int .u64 z := by
    intro v hv z; simp at hv; rcases hv with rfl | rfl <;> simp
  refine ⟨⟨A1, c1, l1, A2, c2, l2, rfl, h1.keepB hf.size (fun b o e hlt hl => hf.block b hlt (h1.apartB hB hcs b o e hl)), h2.keepB hf.size (fun b o e hlt hl => hf.block b hlt (h2.apartB hB hcs b o e hl))⟩, hbl.trans (hf.below hbl.size (fun i hi hm => by omega))⟩
theorem jf_mk {w : World} {A1 A2 : Option Addr} {c1 c2 : Nat} {l1 l2 : List Nat} {b : Bool} {x y : Nat} (h1 : NatR w A1 c1 l1 x) (h2 : NatR w A2 c2 l2 y) : JF w (.agg #[.bool b, .slice A1 l1.length c1, .slice A2 l2.length c2]) b x y := ⟨A1, c1, l1, A2, c2, l2, rfl, h1, h2⟩
theorem W64_gt (x : Nat) (h : x ≤ 9223372036854775808) : x < W64 ^ 1 := by unfold W64; omega

set_option maxHeartbeats 4000000 in
set_option maxRecDepth 100000 in
theorem jOf_any (A1 A2 : Option Addr) (c1 c2 : Nat) (l1 l2 : List Nat) (x y : Nat) (w : World) (h1 : NatR w A1 c1 l1 x) (h2 : NatR w A2 c2 l2 y) :
    Calls Tryz.prog 33 #[.slice A1 l1.length c1, .slice A2 l2.length c2] w (JFPost false x y w) := by
  have HF := Lib.hid (fun o => (show JF (w.alloc o) (.agg #[.bool false, .slice A1 l1.length c1, .slice A2 l2.length c2]) false x y ∧ Below w.heap.size w (w.alloc o) from ⟨jf_mk (h1.on ((Below.refl _ w).alloc (Nat.le_refl _) _)) (h2.on ((Below.refl _ w).alloc (Nat.le_refl _) _)), (Below.refl _ w).alloc (Nat.le_refl _) _⟩))
  clear h1 h2
  go_enter Tryz.func33, Tryz.ntmps33
  go_wp2
  refine bodyPost_ret (v := .agg #[.bool false, .slice A1 l1.length c1, .slice A2 l2.length c2]) (by simp [results, Tryz.results33, go_sem]) rfl ⟨_, rfl, HF.out _⟩

set_option maxHeartbeats 4000000 in
set_option maxRecDepth 100000 in
theorem jWhole_any (n : Int) (w : World) (h0 : -9223372036854775807 ≤ n) (h1 : n ≤ 9223372036854775807) :
    Calls Tryz.prog 56 #[.int .i64 n] w (JFPost (decide (n < 0)) n.natAbs 1 w) := by
  have HO := Lib.hid (fun W => natOf_any 1 W (by omega))
  rw [show (1 : Int).toNat = 1 from rfl] at HO
  obtain ⟨W0, hW0⟩ : ∃ W0, W0 = w.alloc (.cells #[.bool false, .slice none 0 0, .slice none 0 0] 73) := ⟨_, rfl⟩
  have HB0 := Lib.hid (show Below w.heap.size w W0 by rw [hW0]; exact (Below.refl _ w).alloc (Nat.le_refl _) _)
  have HX0 := Lib.hid (show JBox W0 w.heap.size by rw [hW0]; exact alloc_at _ _ _ rfl)
  by_cases hn : n < 0
  · have t1 : decide (n < 0) = true := by simpa using hn
    rw [t1]
    have HN := Lib.hid (fun W => natOf_any (-n) W (by omega))
    rw [show ((-n) : Int).toNat = n.natAbs by omega] at HN
    go_enter Tryz.func56, Tryz.ntmps56
    go_wp2_with fail
    rw [← hW0]
    clear hW0
    refine (HN.out _).mono ?_
    rintro e w1 ⟨A1, c1, l1, rfl, hn1, hb1⟩
    have HN1 := Lib.hid hn1
    have HB1 := Lib.hid hb1
    clear hn1 hb1
    go_wp2_with fail
    refine (HO.out _).mono ?_
    rintro e w2 ⟨A2, c2, l2, rfl, hn2, hb2⟩
    have hb2' := below_next HB1.out hb2
    have HF := Lib.hid (fun W (hf : Fr (fun i => i = w.heap.size) w2 W) => jf_ret (HX0.out.on hb2') (jf_mk (b := true) (HN1.out.on hb2) hn2) (below_next HB0.out hb2') (Nat.le_refl _) hf)
    obtain ⟨k0, k1, k2, z0, z1, z2, hlt⟩ := (HX0.out.on hb2').facts
    clear hb2 hb2' hn2
    go_wp2
    refine bodyPost_ret (v := .agg #[.bool true, .slice A1 l1.length c1, .slice A2 l2.length c2]) (by simp [results, Tryz.results56, go_sem, k0, k1, k2]) rfl ⟨_, rfl, HF.out _ (fr3 _ _ _)⟩
  · have t1 : decide (n < 0) = false := by simpa using hn
    rw [t1]
    have HN := Lib.hid (fun W => natOf_any n W (by omega))
    rw [show (n : Int).toNat = n.natAbs by omega] at HN
    go_enter Tryz.func56, Tryz.ntmps56
    go_wp2_with fail
    rw [← hW0]
    clear hW0
    refine (HN.out _).mono ?_
    rintro e w1 ⟨A1, c1, l1, rfl, hn1, hb1⟩
    have HN1 := Lib.hid hn1
    have HB1 := Lib.hid hb1
    clear hn1 hb1
    go_wp2_with fail
    refine (HO.out _).mono ?_
    rintro e w2 ⟨A2, c2, l2, rfl, hn2, hb2⟩
    have hb2' := below_next HB1.out hb2
    have HOF := Lib.hid (jOf_any A1 A2 c1 c2 l1 l2 _ _ w2 (HN1.out.on hb2) hn2)
    have HB2 := Lib.hid hb2'
    clear hb2 hb2' hn2
    go_wp2_with fail
    refine HOF.out.mono ?_
    rintro e w3 ⟨v, rfl, hv, hb3⟩
    have hb3' := below_next HB2.out hb3
    have HF := Lib.hid (fun W (hf : Fr (fun i => i = w.heap.size) w3 W) => jf_ret (HX0.out.on hb3') hv (below_next HB0.out hb3') (Nat.le_refl _) hf)
    obtain ⟨k0, k1, k2, z0, z1, z2, hlt⟩ := (HX0.out.on hb3').facts
    obtain ⟨A3, c3, l3, A4, c4, l4, rfl, -, -⟩ := hv
    clear hb3 hb3'
    go_wp2
    refine bodyPost_ret (v := .agg #[.bool false, .slice A3 l3.length c3, .slice A4 l4.length c4]) (by simp [results, Tryz.results56, go_sem, k0, k1, k2]) rfl ⟨_, rfl, HF.out _ (fr3 _ _ _)⟩

theorem natLenJ {w w' : World} {A A' : Option Addr} {c c' : Nat} {l l' : List Nat} {x y : Nat} (h : NatR w A c l x) (h' : NatR w' A' c' l' y) (hxy : y ≤ x) : l'.length ≤ l.length :=
  len_le h.norm h'.norm (by rw [h.val, h'.val]; exact hxy)
set_option maxHeartbeats 4000000 in
set_option maxRecDepth 100000 in
theorem jLowest_any (u : Value) (b : Bool) (x y n : Nat) (w : World) (h : JF w u b x y) (hx : x < W64 ^ n) (hy : y < W64 ^ n) (hn : n ≤ 900000) (hy0 : 0 < y) :
    Calls Tryz.prog 80 #[u] w (JFPost (frS (mkRat (sg b x) y)) (frN (mkRat (sg b x) y)) (mkRat (sg b x) y).den w) := by
  obtain ⟨A1, c1, l1, A2, c2, l2, rfl, h1, h2⟩ := h
  obtain ⟨W0, hW0⟩ : ∃ W0, W0 = (w.alloc (.cells #[.bool b, .slice A1 l1.length c1, .slice A2 l2.length c2] 73)).alloc (.cells #[.bool false, .slice none 0 0, .slice none 0 0] 73) := ⟨_, rfl⟩
  have hST0 : St w W0 [(w.heap.size, .cells #[.bool b, .slice A1 l1.length c1, .slice A2 l2.length c2] 73 (0, 0)), (w.heap.size + 1, .cells #[.bool false, .slice none 0 0, .slice none 0 0] 73 (0, 0))] := by rw [hW0]; exact ((St.start w).alloc _ _ rfl).alloc _ _ (by simp)
  have HST0 := Lib.hid hST0
  have HX0 := Lib.hid (show JBox W0 (w.heap.size + 1) from hST0.at 1 rfl)
  have hl1 : l1.length ≤ n := h1.len hx
  have hl2 : l2.length ≤ n := h2.len hy
  have hG0 : 0 < Nat.gcd y x := Nat.gcd_pos_of_pos_left _ hy0
  have hGy : Nat.gcd y x ≤ y := Nat.gcd_le_left _ hy0
  obtain ⟨p1, p2, p3⟩ := low_parts b (x := x) hy0
  rw [p1, p2, p3]
  have HN1 := Lib.hid (fun W (hb : Below w.heap.size w W) => h1.on hb)
  have HN2 := Lib.hid (fun W (hb : Below w.heap.size w W) => h2.on hb)
  have HG := Lib.hid (natGcd_any A2 A1 c2 c1 l2 l1 y x W0 (h2.on hST0.below) (h1.on hST0.below) (by omega) (by omega))
  obtain ⟨G, hG⟩ : ∃ G, G = Nat.gcd y x := ⟨_, rfl⟩
  rw [← hG] at hG0 hGy HG ⊢
  obtain ⟨zb, hzb⟩ : ∃ zb, zb = decide (x / G = 0) := ⟨_, rfl⟩
  rw [← hzb]
  have HZB := Lib.hid hzb
  clear hzb
  have g0 := hST0.cell 0 0 rfl rfl
  have g1 := hST0.cell 0 1 rfl rfl
  have g2 := hST0.cell 0 2 rfl rfl
  clear hST0 h1 h2 p1 p2 p3 hG hx hy
  go_enter Tryz.func80, Tryz.ntmps80
  go_wp2_with fail
  rw [← hW0]
  clear hW0
  go_wp2_with fail
  (with_reducible refine HG.out.mono ?_)
  rintro e w1 ⟨AG, cG, lG, rfl, hNG, hb1⟩
  have hST1 := HST0.out.call hb1
  have HST1 := Lib.hid hST1
  have hlG : lG.length ≤ n := by have := natLenJ (HN2.out w1 hST1.below) hNG hGy; omega
  have HD1 := Lib.hid (natDivMod_any A1 AG c1 cG l1 lG x G w1 (HN1.out w1 hST1.below) hNG (by omega) (by omega) hG0)
  have HNG := Lib.hid hNG
  have g0 := hST1.cell 0 0 rfl rfl
  have g1 := hST1.cell 0 1 rfl rfl
  have g2 := hST1.cell 0 2 rfl rfl
  clear HG hb1 hST1 hNG
  go_wp2_with fail
  (with_reducible refine HD1.out.mono ?_)
  rintro e w2 ⟨AQ, cQ, lQ, AR, cR, lR, rfl, hNQ, -, hb2⟩
  have hST2 := HST1.out.call hb2
  have HST2 := Lib.hid hST2
  have hlQ : lQ.length ≤ n := by have := natLenJ (HN1.out w2 hST2.below) hNQ (Nat.div_le_self _ _); omega
  have HD2 := Lib.hid (natDivMod_any A2 AG c2 cG l2 lG y G w2 (HN2.out w2 hST2.below) (HNG.out.on hb2) (by omega) (by omega) hG0)
  have HNQ := Lib.hid hNQ
  have g0 := hST2.cell 0 0 rfl rfl
  have g1 := hST2.cell 0 1 rfl rfl
  have g2 := hST2.cell 0 2 rfl rfl
  clear HD1 hb2 hST2 hNQ
  go_wp2_with fail
  (with_reducible refine HD2.out.mono ?_)
  rintro e w3 ⟨AP, cP, lP, AS, cS, lS, rfl, hNP, -, hb3⟩
  have hST3 := HST2.out.call hb3
  have HX3 := Lib.hid (show JBox w3 (w.heap.size + 1) from hST3.at 1 rfl)
  have HZ := Lib.hid (fun W => natZero_any AQ cQ lQ W (by omega))
  have hq0 : lQ.length = 0 ↔ x / G = 0 := by
    constructor
    · intro hz
      have : lQ = [] := List.eq_nil_of_length_eq_zero hz
      subst this
      have := HNQ.out.val; simpa [val] using this.symm
    · intro hz
      rw [(val_zero W64_pos HNQ.out.norm).1 (by rw [HNQ.out.val, hz])]; rfl
  have hzz : ((lQ.length : Int) == 0) = decide (x / G = 0) := by
    rw [Bool.eq_iff_iff]; simp only [beq_iff_eq, decide_eq_true_eq]; rw [← hq0]; omega
  rw [hzz, ← HZB.out] at HZ
  have HF := Lib.hid (fun W (hf : Fr (fun i => i = w.heap.size + 1) w3 W) => jf_ret HX3.out (jf_mk (b := b && !zb) (HNQ.out.on hb3) hNP) hST3.below (by omega) hf)
  obtain ⟨k0, k1, k2, z0, z1, z2, hlt⟩ := HX3.out.facts
  have g0 := hST3.cell 0 0 rfl rfl
  have g1 := hST3.cell 0 1 rfl rfl
  have g2 := hST3.cell 0 2 rfl rfl
  clear HD2 hb3 hST3 hNP hq0 hzz
  cases b with
  | false =>
    simp only [Bool.false_and] at HF
    go_wp2
    refine bodyPost_ret (v := .agg #[.bool false, .slice AQ lQ.length cQ, .slice AP lP.length cP]) (by simp [results, Tryz.results80, go_sem, k0, k1, k2]) rfl ⟨_, rfl, HF.out _ (fr3 _ _ _)⟩
  | true =>
    simp only [Bool.true_and] at HF
    go_wp2_with fail
    (with_reducible refine (HZ.out _).mono ?_)
    rintro e w4 ⟨rfl, rfl⟩
    go_wp2
    refine bodyPost_ret (v := .agg #[.bool (!zb), .slice AQ lQ.length cQ, .slice AP lP.length cP]) (by simp [results, Tryz.results80, go_sem, k0, k1, k2]) rfl ⟨_, rfl, HF.out _ (fr3 _ _ _)⟩

end Go.Proofs.YtnpfdelklolchaaGreatDoor
