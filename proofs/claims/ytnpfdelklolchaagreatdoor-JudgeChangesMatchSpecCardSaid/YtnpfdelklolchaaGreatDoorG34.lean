import Derived.Test.YtnpfdelklolchaaGreatDoorG17
import Derived.Test.YtnpfdelklolchaaGreatDoorG33
import Derived.Test.YtnpfdelklolchaaGreatDoorG14
import Derived.Test.YtnpfdelklolchaaGreatDoorG12
import Derived.Test.YtnpfdelklolchaaGreatDoorG1
import Derived.Test.YtnpfdelklolchaaGreatDoorG0
import Derived.Test.YtnpfdelklolchaaGreatDoorG32
/- Package judge: better (of two divisions). -/
namespace Go.Proofs.YtnpfdelklolchaaGreatDoor
open Go Go.RowKit Go.Proofs

theorem betK_lt {x y : Nat × List Nat} (h : x.1 < y.1) : betK x y = true := by unfold betK; exact decide_eq_true (.inl h)
theorem betK_gt {x y : Nat × List Nat} (h : y.1 < x.1) : betK x y = false := by unfold betK; exact decide_eq_false (by rintro (h1 | ⟨h1, _⟩) <;> omega)
theorem betK_len {x y : Nat × List Nat} (h : x.1 = y.1) (hl : x.2.length ≠ y.2.length) : betK x y = decide (x.2.length < y.2.length) := by
  unfold betK
  rw [decide_eq_decide]
  constructor
  · rintro (h1 | ⟨_, h2 | ⟨h2, _⟩⟩)
    · omega
    · exact h2
    · exact absurd h2 hl
  · intro h2; exact .inr ⟨h, .inl h2⟩
theorem betK_cmp {x y : Nat × List Nat} (h : x.1 = y.1) (hl : x.2.length = y.2.length) : betK x y = decide (cmpL x.2 y.2 < 0) := by
  unfold betK
  rw [decide_eq_decide]
  constructor
  · rintro (h1 | ⟨_, h2 | ⟨_, h2⟩⟩)
    · omega
    · omega
    · exact h2
  · intro h2; exact .inr ⟨h, .inr ⟨hl, h2⟩⟩
set_option maxHeartbeats 8000000 in
set_option maxRecDepth 100000 in
theorem jBetter_any (h k : Dv) (w : World) (h1 : DvR w h) (h2 : DvR w k) (s1 : h.l1.length ≤ 1000000) (s2 : k.l1.length ≤ 1000000) (z1 : h.zs.length ≤ 1000000) (z2 : k.zs.length ≤ 1000000) :
    Calls Tryz.prog 32 #[.agg #[.slice h.A1 h.l1.length h.c1, .slice h.A2 h.zs.length h.c2], .agg #[.slice k.A1 k.l1.length k.c1, .slice k.A2 k.zs.length k.c2]] w fun e w' => e = .returned (.bool (betK h.k k.k)) ∧ Below w.heap.size w w' := by
  obtain ⟨A1, c1, l1, x, A2, c2, zs⟩ := h
  obtain ⟨B1, d1, m1, y, B2, d2, zt⟩ := k
  obtain ⟨h1, h3⟩ := h1
  obtain ⟨h2, h4⟩ := h2
  simp only [Dv.k] at *
  obtain ⟨bb, hbb⟩ : ∃ b, b = betK (x, zs) (y, zt) := ⟨_, rfl⟩
  rw [← hbb]
  have HBB := Lib.hid hbb
  clear hbb
  obtain ⟨W0, hW0⟩ : ∃ W0, W0 = (w.alloc (.cells #[.slice A1 l1.length c1, .slice A2 zs.length c2] 68)).alloc (.cells #[.slice B1 m1.length d1, .slice B2 zt.length d2] 68) := ⟨_, rfl⟩
  have hST0 : St w W0 [(w.heap.size, .cells #[.slice A1 l1.length c1, .slice A2 zs.length c2] 68 (0, 0)), (w.heap.size + 1, .cells #[.slice B1 m1.length d1, .slice B2 zt.length d2] 68 (0, 0))] := by rw [hW0]; exact ((St.start w).alloc _ _ rfl).alloc _ _ (by simp)
  have HST0 := Lib.hid hST0
  have HC := Lib.hid (natCmp_any A1 B1 c1 d1 l1 m1 x y W0 (h1.on hST0.below) (h2.on hST0.below) s1 s2)
  have HL := Lib.hid (fun W (hb : Below w.heap.size w W) => cmpL_any A2 B2 c2 d2 zs zt W (h3.on hb) (h4.on hb) z1 z2)
  have g0 := hST0.cell 0 0 rfl rfl
  have g1 := hST0.cell 0 1 rfl rfl
  have g2 := hST0.cell 1 0 rfl rfl
  have g3 := hST0.cell 1 1 rfl rfl
  clear hST0 h1 h2 h3 h4
  go_enter Tryz.func32, Tryz.ntmps32
  go_wp2_with fail
  rw [← hW0]
  clear hW0
  go_wp2_with fail
  (with_reducible refine (HC.out).mono ?_)
  rintro e w1 ⟨rfl, q, hw1⟩
  have hST1 := HST0.out.drewN q
  rw [← hw1] at hST1
  have HST1 := Lib.hid hST1
  have g0 := hST1.cell 0 0 rfl rfl
  have g1 := hST1.cell 0 1 rfl rfl
  have g2 := hST1.cell 1 0 rfl rfl
  have g3 := hST1.cell 1 1 rfl rfl
  clear hST1 hw1 HC HST0
  rcases Nat.lt_trichotomy x y with hxy | hxy | hxy
  · rw [← cmpN_lt hxy]
    have HE := Lib.hid (show bb = true by rw [HBB.out]; exact betK_lt hxy)
    clear HBB
    go_wp2
    go_ret
    exact ⟨by rw [HE.out]; rfl, HST1.out.below⟩
  · rw [← cmpN_eq hxy]
    by_cases hl : zs.length = zt.length
    · have t1 : ((zs.length : Int) == (zt.length : Int)) = true := by rw [beq_iff_eq]; omega
      have HE := Lib.hid (show bb = decide (cmpL zs zt < 0) by rw [HBB.out]; exact betK_cmp hxy hl)
      clear HBB hl
      go_wp2_with fail
      (with_reducible refine (HL.out w1 HST1.out.below).mono ?_)
      rintro e w2 ⟨rfl, hb2⟩
      have HB2 := Lib.hid (below_next HST1.out.below hb2)
      clear hb2 g0 g1 g2 g3
      go_wp2
      go_ret
      exact ⟨by rw [HE.out]; rfl, HB2.out⟩
    · have hlz : ¬ (zs.length : Int) = (zt.length : Int) := by omega
      have hdz : decide ((zs.length : Int) < (zt.length : Int)) = decide (zs.length < zt.length) := by rw [decide_eq_decide]; omega
      have HE := Lib.hid (show bb = decide (zs.length < zt.length) by rw [HBB.out]; exact betK_len hxy hl)
      clear HBB
      go_wp2
      go_ret
      exact ⟨by rw [HE.out]; first | rfl | simp, HST1.out.below⟩
  · rw [← cmpN_gt hxy]
    have HE := Lib.hid (show bb = false by rw [HBB.out]; exact betK_gt hxy)
    clear HBB
    go_wp2
    go_ret
    exact ⟨by rw [HE.out]; rfl, HST1.out.below⟩
end Go.Proofs.YtnpfdelklolchaaGreatDoor

/- slices.Clone at lists of places. -/
namespace Go.Proofs.YtnpfdelklolchaaGreatDoor
open Go Go.RowKit Go.Proofs

theorem eqNilI (A : Option Addr) (n c : Nat) (w : World) : (binOp .eql 22 (.slice A n c) (.slice none 0 0)).run Tryz.prog w = .ok (.bool A.isNone) w := by
  have h := run_equal_slice_nil (P := Tryz.prog) w 22 3 A n c Tryz.underlying22
  simp [binOp, h]
theorem nInts_one (zs : List Nat) : ∀ u ∈ nInts zs, u.oneCell' = true := by
  intro u hu
  unfold nInts at hu
  obtain ⟨d, _, rfl⟩ := List.mem_map.1 hu
  rfl
theorem PlR.of_own {w : World} {base : Nat} {e : TypeId} {v : Value} {zs : List Nat} (h : w.ownsRow base e 1 v zs.length (nInts zs)) (hn : 0 < zs.length) : ∃ g cap, v = .slice (some ⟨g, 0, none⟩) zs.length cap ∧ base ≤ g ∧ PlR w (some ⟨g, 0, none⟩) cap zs := by
  obtain ⟨g, cap, rfl, _, _, _, _⟩ := ownsRow_some h hn
  have hb := (ownsRow_block h (i := g) rfl).1
  exact ⟨g, cap, rfl, hb, (Rd.of_own h).more (Nat.zero_le _) (Nat.le_refl _), ⟨fun h => (Option.some_ne_none _ h).elim, fun h => absurd hn (by rw [h]; decide)⟩⟩
set_option maxRecDepth 100000 in
set_option maxHeartbeats 1000000 in
/-- the copy is a row of one's own -/
theorem cloneI_any (A : Option Addr) (c : Nat) (zs : List Nat) (w : World) (hr : PlR w A c zs) (hn : zs.length ≤ 1000000) :
    Calls Tryz.prog 31 #[.slice A zs.length c] w fun e w' => ∃ v, e = .returned v ∧ w'.ownsRow w.heap.size 3 1 v zs.length (nInts zs) ∧ Below w.heap.size w w' := by
  obtain ⟨i0, hi, hz0, hz1, hz2⟩ := info_parts Tryz.infoI4
  obtain ⟨hr1, hr2, hr3⟩ := hr
  cases A with
  | none =>
    obtain ⟨rfl, rfl⟩ := hr2 rfl
    have hnil := eqNilI none 0 0
    go_enter Tryz.func31, Tryz.ntmps31
    go_wp2
    go_ret
    exact ⟨_, rfl, ⟨rfl, .inl ⟨rfl, rfl⟩⟩, Below.refl _ _⟩
  | some ad =>
    have hown : (w.alloc (.cells #[] 3)).ownsRow w.heap.size 3 1 (.slice (some ⟨w.heap.size, 0, none⟩) 0 0) 0 [] :=
      ⟨rfl, .inr ⟨w.heap.size, 0, #[], rfl, Nat.le_refl _, alloc_at _ _ _ rfl, Nat.le_refl _, Nat.zero_le _, rfl, rfl⟩⟩
    have HO := Lib.hid hown
    have HR := Lib.hid (hr1.alloc (Nat.le_refl _) (.cells #[] 3))
    clear hown hr1 hr2 hr3
    have hnil := eqNilI (some ad) zs.length c
    go_enter Tryz.func31, Tryz.ntmps31
    go_wp2_with (at_builtin; refine wpList_append_rd rfl (.tmp 5) (.tmp 6) 22 rfl w.heap.size 3 i0 _ 1 8 Tryz.underlying22 hi hz0 hz1 hz2 rfl (by decide) (.slice (some ⟨w.heap.size, 0, none⟩) 0 0) 0 [] rfl HO.out (some ad) zs.length c 0 w.heap.size (nInts zs) rfl (fun h => by cases h) HR.out (nInts_one zs) ?c3 ?c4 ?c5 ?_)
    case c3 => unfold maxLen; omega
    case c4 => omega
    case c5 => simp
    intro v' w' hown' hgrow
    try simp only [Nat.zero_add, List.nil_append] at hown'
    have hb : Below w.heap.size w w' := (((Below.refl _ w).alloc (Nat.le_refl _) _).grown hgrow (by simp) (fun k e => by cases e; simp))
    have HROW := Lib.hid hown'
    have HB := Lib.hid hb
    clear hown' hgrow hb
    go_wp2
    go_ret
    exact ⟨_, rfl, HROW.out, HB.out⟩
end Go.Proofs.YtnpfdelklolchaaGreatDoor

/- A pair of texts in a box. -/
namespace Go.Proofs.YtnpfdelklolchaaGreatDoor
open Go Go.RowKit Go.Proofs

def Txt2 (W : World) (B : Nat) (S1 S2 : ByteArray) : Prop := W.heap[B]? = some (.cells #[.string S1, .string S2] 24 (0, 0))
theorem Txt2.on {w w' : World} {B : Nat} {S1 S2 : ByteArray} (h : Txt2 w B S1 S2) (hb : Below w.heap.size w w') : Txt2 w' B S1 S2 := (hb.block B (heap_lt h)).trans h
theorem Txt2.facts {w : World} {B : Nat} {S1 S2 : ByteArray} (h : Txt2 w B S1 S2) : w.cell? ⟨B, 0, none⟩ = some (.string S1) ∧ w.cell? ⟨B, 1, none⟩ = some (.string S2) ∧ w.frozen? ⟨B, 0, none⟩ = false ∧ w.frozen? ⟨B, 1, none⟩ = false ∧ B < w.heap.size :=
  ⟨by rw [cellsAt h]; rfl, by rw [cellsAt h]; rfl, frozenAt h 0, frozenAt h 1, heap_lt h⟩
theorem txt2_set {W : World} {B : Nat} {a b x y : Value} {t : TypeId} (h : W.heap[B]? = some (.cells #[a, b] t (0, 0))) : ((W.setCell ⟨B, 0, none⟩ x).setCell ⟨B, 1, none⟩ y).heap[B]? = some (.cells #[x, y] t (0, 0)) := by
  simp [World.setCell, Array.getElem?_modify, h]
theorem txt2_far {W : World} {B B' : Nat} {x y : Value} (h : B' ≠ B) : ((W.setCell ⟨B, 0, none⟩ x).setCell ⟨B, 1, none⟩ y).heap[B']? = W.heap[B']? :=
  (Below.heap_setCell (W.setCell ⟨B, 0, none⟩ x) ⟨B, 1, none⟩ y B' h).trans (Below.heap_setCell W ⟨B, 0, none⟩ x B' h)
theorem txt2_below {w W : World} {B : Nat} (h : Below w.heap.size w W) (hB : w.heap.size ≤ B) (x y : Value) : Below w.heap.size w ((W.setCell ⟨B, 0, none⟩ x).setCell ⟨B, 1, none⟩ y) := (h.setCell (p := ⟨B, 0, none⟩) hB x).setCell (p := ⟨B, 1, none⟩) hB y
end Go.Proofs.YtnpfdelklolchaaGreatDoor

/- Divisions in memory: a row read as a whole, a box that is made, a place appended. -/
namespace Go.Proofs.YtnpfdelklolchaaGreatDoor
open Go Go.RowKit Go.Proofs

theorem RowDr.all {w : World} {base : Nat} {e : TypeId} {v : Value} {xs : List Dv} (hr : RowDr w base e v xs) (h0 : 0 < xs.length) : ∃ g cap, v = .slice (some ⟨g, 0, none⟩) xs.length cap ∧
    ∀ (i : Nat) (h : Dv), xs[i]? = some h → DvR w h ∧ ∀ X, Below w.heap.size w X → X.cell? ⟨g, i * 2, none⟩ = some (.slice h.A1 h.l1.length h.c1) ∧ X.cell? ⟨g, i * 2 + 1, none⟩ = some (.slice h.A2 h.zs.length h.c2) := by
  obtain ⟨h, hh⟩ : ∃ h, xs[0]? = some h := ⟨xs[0], List.getElem?_eq_getElem h0⟩
  obtain ⟨g, cap, e1, hg, _, _, _⟩ := hr.at hh
  refine ⟨g, cap, e1, fun i h hi => ?_⟩
  obtain ⟨g', cap', e2, hg', c0, c1, hd⟩ := hr.at hi
  rw [e1] at e2
  injection e2 with e3 _ _
  injection e3 with e3
  injection e3 with e3 _ _
  subst e3
  exact ⟨hd, fun X hX => ⟨(World.cell?_of_block (hX.block g hg)).trans c0, (World.cell?_of_block (hX.block g hg)).trans c1⟩⟩
theorem below_grownD {w w' : World} {e : TypeId} {v : Value} {xs : List Dv} {B : World} (hb : Below B.heap.size B w) (hr : RowDc w B.heap.size e v xs) (hg : w.grownBy w' v.ownBlock) : Below B.heap.size B w' :=
  hb.trans ((Fr.of_grown hg).below hb.size (fun i hi hm => by have := (hr.block hm).1; omega))
/-- a division's box as it is made -/
def DvE (w : World) (b : Nat) : Prop := w.heap[b]? = some (.cells #[.slice none 0 0, .slice none 0 0] 68 (0, 0))
theorem DvE.b {w : World} {b : Nat} (h : DvE w b) : DvB w b 68 ⟨none, 0, [], 0, none, 0, []⟩ := ⟨h, natr_nil _, PlR.nil _⟩
theorem DvE.on {w w' : World} {b : Nat} (h : DvE w b) (hb : Below w.heap.size w w') : DvE w' b := (hb.block b (heap_lt h)).trans h
theorem DvE.facts {w : World} {b : Nat} (h : DvE w b) : w.cell? ⟨b, 0, none⟩ = some (.slice none 0 0) ∧ w.cell? ⟨b, 1, none⟩ = some (.slice none 0 0) ∧ w.frozen? ⟨b, 0, none⟩ = false ∧ w.frozen? ⟨b, 1, none⟩ = false ∧ b < w.heap.size := by
  unfold DvE at h
  exact ⟨by rw [cellsAt h]; rfl, by rw [cellsAt h]; rfl, frozenAt h 0, frozenAt h 1, heap_lt h⟩
theorem DvE.store {w : World} {b : Nat} (h : DvE w b) {A : Option Addr} {c x : Nat} {l : List Nat} (hx : NatR w A c l x) :
    DvB ((w.setCell ⟨b, 0, none⟩ (.slice A l.length c)).setCell ⟨b, 1, none⟩ (.slice none 0 0)) b 68 ⟨A, c, l, x, none, 0, []⟩ :=
  (h.b.put (y := ⟨A, c, l, x, none, 0, []⟩) ⟨hx, PlR.nil _⟩).1
theorem nInts_app (zs : List Nat) (i : Nat) : nInts zs ++ [.int .i64 (i : Int)] = nInts (zs ++ [i]) := by simp [nInts]
theorem PlR.of_app {w : World} {base g cap : Nat} {e : TypeId} {zs : List Nat} {i : Nat} (h : w.ownsRow base e 1 (.slice (some ⟨g, 0, none⟩) (zs.length + 1) cap) (zs.length + 1) (nInts zs ++ [.int .i64 (i : Int)])) : PlR w (some ⟨g, 0, none⟩) cap (zs ++ [i]) := by
  rw [nInts_app] at h
  have e1 : (zs ++ [i]).length = zs.length + 1 := by simp
  rw [← e1] at h
  obtain ⟨g', cap', e2, _, hp⟩ := PlR.of_own h (by omega)
  injection e2 with e3 _ e4
  injection e3 with e3
  injection e3 with e3 _ _
  subst e3 e4
  exact hp
theorem DvB.putz {w : World} {b n : Nat} {T : TypeId} {h : Dv} (hd : DvB w b T h) {A : Option Addr} {c : Nat} {zs : List Nat} (hz : PlR w A c zs) (hn : n = zs.length) :
    DvB (w.setCell ⟨b, 1, none⟩ (.slice A n c)) b T { h with A2 := A, c2 := c, zs := zs } := by
  subst hn
  exact (hd.put1 hz).1
theorem infoDv : (Tryz.prog.info? 68).map (fun i => (i.zero, i.size, i.bytes)) = some (some zD, 2, 48) := by kernel_rfl
theorem Dv.new (w : World) (y : Dv) (T : TypeId) : ∀ (j : Nat) u, y.v[j]? = some u → (w.alloc (.cells #[.slice y.A1 y.l1.length y.c1, .slice y.A2 y.zs.length y.c2] T)).cell? ((⟨w.heap.size, 0, none⟩ : Addr).add j) = some u := by
  intro j u hj
  have e : (w.alloc (.cells #[.slice y.A1 y.l1.length y.c1, .slice y.A2 y.zs.length y.c2] T)).heap[w.heap.size]? = some (.cells #[.slice y.A1 y.l1.length y.c1, .slice y.A2 y.zs.length y.c2] T (0, 0)) := alloc_at _ _ _ rfl
  have m0 : (w.alloc (.cells #[.slice y.A1 y.l1.length y.c1, .slice y.A2 y.zs.length y.c2] T)).cell? ⟨w.heap.size, 0, none⟩ = some (.slice y.A1 y.l1.length y.c1) := by rw [cellsAt e]; rfl
  have m1 : (w.alloc (.cells #[.slice y.A1 y.l1.length y.c1, .slice y.A2 y.zs.length y.c2] T)).cell? ⟨w.heap.size, 1, none⟩ = some (.slice y.A2 y.zs.length y.c2) := by rw [cellsAt e]; rfl
  match j, hj with
  | 0, hj => simp [Dv.v] at hj; subst hj; exact m0
  | 1, hj => simp [Dv.v] at hj; subst hj; exact m1
  | j + 2, hj => simp [Dv.v] at hj
theorem add_bd {D x y a b c : Nat} (h1 : x ≤ D * a) (h2 : y ≤ D * b) (h : a + b ≤ c) : x + y ≤ D * c := Nat.le_trans (Nat.add_le_add h1 h2) (by rw [← Nat.mul_add]; exact Nat.mul_le_mul_left _ h)
theorem up_bd {D x a c : Nat} (h1 : x ≤ D * a) (h : a ≤ c) : x ≤ D * c := Nat.le_trans h1 (Nat.mul_le_mul_left _ h)
/-- how great the numbers are -/
theorem chg_sz {l : List Int} {pen : Int} {i j : Nat} (hok : okZ l = true) (hl : l.length ≤ 300) (hp : pen ≤ 1000000000000000) (hij : i < j) (hj : j ≤ l.length) :
    (sqs (segL l i j)).toNat < W64 ^ 8 ∧ cmn l.length * (sqs (segL l i j)).toNat < W64 ^ 8 ∧ cmn l.length / (j - i) < W64 ^ 8 ∧ (segL l i j).sum.natAbs * (segL l i j).sum.natAbs < W64 ^ 8 ∧
    cmn l.length / (j - i) * ((segL l i j).sum.natAbs * (segL l i j).sum.natAbs) < W64 ^ 8 ∧ cmn l.length / (j - i) * ((segL l i j).sum.natAbs * (segL l i j).sum.natAbs) ≤ cmn l.length * (sqs (segL l i j)).toNat ∧
    chc l i j < W64 ^ 8 ∧ (bestL (chc l) (chE l pen) i).1 < W64 ^ 8 ∧ (bestL (chc l) (chE l pen) i).1 + chc l i j < W64 ^ 8 ∧ chE l pen < W64 ^ 8 ∧ (bestL (chc l) (chE l pen) i).1 + chc l i j + chE l pen < W64 ^ 8 := by
  have H := fun x (hx : x ≤ cmn l.length * 4000000000000000) => (show x < W64 ^ 8 from ch_small hl hx)
  have hD := cmn_pos l.length
  obtain ⟨p1, p2, p3⟩ := seg_bound (l := l) (i := i) (j := j) (okZ_abs hok) (by omega)
  have h1 : cmn l.length * (sqs (segL l i j)).toNat ≤ cmn l.length * 300000000000000 := Nat.mul_le_mul_left _ p3
  have h2 := cS_sub (l := l) (D := cmn l.length) hij hj (cmn_dvd (by omega) (by omega))
  have h3 : (segL l i j).sum.natAbs * (segL l i j).sum.natAbs ≤ 300000000 * 300000000 := Nat.mul_le_mul p1 p1
  have h4 := chc_le (i := i) hok hl hj
  have h5 := best_le (pen := pen) hok hl (show i ≤ l.length by omega)
  have h6 := chE_le (l := l) hp
  have h7 : cmn l.length / (j - i) ≤ cmn l.length := Nat.div_le_self _ _
  have h8 : (segL l i j).sum.natAbs * (segL l i j).sum.natAbs < W64 ^ 8 := Nat.lt_of_le_of_lt h3 (by unfold W64; decide)
  have h9 : (sqs (segL l i j)).toNat < W64 ^ 8 := Nat.lt_of_le_of_lt p3 (by unfold W64; decide)
  have h10 := add_bd h5 h4 (c := 600000000000000) (by omega)
  exact ⟨h9, H _ (up_bd h1 (by omega)), H _ (Nat.le_trans h7 (Nat.le_mul_of_pos_right _ (by omega))), h8, H _ (Nat.le_trans h2 (up_bd h1 (by omega))), h2, H _ (up_bd h4 (by omega)), H _ (up_bd h5 (by omega)), H _ (up_bd h10 (by omega)), H _ (up_bd h6 (by omega)), H _ (add_bd h10 h6 (by omega))⟩
theorem candL_bd {l : List Int} {pen : Int} {j k : Nat} (hok : okZ l = true) (hl : l.length ≤ 300) (hp : pen ≤ 1000000000000000) (hk : k < j) (hj : j ≤ l.length) : (candL (chc l) (chE l pen) 0 j k (bestL (chc l) (chE l pen) k)).1 < W64 ^ 8 ∧ (candL (chc l) (chE l pen) 0 j k (bestL (chc l) (chE l pen) k)).2.length ≤ 1000000 := by
  obtain ⟨-, -, -, -, -, -, a, -, -, -, b⟩ := chg_sz (i := k) (pen := pen) hok hl hp hk hj
  have := best_len (l := l) (pen := pen) (k := k) (by omega)
  unfold candL
  by_cases h : 0 < k
  · rw [if_pos h]
    exact ⟨b, by simp; omega⟩
  · rw [if_neg h]
    obtain rfl : k = 0 := by omega
    exact ⟨a, by simp⟩
theorem runL_bd {l : List Int} {pen : Int} {j : Nat} (hok : okZ l = true) (hl : l.length ≤ 300) (hp : pen ≤ 1000000000000000) (hj : j ≤ l.length) : ∀ s, s < j → (runL (chc l) (chE l pen) (bestL (chc l) (chE l pen)) j s).1 < W64 ^ 8 ∧ (runL (chc l) (chE l pen) (bestL (chc l) (chE l pen)) j s).2.length ≤ 1000000
  | 0, h => candL_bd hok hl hp (by omega) hj
  | s + 1, h => by
    have ih := runL_bd hok hl hp hj s (by omega)
    have hc := candL_bd (k := j - 1 - (s + 1)) hok hl hp (by omega) hj
    rw [runL]
    rcases pickK_or (candL (chc l) (chE l pen) 0 j (j - 1 - (s + 1)) (bestL (chc l) (chE l pen) (j - 1 - (s + 1)))) (runL (chc l) (chE l pen) (bestL (chc l) (chE l pen)) j s) with ⟨_, e⟩ | ⟨_, e⟩
    · rw [e]; exact hc
    · rw [e]; exact ih
theorem rd_txt2 {W : World} {L k n B : Nat} {A : Option Addr} {xs : List Value} {x y : Value} (h : Rd W L W.heap.size k A n xs) (hB : B < L) : Rd ((W.setCell ⟨B, 0, none⟩ x).setCell ⟨B, 1, none⟩ y) L ((W.setCell ⟨B, 0, none⟩ x).setCell ⟨B, 1, none⟩ y).heap.size k A n xs := by
  refine ⟨h.1, fun hn => ?_⟩
  obtain ⟨b, o, e, h1, h2, hc⟩ := h.2 hn
  exact ⟨b, o, e, h1, by simpa [World.setCell] using h2, fun j u hj => (World.cell?_of_block (txt2_far (show b ≠ B by omega))).trans (hc j u hj)⟩
/-- what Changes returns -/
def ChgPost (l : List Int) (pen : Int) (w : World) (e : Ending) (w' : World) : Prop :=
  (chC l pen ≠ 0 ∧ e = .returned (.tuple #[.slice none 0 0, .agg #[.string ⟨#[]⟩, .string ⟨#[]⟩], .int .i64 (chC l pen)]) ∧ Below w.heap.size w w') ∨
  (chC l pen = 0 ∧ ∃ B d, e = .returned (.tuple #[.slice B (chB l pen).2.length d, ratOf (rtT (chQ l pen)), .int .i64 0]) ∧ Rd w' 0 w'.heap.size 1 B (chB l pen).2.length (nInts (chB l pen).2) ∧ Below w.heap.size w w')
end Go.Proofs.YtnpfdelklolchaaGreatDoor
