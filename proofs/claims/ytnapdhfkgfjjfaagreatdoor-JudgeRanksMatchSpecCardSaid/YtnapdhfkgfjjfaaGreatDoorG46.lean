import Derived.Test.YtnapdhfkgfjjfaaGreatDoorG32
import Derived.Test.YtnapdhfkgfjjfaaGreatDoorG43
import Derived.Test.YtnapdhfkgfjjfaaGreatDoorG45
import Derived.Test.YtnapdhfkgfjjfaaGreatDoorRows
import Derived.WalkKit
import Derived.ProofKit
import Derived.OpenShut
import Derived.JoinedCond
import Derived.Deep.SlicePairs
import Derived.Deep.Strs
import Derived.Lib.SmallJoins
import Derived.SizedLaws
import Derived.Test.YtnapdhfkgfjjfaaGreatDoorProg
import Derived.ChangeMaps5
import Derived.Test.YtnapdhfkgfjjfaaGreatDoorCards
import Derived.Test.YtnapdhfkgfjjfaaGreatDoorTie
import Derived.Test.YtnapdhfkgfjjfaaGreatDoorG23
import Derived.Lay
import Derived.Deep.DeepHandedRow
import Derived.Lib.LaidTab
/- JudgeRanksMatchSpec: the law's walk. -/
namespace Go.Proofs.YtnapdhfkgfjjfaaGreatDoor
open Go Go.RowKit Go.Proofs

theorem wrV_shape (a b : List Int) (c d : List UInt8) : ∃ (x : Bool) (k : Int), wrV a b c d = .tuple #[.bool x, .int .i64 k] := by
  unfold wrV
  split
  · exact ⟨_, _, rfl⟩
  · split
    · exact ⟨_, _, rfl⟩
    · exact ⟨_, _, rfl⟩
set_option maxHeartbeats 8000000 in
set_option maxRecDepth 100000 in
theorem lawRnk_any (A B : Option Addr) (ca cb : Nat) (a b : List Int) (Sc Sd : ByteArray) (w : World) (htab : Tab w.heap.size w) (hr1 : Rd w 0 w.heap.size 1 A a.length (ints a)) (hr2 : Rd w 0 w.heap.size 1 B b.length (ints b)) (hc1 : a.length ≤ ca) (hc2 : b.length ≤ cb) (hm1 : a.length ≤ 4000000000000000000) (hm2 : b.length ≤ 4000000000000000000) (hc : Sc.size ≤ 9223372036854775800) (hd : Sd.size ≤ 9223372036854775800) :
    Calls Tryz.prog 5 #[.slice A a.length ca, .slice B b.length cb, .agg #[.string Sc, .string Sd]] w fun e w' => e = .returned (.bool true) ∧ Below w.heap.size w w' := by
  have HH := Lib.hid (fun W (hW : Below w.heap.size w W) => halves_any W ((htab.on hW).mono hW.size))
  have HJ1 := Lib.hid (fun W (hW : Below w.heap.size w W) => (jRanks_any A B ca cb a b W (hr1.old hW) (hr2.old hW) hc1 hc2 hm1 hm2).mono fun e w' h => rkP_val h)
  have HR1 := Lib.hid (fun W (hW : Below w.heap.size w W) => (rRanks_any A B ca cb a b W (hr1.old hW) (hr2.old hW) hm1 hm2).mono fun e w' h => rkP_val h)
  have HJ2 := Lib.hid (fun W (hW : Below w.heap.size w W) => jWorse_any A B ca cb Sc Sd a b _ _ W (hr1.old hW) (hr2.old hW) hc1 hc2 hm1 hm2 rfl rfl hc hd)
  have HR2 := Lib.hid (fun W (hW : Below w.heap.size w W) => rWorse_any A B ca cb Sc Sd a b _ _ W (hr1.old hW) (hr2.old hW) hm1 hm2 rfl rfl hc hd)
  obtain ⟨v0, v1, v2, v3, vc, hv⟩ := rkV_shape a b
  obtain ⟨x, k, hu⟩ := wrV_shape b a Sc.data.toList Sd.data.toList
  rw [hv] at HJ1 HR1
  rw [hu] at HJ2 HR2
  obtain ⟨W0, hW0⟩ : ∃ W0, W0 = w.alloc (.cells #[.string Sc, .string Sd] 31) := ⟨_, rfl⟩
  have HST0 := Lib.hid (show St w W0 [(w.heap.size, .cells #[.string Sc, .string Sd] 31 (0, 0))] by rw [hW0]; exact (St.start w).alloc _ _ rfl)
  have HP := Lib.hid (show ∀ X, Below W0.heap.size W0 X → X.cell? ⟨w.heap.size, 0, none⟩ = some (.string Sc) ∧ X.cell? ⟨w.heap.size, 1, none⟩ = some (.string Sd) from fun X hX => ⟨(HST0.out.call hX).cell 0 0 rfl rfl, (HST0.out.call hX).cell 0 1 rfl rfl⟩)
  clear hv hu htab hr1 hr2 hc hd
  go_enter Tryz.func5, Tryz.ntmps5
  go_wp2_with fail
  rw [← hW0]
  clear hW0
  (with_reducible refine (HJ1.out _ HST0.out.below).mono ?_)
  rintro e w1 ⟨rfl, hb1⟩
  obtain ⟨W2, hW2⟩ : ∃ W2, W2 = w1.alloc (.cells #[.int .i64 v0, .int .i64 v1, .int .i64 v2, .int .i64 v3] 24) := ⟨_, rfl⟩
  have hb12 : Below w1.heap.size w1 W2 := by rw [hW2]; exact (Below.refl _ w1).alloc (Nat.le_refl _) _
  have HX1 := Lib.hid (show R4 W2 w1.heap.size v0 v1 v2 v3 by rw [hW2]; exact alloc_at _ _ _ rfl)
  have HB2 := Lib.hid (below_next hb1 hb12)
  clear hb1 hb12
  go_wp2_with fail
  rw [← hW2]
  obtain ⟨B1, hB1⟩ : ∃ B, B = w1.heap.size := ⟨_, rfl⟩
  rw [← hB1] at HX1 ⊢
  clear hW2 hB1
  (with_reducible refine (HR1.out _ (below_next HST0.out.below HB2.out)).mono ?_)
  rintro e w3 ⟨rfl, hb3⟩
  obtain ⟨W4, hW4⟩ : ∃ W4, W4 = w3.alloc (.cells #[.int .i64 v0, .int .i64 v1, .int .i64 v2, .int .i64 v3] 24) := ⟨_, rfl⟩
  have hb34 : Below w3.heap.size w3 W4 := by rw [hW4]; exact (Below.refl _ w3).alloc (Nat.le_refl _) _
  have e1 := HX1.out.on (below_next hb3 hb34)
  have e2 : R4 W4 w3.heap.size v0 v1 v2 v3 := by rw [hW4]; exact alloc_at _ _ _ rfl
  have HB4 := Lib.hid (below_next HB2.out (below_next hb3 hb34))
  obtain ⟨k0, k1, k2, k3⟩ := e1.cells
  obtain ⟨j0, j1, j2, j3⟩ := e2.cells
  obtain ⟨o0, o1⟩ := HP.out W4 HB4.out
  rw [hW4] at k0 k1 k2 k3 j0 j1 j2 j3 o0 o1
  clear hb3 hb34 e1 e2
  go_wp2_with fail
  rw [← hW4]
  clear hW4 k0 k1 k2 k3 j0 j1 j2 j3 o0 o1
  (with_reducible refine (HJ2.out _ (below_next HST0.out.below HB4.out)).mono ?_)
  rintro e w5 ⟨rfl, hb5⟩
  have HB5 := Lib.hid (below_next HB4.out hb5)
  obtain ⟨o0, o1⟩ := HP.out w5 HB5.out
  clear hb5
  go_wp2_with fail
  clear o0 o1
  (with_reducible refine (HR2.out _ (below_next HST0.out.below HB5.out)).mono ?_)
  rintro e w7 ⟨rfl, hb7⟩
  have HB7 := Lib.hid (below_next (below_next HST0.out.below HB5.out) hb7)
  clear hb7
  go_wp2_with fail
  (with_reducible refine (HH.out _ HB7.out).mono ?_)
  rintro e w9 ⟨rfl, hb9⟩
  have HB9 := Lib.hid (below_next HB7.out hb9)
  clear hb9
  go_wp2
  go_ret
  exact ⟨by rfl, HB9.out⟩
end Go.Proofs.YtnapdhfkgfjjfaaGreatDoor

/- The last step of every law: what was read before the call reads the same behind it, because nothing that was there has turned. -/
namespace Go.Proofs.YtnapdhfkgfjjfaaGreatDoor
open Go Go.ChangeShapes Go.WideShapes Go.ChangeAt Go.RowKit

theorem own : ownKnob Tryz.prog.godebug = none := by kernel_rfl
theorem laidOut : laidOutB Tryz.prog = true := by kernel_rfl

theorem trodAll_below {H : Type} {enc : TypeId × Value → H} {P : Program} (hl : laidOutB P = true) {W W' : World} (hb : Below W.heap.size W W') :
    ∀ (ts : List TypeId) (vs : List Value) (ds : List (DataW H)) (ps : List MemPlace), (∀ t ∈ ts, P.readableRec t = true ∧ t < P.types.size) → (∀ x ∈ ps, x.block < W.heap.size) →
    DataW.TrodAll enc P W 0 (fun _ => true) true ts vs ds ps → DataW.TrodAll enc P W' 0 (fun b => decide (b < W.heap.size)) true ts vs ds ps := by
  intro ts
  induction ts with
  | nil =>
    intro vs ds ps _ _ h
    obtain ⟨rfl, rfl, rfl⟩ := trodAll_nil h
    exact trodAll_mk0
  | cons t ts ih =>
    intro vs ds ps ht hp h
    obtain ⟨v, vs', d, ds', p, q, rfl, rfl, rfl, h1, h2⟩ := trodAll_cons h
    have ht1 := ht t (by simp)
    exact trodAll_cons_mk (Below.trod hl ht1.1 ht1.2 h1 hb (fun x hx => hp x (by simp [hx]))) (ih vs' ds' q (fun t' h' => ht t' (by simp [h'])) (fun x hx => hp x (by simp [hx])) h2)

/-- a law's post, out of 'nothing that was there has turned' -/
theorem law_post {H : Type} {enc : TypeId × Value → H} {P : Program} (hl : laidOutB P = true) {f : Func} {s : ChangeSpec} {W W' : World} {args : Array Value} {ds gs : List (DataW H)} {before : List MemPlace} {tb : TypeId}
    (hW : DataW.Whole enc P f.params.toList s.vars false W args.toList ds gs before) (hv : s.vars = []) (hfn : s.fn H (ds ++ gs) = { results := [.lit (.bool true)], args := ds })
    (hts : ∀ t ∈ f.params.toList, P.readableRec t = true ∧ t < P.types.size) (hres : f.resultTypes = #[tb]) (htb : P.underlying tb = some .bool) (hb : Below W.heap.size W W') :
    s.post enc P f false true false false W args (.bool true) W' := by
  have hlt : ∀ p ∈ before, p.block < W.heap.size := fun p hp => hW.lt p hp
  obtain ⟨p, q, hA, hV, rfl, hfz, hnd⟩ := id hW
  have hV0 := hV
  rw [hv] at hV
  obtain ⟨rfl, rfl⟩ := trodVars_none hV
  refine ⟨ds, [], p ++ [], [], p, [], hW, ?_, ?_, ?_, hb.frame _, fun h => by cases h⟩
  · rw [hfn, hres]
    exact trodAll_mk1 (shut_bool htb true)
  · rw [hfn]
    exact trodAll_below hl hb _ _ _ _ hts (fun x hx => hlt x (by simp [hx])) hA
  · rw [hfn, hv]
    rfl
end Go.Proofs.YtnapdhfkgfjjfaaGreatDoor

/- A slice of integers that is an argument of a law, opened; with its capacity. -/
namespace Go.Proofs.YtnapdhfkgfjjfaaGreatDoor
open Go Go.ChangeShapes Go.WideShapes Go.ChangeAt Go.RowKit Go.Deep Go.Joins

theorem cellsI2 : Tryz.prog.cellsOf 3 = 1 := by kernel_rfl
theorem i64_of2 {n : Int} (h : (Lit.int IntKind.i64 n).wf = true) : -9223372036854775808 ≤ n ∧ n ≤ 9223372036854775807 := by
  simp [Lit.wf, IntKind.min, IntKind.max, IntKind.signed, IntKind.bits] at h
  exact ⟨by omega, by omega⟩
theorem spot_none2 {w : World} {a : Addr} {v : Value} (h : w.cell? a = some v) : a.spot = none := by
  unfold World.cell? at h
  split at h
  · split at h
    · cases h
    · rename_i hs; simpa using hs
  · cases h
theorem add_at2 (a : Addr) (h : a.spot = none) (i : Nat) : a.add i = ⟨a.block, a.off + i, none⟩ := by
  unfold Addr.add
  split
  · rename_i e; subst e; cases a; simp_all
  · rfl
section
variable {H : Type} {enc : TypeId × Value → H} {W : World} {base : Nat}
set_option maxRecDepth 100000 in
theorem open_sl2 {v : Value} {d : DataW H} {p : List MemPlace} (hv : Value.okWide Tryz.prog W .any base 22 v) (h : DataW.Trod enc Tryz.prog W 0 (fun _ => true) true 22 v d p) :
    ∃ A n c zs, v = .slice A n c ∧ Rd W 0 W.heap.size 1 A n (ints zs) ∧ n ≤ 9223372036854775807 ∧ n ≤ c ∧ (∀ z ∈ zs, -9223372036854775808 ≤ z ∧ z ≤ 9223372036854775807) ∧ (A = none → n = 0 ∧ c = 0) := by
  obtain ⟨a0, len, cap, rfl⟩ := okWide_slice Tryz.underlying22 hv
  obtain ⟨fuel, hf⟩ := h
  rcases open_ints Tryz.underlying22 Tryz.underlying3 cellsI2 hf with ⟨hcs, hx⟩ | ⟨a, len', cap', zs, hcs, _, hl, hm, hz, hx, hcell, hwz⟩
  · have hcs : [Value.slice a0 len cap] = [Value.slice none 0 0] := hcs
    simp at hcs
    obtain ⟨rfl, rfl, rfl⟩ := hcs
    exact ⟨none, 0, 0, [], rfl, Rd.nil, by omega, Nat.le_refl _, (fun _ h => by cases h), fun _ => ⟨rfl, rfl⟩⟩
  · have hcs : [Value.slice a0 len cap] = [Value.slice (some a) len' cap'] := hcs
    simp at hcs
    obtain ⟨rfl, rfl, rfl⟩ := hcs
    simp only [if_true] at hz
    obtain ⟨rfl, rfl⟩ : d = _ ∧ p = _ := by simpa using hx
    unfold maxLen at hm
    refine ⟨some a, len, cap, zs.take len, rfl, ⟨by simp [ints]; omega, fun hp => ?_⟩, by omega, by omega, fun z hz' => i64_of2 (hwz z (List.mem_of_mem_take hz')), (fun h => by cases h)⟩
    have h0 := hcell 0 (by omega)
    have hsp := spot_none2 (a := a) (by simpa [Addr.add] using h0)
    have hlt := World.block_lt_of_cell? W _ h0
    rw [add_at2 a hsp] at hlt
    refine ⟨a.block, a.off, by cases a; simp_all, Nat.zero_le _, hlt, fun j u hj => ?_⟩
    have hj' : j < len := by
      have := (List.getElem?_eq_some_iff.1 hj).1
      simp [ints] at this; omega
    have hc := hcell j (by omega)
    rw [add_at2 a hsp] at hc
    rw [hc]
    simp only [ints, List.getElem?_map, List.getElem?_take_of_lt hj', Option.map_eq_some_iff] at hj
    obtain ⟨z, hz1, rfl⟩ := hj
    rw [List.getD_eq_getElem?_getD, hz1]; rfl

set_option maxRecDepth 100000 in
theorem open_ints2 {v : Value} {d : DataW H} {p : List MemPlace} (hv : Value.okWide Tryz.prog W .any base 22 v) (h : DataW.Trod enc Tryz.prog W 0 (fun _ => true) true 22 v d p) :
    ∃ A c zs, v = .slice A zs.length c ∧ Rd W 0 W.heap.size 1 A zs.length (ints zs) ∧ zs.length ≤ c := by
  obtain ⟨A, n, c, zs, rfl, hr, hn, hc, hz, _⟩ := open_sl2 hv h
  obtain rfl : n = zs.length := by have := hr.1; rw [ints_length] at this; omega
  exact ⟨A, c, zs, rfl, hr, hc⟩
end
end Go.Proofs.YtnapdhfkgfjjfaaGreatDoor

/- A slice of integers that is an argument of a law, opened; with its capacity, and no great length. -/
namespace Go.Proofs.YtnapdhfkgfjjfaaGreatDoor
open Go Go.ChangeShapes Go.WideShapes Go.ChangeAt Go.RowKit Go.Deep Go.Joins

theorem bytesI3 : Tryz.prog.bytesOf 3 = 8 := by kernel_rfl
section
variable {H : Type} {enc : TypeId × Value → H} {W : World} {base : Nat}
set_option maxRecDepth 100000 in
theorem open_sl3 {v : Value} {d : DataW H} {p : List MemPlace} (hv : Value.okWide Tryz.prog W .any base 22 v) (h : DataW.Trod enc Tryz.prog W 0 (fun _ => true) true 22 v d p) (hs : ∀ x ∈ d.weights Tryz.prog 22, x ≤ reachBytes) :
    ∃ A n c zs, v = .slice A n c ∧ Rd W 0 W.heap.size 1 A n (ints zs) ∧ n ≤ 4000000000000000000 ∧ n ≤ c ∧ (∀ z ∈ zs, -9223372036854775808 ≤ z ∧ z ≤ 9223372036854775807) ∧ (A = none → n = 0 ∧ c = 0) := by
  obtain ⟨a0, len, cap, rfl⟩ := okWide_slice Tryz.underlying22 hv
  obtain ⟨fuel, hf⟩ := h
  rcases open_ints Tryz.underlying22 Tryz.underlying3 cellsI2 hf with ⟨hcs, hx⟩ | ⟨a, len', cap', zs, hcs, _, hl, hm, hz, hx, hcell, hwz⟩
  · have hcs : [Value.slice a0 len cap] = [Value.slice none 0 0] := hcs
    simp at hcs
    obtain ⟨rfl, rfl, rfl⟩ := hcs
    exact ⟨none, 0, 0, [], rfl, Rd.nil, by omega, Nat.le_refl _, (fun _ h => by cases h), fun _ => ⟨rfl, rfl⟩⟩
  · have hcs : [Value.slice a0 len cap] = [Value.slice (some a) len' cap'] := hcs
    simp at hcs
    obtain ⟨rfl, rfl, rfl⟩ := hcs
    simp only [if_true] at hz
    obtain ⟨rfl, rfl⟩ : d = _ ∧ p = _ := by simpa using hx
    have hw := hs _ (by simp only [DataW.weights, Tryz.underlying22, bytesI3]; exact List.mem_cons_self ..)
    simp only [lits, List.length_map, List.length_take, List.length_drop] at hw
    unfold reachBytes at hw
    refine ⟨some a, len, cap, zs.take len, rfl, ⟨by simp [ints]; omega, fun hp => ?_⟩, by omega, by omega, fun z hz' => i64_of2 (hwz z (List.mem_of_mem_take hz')), (fun h => by cases h)⟩
    have h0 := hcell 0 (by omega)
    have hsp := spot_none2 (a := a) (by simpa [Addr.add] using h0)
    have hlt := World.block_lt_of_cell? W _ h0
    rw [add_at2 a hsp] at hlt
    refine ⟨a.block, a.off, by cases a; simp_all, Nat.zero_le _, hlt, fun j u hj => ?_⟩
    have hj' : j < len := by
      have := (List.getElem?_eq_some_iff.1 hj).1
      simp [ints] at this; omega
    have hc := hcell j (by omega)
    rw [add_at2 a hsp] at hc
    rw [hc]
    simp only [ints, List.getElem?_map, List.getElem?_take_of_lt hj', Option.map_eq_some_iff] at hj
    obtain ⟨z, hz1, rfl⟩ := hj
    rw [List.getD_eq_getElem?_getD, hz1]; rfl

set_option maxRecDepth 100000 in
theorem open_ints3 {v : Value} {d : DataW H} {p : List MemPlace} (hv : Value.okWide Tryz.prog W .any base 22 v) (h : DataW.Trod enc Tryz.prog W 0 (fun _ => true) true 22 v d p) (hs : ∀ x ∈ d.weights Tryz.prog 22, x ≤ reachBytes) :
    ∃ A c zs, v = .slice A zs.length c ∧ Rd W 0 W.heap.size 1 A zs.length (ints zs) ∧ zs.length ≤ c ∧ zs.length ≤ 4000000000000000000 := by
  obtain ⟨A, n, c, zs, rfl, hr, hn, hc, hz, _⟩ := open_sl3 hv h hs
  obtain rfl : n = zs.length := by have := hr.1; rw [ints_length] at this; omega
  exact ⟨A, c, zs, rfl, hr, hc, hn⟩
end
end Go.Proofs.YtnapdhfkgfjjfaaGreatDoor

/- Arguments of a law, opened: a ratio. -/
namespace Go.Proofs.YtnapdhfkgfjjfaaGreatDoor
open Go Go.ChangeShapes Go.WideShapes Go.ChangeAt Go.RowKit Go.Deep Go.Joins

theorem cellsRt : Tryz.prog.cellsOf 31 = 2 := by kernel_rfl
section
variable {H : Type} {enc : TypeId × Value → H} {W : World} {base : Nat}
set_option maxRecDepth 100000 in
theorem open_ratio {v : Value} {d : DataW H} {p : List MemPlace} (hv : Value.okWide Tryz.prog W .any base 31 v) (h : DataW.Trod enc Tryz.prog W 0 (fun _ => true) true 31 v d p) (hs : ∀ x ∈ d.weights Tryz.prog 31, x ≤ reachBytes) :
    ∃ a b : ByteArray, v = .agg #[.string a, .string b] ∧ a.size ≤ 140737488351232 ∧ b.size ≤ 140737488351232 := by
  obtain ⟨c0, c1, y0, y1, m, rfl, rfl, rfl, hy0, hy1⟩ := open_agg2 Tryz.underlying31 (by kernel_rfl) cellsRt hv h
  obtain ⟨a, e0, _, ha⟩ := DataW.trod_string Tryz.underlying9 hy0
  obtain ⟨b, e1, _, hb⟩ := DataW.trod_string Tryz.underlying9 hy1
  simp at e0 e1
  subst e0 e1
  obtain ⟨d0, m0⟩ := y0
  obtain ⟨d1, m1⟩ := y1
  have f0 := (DataW.trod_string Tryz.underlying9 hy0)
  have f1 := (DataW.trod_string Tryz.underlying9 hy1)
  obtain ⟨a', ea, xa, _⟩ := f0
  obtain ⟨b', eb, xb, _⟩ := f1
  simp only [List.cons.injEq, Value.string.injEq, and_true] at ea eb
  subst ea eb
  simp only [Prod.mk.injEq] at xa xb
  obtain ⟨rfl, _⟩ := xa
  obtain ⟨rfl, _⟩ := xb
  have hw := hs a.data.toList.length (by unfold DataW.weights; rw [Tryz.underlying31]; simp [DataW.weightsEach, DataW.weights])
  have hw2 := hs b.data.toList.length (by unfold DataW.weights; rw [Tryz.underlying31]; simp [DataW.weightsEach, DataW.weights])
  have ea : a.size = a.data.toList.length := Array.length_toList.symm
  have eb : b.size = b.data.toList.length := Array.length_toList.symm
  unfold reachBytes at hw hw2
  exact ⟨a, b, rfl, by omega, by omega⟩
end
end Go.Proofs.YtnapdhfkgfjjfaaGreatDoor

/- What every law behind the door shares: the table that its row lists, a world for the witness, and the card out of the row's statement. -/
namespace Go.Proofs.YtnapdhfkgfjjfaaGreatDoor
open Go Go.ChangeShapes Go.WideShapes Go.ChangeAt Go.RowKit

theorem gPow : Tryz.prog.globalNamed "internal/strconv.uint64pow10" = some 2 := by kernel_rfl
theorem gPowType : (Tryz.prog.globals[2]?).map (·.type) = some 201 := by kernel_rfl
theorem cellsPow : Tryz.prog.cellsOf 201 = 20 := by kernel_rfl
theorem cellsU : Tryz.prog.cellsOf 110 = 1 := by kernel_rfl

/-- the list of the rows of this seat -/
abbrev laid3 : List (String × DataW Unit) := [("math/bits.deBruijn32tab", Rows.laid_math_bits_deBruijn32tab), ("math/bits.deBruijn64tab", Rows.laid_math_bits_deBruijn64tab), ("internal/strconv.uint64pow10", Rows.laid_internal_strconv_uint64pow10), ("unicode/utf8.acceptRanges", Rows.laid_unicode_utf8_acceptRanges), ("strconv.ErrRange", Rows.laid_strconv_ErrRange), ("strconv.ErrSyntax", Rows.laid_strconv_ErrSyntax), ("unicode/utf8.first", Rows.laid_unicode_utf8_first)]

theorem table {W : World} (h0 : laidMetH Tryz.prog laid3 W) : Tab W.heap.size W := by
  have h : laidMet Tryz.prog laid3 W := h0
  refine Lib.tabBelow_of_tabIs ?_
  obtain ⟨ps, ⟨g1, t1, cs1, fu1, p1, q1, _, _, _, _, ⟨g2, t2, cs2, fu2, p2, q2, _, _, _, _, ⟨g', t', cs, fuel, p, q, hg', ht', hvar, hd, _, _⟩, _⟩, _⟩, _⟩ := h
  obtain rfl := Option.some.inj (gPow.symm.trans hg')
  obtain rfl := Option.some.inj (gPowType.symm.trans ht')
  unfold Lib.TabIs
  rw [hvar, ← Lib.cells_of_tab Tryz.underlying201 Tryz.underlying110 cellsU cellsPow hd]

/-- A WORLD FOR THE WITNESS: the settled one, the listed variables holding what their initialisers lay. -/
noncomputable def laidWorld (os : Os) : World := World.laidAll Tryz.prog os laid3
theorem laid_met (os : Os) (args : Array Value) : laidMet Tryz.prog laid3 ((laidWorld os).forCall (fun _ _ => 0) ⟨#[], args, []⟩).memory :=
  laidMet_laidAll args (by kernel_rfl) (by kernel_rfl)
theorem i64_wf {n : Int} (h : (Lit.int IntKind.i64 n).wf = true) : I64 n := by
  simp [Lit.wf, IntKind.min, IntKind.max, IntKind.signed, IntKind.bits] at h
  exact ⟨by omega, by omega⟩
end Go.Proofs.YtnapdhfkgfjjfaaGreatDoor
