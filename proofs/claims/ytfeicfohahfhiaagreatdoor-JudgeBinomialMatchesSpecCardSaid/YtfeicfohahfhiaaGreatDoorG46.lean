import Derived.Test.YtfeicfohahfhiaaGreatDoorJBin
import Derived.Test.YtfeicfohahfhiaaGreatDoorG44
import Derived.Test.YtfeicfohahfhiaaGreatDoorProg
import Derived.Deep.SlicePairs
import Derived.Lib.SmallJoins
import Derived.ChangeMaps5
import Derived.SizedLaws
import Derived.Test.YtfeicfohahfhiaaGreatDoorRows
import Derived.WalkKit
import Derived.ProofKit
import Derived.OpenShut
import Derived.JoinedCond
import Derived.Test.YtfeicfohahfhiaaGreatDoorCards
import Derived.Test.YtfeicfohahfhiaaGreatDoorTie
import Derived.Test.YtfeicfohahfhiaaGreatDoorG31
import Derived.Lay
import Derived.Deep.DeepHandedRow
import Derived.Lib.LaidTab
/- Package dynamometerlaw10: same, halves. -/
namespace Go.Proofs.YtfeicfohahfhiaaGreatDoor
open Go Go.RowKit Go.Proofs

set_option maxHeartbeats 8000000 in
set_option maxRecDepth 100000 in
theorem same_any (Sa Sb : ByteArray) (e : Int) (w : World) :
    Calls Tryz.prog 8 #[.agg #[.string Sa, .string Sb], .int .i64 e, .agg #[.string Sa, .string Sb], .int .i64 e] w fun e w' => e = .returned (.bool true) ∧ Below w.heap.size w w' := by
  have HF := Lib.hid (fun o p => (show Below w.heap.size w ((w.alloc o).alloc p) from two_on o p))
  go_enter Tryz.func8, Tryz.ntmps8
  go_wp2
  go_ret
  exact ⟨by rfl, HF.out _ _⟩
set_option maxHeartbeats 8000000 in
set_option maxRecDepth 100000 in
theorem halves_any (w : World) (htab : Tab w.heap.size w) :
    Calls Tryz.prog 9 #[] w fun e w' => e = .returned (.bool true) ∧ Below w.heap.size w w' := by
  have HB := Lib.hid (jBinomial_any ⟨#[49]⟩ ⟨#[50]⟩ [49] [50] 3 1 w rfl rfl (by decide) (by decide) (by omega) (by omega) htab)
  rw [bin_half.1, bin_half.2] at HB
  rw [show ratOf ([49], [50]) = .agg #[.string ⟨#[49]⟩, .string ⟨#[50]⟩] from rfl] at HB
  have HF := Lib.hid (fun W (hb : Below w.heap.size w W) o => (show Below w.heap.size w (W.alloc o) from hb.alloc hb.size _))
  go_enter Tryz.func9, Tryz.ntmps9
  go_wp2_with fail
  (with_reducible refine (HB.out).mono ?_)
  rintro e w1 ⟨rfl, hb1⟩
  have HB1 := Lib.hid hb1
  clear hb1
  go_wp2
  go_ret
  exact ⟨by rfl, HF.out _ HB1.out _⟩
end Go.Proofs.YtfeicfohahfhiaaGreatDoor

/- JudgeBinomialMatchesSpec: the law's walk. -/
namespace Go.Proofs.YtfeicfohahfhiaaGreatDoor
open Go Go.RowKit Go.Proofs

set_option maxHeartbeats 8000000 in
set_option maxRecDepth 100000 in
theorem lawBin_any (Sa Sb : ByteArray) (n k : Int) (w : World) (htab : Tab w.heap.size w) (ha : Sa.size ≤ 9223372036854775800) (hb : Sb.size ≤ 9223372036854775800) (hk0 : -9223372036854775808 ≤ k) (hk1 : k ≤ 9223372036854775807) :
    Calls Tryz.prog 3 #[.int .i64 n, .int .i64 k, .agg #[.string Sa, .string Sb]] w fun e w' => e = .returned (.bool true) ∧ Below w.heap.size w w' := by
  have HJ := Lib.hid (fun W (hW : Below w.heap.size w W) => jBinomial_any Sa Sb Sa.data.toList Sb.data.toList n k W rfl rfl ha hb hk0 hk1 ((htab.on hW).mono hW.size))
  have HR := Lib.hid (fun W (hW : Below w.heap.size w W) => rBinomial_any Sa Sb Sa.data.toList Sb.data.toList n k W rfl rfl ha hb hk0 hk1 ((htab.on hW).mono hW.size))
  have HH := Lib.hid (fun W (hW : Below w.heap.size w W) => halves_any W ((htab.on hW).mono hW.size))
  obtain ⟨V, hV⟩ : ∃ V, V = binV n k Sa.data.toList Sb.data.toList := ⟨_, rfl⟩
  obtain ⟨E, hE⟩ : ∃ E, E = binE n k Sa.data.toList Sb.data.toList := ⟨_, rfl⟩
  rw [← hV, ← hE] at HJ HR
  have hrt : ratOf V = .agg #[.string ⟨V.1.toArray⟩, .string ⟨V.2.toArray⟩] := rfl
  obtain ⟨R1, hR1⟩ : ∃ R : ByteArray, R = ⟨V.1.toArray⟩ := ⟨_, rfl⟩
  obtain ⟨R2, hR2⟩ : ∃ R : ByteArray, R = ⟨V.2.toArray⟩ := ⟨_, rfl⟩
  rw [hrt, ← hR1, ← hR2] at HJ HR
  obtain ⟨W0, hW0⟩ : ∃ W0, W0 = w.alloc (.cells #[.string Sa, .string Sb] 23) := ⟨_, rfl⟩
  have HST0 := Lib.hid (show St w W0 [(w.heap.size, .cells #[.string Sa, .string Sb] 23 (0, 0))] by rw [hW0]; exact (St.start w).alloc _ _ rfl)
  have p0 := HST0.out.cell 0 0 rfl rfl
  have p1 := HST0.out.cell 0 1 rfl rfl
  have HS := Lib.hid (fun W => same_any R1 R2 E W)
  clear htab hV hE hrt hR1 hR2
  go_enter Tryz.func3, Tryz.ntmps3
  go_wp2_with fail
  rw [← hW0]
  clear hW0
  go_wp2_with fail
  (with_reducible refine (HJ.out _ HST0.out.below).mono ?_)
  rintro e w1 ⟨rfl, hb1⟩
  have hST1 := HST0.out.call hb1
  obtain ⟨W2, hW2⟩ : ∃ W2, W2 = w1.alloc (.cells #[.string R1, .string R2] 23) := ⟨_, rfl⟩
  have HST2 := Lib.hid (show St w W2 [(w.heap.size, .cells #[.string Sa, .string Sb] 23 (0, 0)), (w1.heap.size, .cells #[.string R1, .string R2] 23 (0, 0))] by rw [hW2]; exact hST1.alloc _ _ rfl)
  have o0 := HST2.out.cell 0 0 rfl rfl
  have o1 := HST2.out.cell 0 1 rfl rfl
  rw [hW2] at o0 o1
  clear p0 p1 hb1 hST1
  go_wp2_with fail
  rw [← hW2]
  clear hW2 o0 o1
  (with_reducible refine (HR.out _ HST2.out.below).mono ?_)
  rintro e w3 ⟨rfl, hb3⟩
  have hST3 := HST2.out.call hb3
  obtain ⟨W4, hW4⟩ : ∃ W4, W4 = w3.alloc (.cells #[.string R1, .string R2] 23) := ⟨_, rfl⟩
  have HST4 := Lib.hid (show St w W4 [(w.heap.size, .cells #[.string Sa, .string Sb] 23 (0, 0)), (w1.heap.size, .cells #[.string R1, .string R2] 23 (0, 0)), (w3.heap.size, .cells #[.string R1, .string R2] 23 (0, 0))] by rw [hW4]; exact hST3.alloc _ _ rfl)
  have o0 := HST4.out.cell 1 0 rfl rfl
  have o1 := HST4.out.cell 1 1 rfl rfl
  rw [hW4] at o0 o1
  clear hb3 hST3
  go_wp2_with fail
  rw [← hW4]
  clear hW4 o0 o1
  (with_reducible refine (HS.out _).mono ?_)
  rintro e w5 ⟨rfl, hb5⟩
  have HB5 := Lib.hid (below_next HST4.out.below hb5)
  clear hb5
  go_wp2_with fail
  (with_reducible refine (HH.out _ HB5.out).mono ?_)
  rintro e w6 ⟨rfl, hb6⟩
  have HB6 := Lib.hid (below_next HB5.out hb6)
  clear hb6
  go_wp2
  go_ret
  exact ⟨by rfl, HB6.out⟩
end Go.Proofs.YtfeicfohahfhiaaGreatDoor

/- Arguments of a law, opened: a ratio. -/
namespace Go.Proofs.YtfeicfohahfhiaaGreatDoor
open Go Go.ChangeShapes Go.WideShapes Go.ChangeAt Go.RowKit Go.Deep Go.Joins

theorem cellsRt : Tryz.prog.cellsOf 23 = 2 := by kernel_rfl
section
variable {H : Type} {enc : TypeId × Value → H} {W : World} {base : Nat}
set_option maxRecDepth 100000 in
theorem open_ratio {v : Value} {d : DataW H} {p : List MemPlace} (hv : Value.okWide Tryz.prog W .any base 23 v) (h : DataW.Trod enc Tryz.prog W 0 (fun _ => true) true 23 v d p) (hs : ∀ x ∈ d.weights Tryz.prog 23, x ≤ reachBytes) :
    ∃ a b : ByteArray, v = .agg #[.string a, .string b] ∧ a.size ≤ 140737488351232 ∧ b.size ≤ 140737488351232 := by
  obtain ⟨c0, c1, y0, y1, m, rfl, rfl, rfl, hy0, hy1⟩ := open_agg2 Tryz.underlying23 (by kernel_rfl) cellsRt hv h
  obtain ⟨a, e0, _, ha⟩ := DataW.trod_string Tryz.underlying9 hy0
  obtain ⟨b, e1, _, hb⟩ := DataW.trod_string Tryz.underlying9 hy1
  simp at e0 e1
  subst e0 e1
  obtain ⟨d0, m0⟩ := y0
  obtain ⟨d1, m1⟩ := y1
  have f0 := (DataW.trod_string Tryz.underlying9 hy0)
  have f1 := (DataW.trod_string Tryz.underlying9 hy1)
  obtain ⟨a', ea, xa, _⟩ := f0
  obtain ⟨b', eb, xb, _⟩ := f1
  simp only [List.cons.injEq, Value.string.injEq, and_true] at ea eb
  subst ea eb
  simp only [Prod.mk.injEq] at xa xb
  obtain ⟨rfl, _⟩ := xa
  obtain ⟨rfl, _⟩ := xb
  have hw := hs a.data.toList.length (by unfold DataW.weights; rw [Tryz.underlying23]; simp [DataW.weightsEach, DataW.weights])
  have hw2 := hs b.data.toList.length (by unfold DataW.weights; rw [Tryz.underlying23]; simp [DataW.weightsEach, DataW.weights])
  have ea : a.size = a.data.toList.length := Array.length_toList.symm
  have eb : b.size = b.data.toList.length := Array.length_toList.symm
  unfold reachBytes at hw hw2
  exact ⟨a, b, rfl, by omega, by omega⟩
end
end Go.Proofs.YtfeicfohahfhiaaGreatDoor

/- The last step of every law: what was read before the call reads the same behind it, because nothing that was there has turned. -/
namespace Go.Proofs.YtfeicfohahfhiaaGreatDoor
open Go Go.ChangeShapes Go.WideShapes Go.ChangeAt Go.RowKit

theorem own : ownKnob Tryz.prog.godebug = none := by kernel_rfl
theorem laidOut : laidOutB Tryz.prog = true := by kernel_rfl

theorem trodAll_below {H : Type} {enc : TypeId × Value → H} {P : Program} (hl : laidOutB P = true) {W W' : World} (hb : Below W.heap.size W W') :
    ∀ (ts : List TypeId) (vs : List Value) (ds : List (DataW H)) (ps : List MemPlace), (∀ t ∈ ts, P.readableRec t = true ∧ t < P.types.size) → (∀ x ∈ ps, x.block < W.heap.size) →
    DataW.TrodAll enc P W 0 (fun _ => true) true ts vs ds ps → DataW.TrodAll enc P W' 0 (fun b => decide (b < W.heap.size)) true ts vs ds ps := by
  intro ts
  induction ts with
  | nil =>
    intro vs ds ps _ _ h
    obtain ⟨rfl, rfl, rfl⟩ := trodAll_nil h
    exact trodAll_mk0
  | cons t ts ih =>
    intro vs ds ps ht hp h
    obtain ⟨v, vs', d, ds', p, q, rfl, rfl, rfl, h1, h2⟩ := trodAll_cons h
    have ht1 := ht t (by simp)
    exact trodAll_cons_mk (Below.trod hl ht1.1 ht1.2 h1 hb (fun x hx => hp x (by simp [hx]))) (ih vs' ds' q (fun t' h' => ht t' (by simp [h'])) (fun x hx => hp x (by simp [hx])) h2)

/-- a law's post, out of 'nothing that was there has turned' -/
theorem law_post {H : Type} {enc : TypeId × Value → H} {P : Program} (hl : laidOutB P = true) {f : Func} {s : ChangeSpec} {W W' : World} {args : Array Value} {ds gs : List (DataW H)} {before : List MemPlace} {tb : TypeId}
    (hW : DataW.Whole enc P f.params.toList s.vars false W args.toList ds gs before) (hv : s.vars = []) (hfn : s.fn H (ds ++ gs) = { results := [.lit (.bool true)], args := ds })
    (hts : ∀ t ∈ f.params.toList, P.readableRec t = true ∧ t < P.types.size) (hres : f.resultTypes = #[tb]) (htb : P.underlying tb = some .bool) (hb : Below W.heap.size W W') :
    s.post enc P f false true false false W args (.bool true) W' := by
  have hlt : ∀ p ∈ before, p.block < W.heap.size := fun p hp => hW.lt p hp
  obtain ⟨p, q, hA, hV, rfl, hfz, hnd⟩ := id hW
  have hV0 := hV
  rw [hv] at hV
  obtain ⟨rfl, rfl⟩ := trodVars_none hV
  refine ⟨ds, [], p ++ [], [], p, [], hW, ?_, ?_, ?_, hb.frame _, fun h => by cases h⟩
  · rw [hfn, hres]
    exact trodAll_mk1 (shut_bool htb true)
  · rw [hfn]
    exact trodAll_below hl hb _ _ _ _ hts (fun x hx => hlt x (by simp [hx])) hA
  · rw [hfn, hv]
    rfl
end Go.Proofs.YtfeicfohahfhiaaGreatDoor

/- What every law behind the door shares: the table that its row lists, a world for the witness, and the card out of the row's statement. -/
namespace Go.Proofs.YtfeicfohahfhiaaGreatDoor
open Go Go.ChangeShapes Go.WideShapes Go.ChangeAt Go.RowKit

theorem gPow : Tryz.prog.globalNamed "internal/strconv.uint64pow10" = some 2 := by kernel_rfl
theorem gPowType : (Tryz.prog.globals[2]?).map (·.type) = some 157 := by kernel_rfl
theorem cellsPow : Tryz.prog.cellsOf 157 = 20 := by kernel_rfl
theorem cellsU : Tryz.prog.cellsOf 82 = 1 := by kernel_rfl

/-- the list of the rows of this seat -/
abbrev laid3 : List (String × DataW Unit) := [("math/bits.deBruijn32tab", Rows.laid_math_bits_deBruijn32tab), ("math/bits.deBruijn64tab", Rows.laid_math_bits_deBruijn64tab), ("internal/strconv.uint64pow10", Rows.laid_internal_strconv_uint64pow10), ("unicode/utf8.acceptRanges", Rows.laid_unicode_utf8_acceptRanges), ("strconv.ErrRange", Rows.laid_strconv_ErrRange), ("strconv.ErrSyntax", Rows.laid_strconv_ErrSyntax), ("unicode/utf8.first", Rows.laid_unicode_utf8_first)]

theorem table {W : World} (h0 : laidMetH Tryz.prog laid3 W) : Tab W.heap.size W := by
  have h : laidMet Tryz.prog laid3 W := h0
  refine Lib.tabBelow_of_tabIs ?_
  obtain ⟨ps, ⟨g1, t1, cs1, fu1, p1, q1, _, _, _, _, ⟨g2, t2, cs2, fu2, p2, q2, _, _, _, _, ⟨g', t', cs, fuel, p, q, hg', ht', hvar, hd, _, _⟩, _⟩, _⟩, _⟩ := h
  obtain rfl := Option.some.inj (gPow.symm.trans hg')
  obtain rfl := Option.some.inj (gPowType.symm.trans ht')
  unfold Lib.TabIs
  rw [hvar, ← Lib.cells_of_tab Tryz.underlying157 Tryz.underlying82 cellsU cellsPow hd]

/-- A WORLD FOR THE WITNESS: the settled one, the listed variables holding what their initialisers lay. -/
noncomputable def laidWorld (os : Os) : World := World.laidAll Tryz.prog os laid3
theorem laid_met (os : Os) (args : Array Value) : laidMet Tryz.prog laid3 ((laidWorld os).forCall (fun _ _ => 0) ⟨#[], args, []⟩).memory :=
  laidMet_laidAll args (by kernel_rfl) (by kernel_rfl)
theorem i64_wf {n : Int} (h : (Lit.int IntKind.i64 n).wf = true) : I64 n := by
  simp [Lit.wf, IntKind.min, IntKind.max, IntKind.signed, IntKind.bits] at h
  exact ⟨by omega, by omega⟩
end Go.Proofs.YtfeicfohahfhiaaGreatDoor
