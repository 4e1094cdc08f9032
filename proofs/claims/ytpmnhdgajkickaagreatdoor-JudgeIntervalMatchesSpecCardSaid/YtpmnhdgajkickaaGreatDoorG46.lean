import Derived.Test.YtpmnhdgajkickaaGreatDoorG42
import Derived.Test.YtpmnhdgajkickaaGreatDoorJItv
import Derived.Test.YtpmnhdgajkickaaGreatDoorR10Itv
import Derived.Test.YtpmnhdgajkickaaGreatDoorProg
import Derived.Deep.SlicePairs
import Derived.Lib.SmallJoins
import Derived.ChangeMaps5
import Derived.SizedLaws
import Derived.Test.YtpmnhdgajkickaaGreatDoorRows
import Derived.WalkKit
import Derived.ProofKit
import Derived.OpenShut
import Derived.JoinedCond
import Derived.Test.YtpmnhdgajkickaaGreatDoorCards
import Derived.Test.YtpmnhdgajkickaaGreatDoorTie
import Derived.Test.YtpmnhdgajkickaaGreatDoorG31
import Derived.Lay
import Derived.Deep.DeepHandedRow
import Derived.Lib.LaidTab
/- JudgeIntervalMatchesSpec: the law's walk. -/
namespace Go.Proofs.YtpmnhdgajkickaaGreatDoor
open Go Go.RowKit Go.Proofs

theorem itvV_form (n : Int) (a b c d : List UInt8) : ∃ (lo hi : Int) (f : Bool) (e : Int), itvV n a b c d = .tuple #[.int .i64 lo, .int .i64 hi, .bool f, .int .i64 e] := by
  unfold itvV
  split
  · exact ⟨_, _, _, _, rfl⟩
  · split
    · exact ⟨_, _, _, _, rfl⟩
    · exact ⟨_, _, _, _, rfl⟩
set_option maxHeartbeats 8000000 in
set_option maxRecDepth 100000 in
theorem lawItv_any (Sa Sb Sc Sd : ByteArray) (n : Int) (w : World) (htab : Tab w.heap.size w) (ha : Sa.size ≤ 9223372036854775800) (hb : Sb.size ≤ 9223372036854775800) (hc : Sc.size ≤ 9223372036854775800) (hd : Sd.size ≤ 9223372036854775800) :
    Calls Tryz.prog 3 #[.int .i64 n, .agg #[.string Sa, .string Sb], .agg #[.string Sc, .string Sd]] w fun e w' => e = .returned (.bool true) ∧ Below w.heap.size w w' := by
  obtain ⟨W0, hW0⟩ : ∃ W0, W0 = (w.alloc (.cells #[.string Sa, .string Sb] 23)).alloc (.cells #[.string Sc, .string Sd] 23) := ⟨_, rfl⟩
  have HST0 := Lib.hid (show St w W0 [(w.heap.size, .cells #[.string Sa, .string Sb] 23 (0, 0)), (w.heap.size + 1, .cells #[.string Sc, .string Sd] 23 (0, 0))] by rw [hW0]; exact ((St.start w).alloc _ _ rfl).alloc _ _ (by simp))
  have HK := Lib.hid (show ∀ X, Below W0.heap.size W0 X → X.cell? ⟨w.heap.size, 0, none⟩ = some (.string Sa) ∧ X.cell? ⟨w.heap.size, 1, none⟩ = some (.string Sb) ∧ X.cell? ⟨w.heap.size + 1, 0, none⟩ = some (.string Sc) ∧ X.cell? ⟨w.heap.size + 1, 1, none⟩ = some (.string Sd) from fun X hX => ⟨(HST0.out.call hX).cell 0 0 rfl rfl, (HST0.out.call hX).cell 0 1 rfl rfl, (HST0.out.call hX).cell 1 0 rfl rfl, (HST0.out.call hX).cell 1 1 rfl rfl⟩)
  obtain ⟨p0, p1, p2, p3⟩ := HK.out W0 (Below.refl _ _)
  have HJ := Lib.hid (fun W => jInterval_any Sa Sb Sc Sd Sa.data.toList Sb.data.toList Sc.data.toList Sd.data.toList n W rfl rfl rfl rfl ha hb hc hd)
  have HR := Lib.hid (fun W => rInterval_any Sa Sb Sc Sd Sa.data.toList Sb.data.toList Sc.data.toList Sd.data.toList n W rfl rfl rfl rfl ha hb hc hd)
  have HH := Lib.hid (fun W (hW : Below w.heap.size w W) => halves_any W ((htab.on hW).mono hW.size))
  obtain ⟨lo, hi, f, e0, hv⟩ := itvV_form n Sa.data.toList Sb.data.toList Sc.data.toList Sd.data.toList
  rw [hv] at HJ HR
  clear hv ha hb hc hd htab
  cases f
  all_goals go_enter Tryz.func3, Tryz.ntmps3
  all_goals go_wp2_with fail
  all_goals rw [← hW0]
  all_goals clear hW0
  all_goals go_wp2_with fail
  all_goals (with_reducible refine (HJ.out _).mono ?_)
  all_goals rintro e w1 ⟨rfl, hb1⟩
  all_goals have HB1 := Lib.hid hb1
  all_goals clear p0 p1 p2 p3
  all_goals obtain ⟨p0, p1, p2, p3⟩ := HK.out w1 hb1
  all_goals clear hb1
  all_goals go_wp2_with fail
  all_goals (with_reducible refine (HR.out _).mono ?_)
  all_goals rintro e w2 ⟨rfl, hb2⟩
  all_goals have HB2 := Lib.hid (below_next HST0.out.below (below_next HB1.out hb2))
  all_goals clear p0 p1 p2 p3 hb2
  all_goals go_wp2_with fail
  all_goals (with_reducible refine (HH.out _ HB2.out).mono ?_)
  all_goals rintro e w3 ⟨rfl, hb3⟩
  all_goals go_wp2
  all_goals go_ret
  all_goals exact ⟨by rfl, below_next HB2.out hb3⟩
end Go.Proofs.YtpmnhdgajkickaaGreatDoor

/- Arguments of a law, opened: a ratio. -/
namespace Go.Proofs.YtpmnhdgajkickaaGreatDoor
open Go Go.ChangeShapes Go.WideShapes Go.ChangeAt Go.RowKit Go.Deep Go.Joins

theorem cellsRt : Tryz.prog.cellsOf 23 = 2 := by kernel_rfl
section
variable {H : Type} {enc : TypeId × Value → H} {W : World} {base : Nat}
set_option maxRecDepth 100000 in
theorem open_ratio {v : Value} {d : DataW H} {p : List MemPlace} (hv : Value.okWide Tryz.prog W .any base 23 v) (h : DataW.Trod enc Tryz.prog W 0 (fun _ => true) true 23 v d p) (hs : ∀ x ∈ d.weights Tryz.prog 23, x ≤ reachBytes) :
    ∃ a b : ByteArray, v = .agg #[.string a, .string b] ∧ a.size ≤ 140737488351232 ∧ b.size ≤ 140737488351232 := by
  obtain ⟨c0, c1, y0, y1, m, rfl, rfl, rfl, hy0, hy1⟩ := open_agg2 Tryz.underlying23 (by kernel_rfl) cellsRt hv h
  obtain ⟨a, e0, _, ha⟩ := DataW.trod_string Tryz.underlying9 hy0
  obtain ⟨b, e1, _, hb⟩ := DataW.trod_string Tryz.underlying9 hy1
  simp at e0 e1
  subst e0 e1
  obtain ⟨d0, m0⟩ := y0
  obtain ⟨d1, m1⟩ := y1
  have f0 := (DataW.trod_string Tryz.underlying9 hy0)
  have f1 := (DataW.trod_string Tryz.underlying9 hy1)
  obtain ⟨a', ea, xa, _⟩ := f0
  obtain ⟨b', eb, xb, _⟩ := f1
  simp only [List.cons.injEq, Value.string.injEq, and_true] at ea eb
  subst ea eb
  simp only [Prod.mk.injEq] at xa xb
  obtain ⟨rfl, _⟩ := xa
  obtain ⟨rfl, _⟩ := xb
  have hw := hs a.data.toList.length (by unfold DataW.weights; rw [Tryz.underlying23]; simp [DataW.weightsEach, DataW.weights])
  have hw2 := hs b.data.toList.length (by unfold DataW.weights; rw [Tryz.underlying23]; simp [DataW.weightsEach, DataW.weights])
  have ea : a.size = a.data.toList.length := Array.length_toList.symm
  have eb : b.size = b.data.toList.length := Array.length_toList.symm
  unfold reachBytes at hw hw2
  exact ⟨a, b, rfl, by omega, by omega⟩
end
end Go.Proofs.YtpmnhdgajkickaaGreatDoor

/- The last step of every law: what was read before the call reads the same behind it, because nothing that was there has turned. -/
namespace Go.Proofs.YtpmnhdgajkickaaGreatDoor
open Go Go.ChangeShapes Go.WideShapes Go.ChangeAt Go.RowKit

theorem own : ownKnob Tryz.prog.godebug = none := by kernel_rfl
theorem laidOut : laidOutB Tryz.prog = true := by kernel_rfl

theorem trodAll_below {H : Type} {enc : TypeId × Value → H} {P : Program} (hl : laidOutB P = true) {W W' : World} (hb : Below W.heap.size W W') :
    ∀ (ts : List TypeId) (vs : List Value) (ds : List (DataW H)) (ps : List MemPlace), (∀ t ∈ ts, P.readableRec t = true ∧ t < P.types.size) → (∀ x ∈ ps, x.block < W.heap.size) →
    DataW.TrodAll enc P W 0 (fun _ => true) true ts vs ds ps → DataW.TrodAll enc P W' 0 (fun b => decide (b < W.heap.size)) true ts vs ds ps := by
  intro ts
  induction ts with
  | nil =>
    intro vs ds ps _ _ h
    obtain ⟨rfl, rfl, rfl⟩ := trodAll_nil h
    exact trodAll_mk0
  | cons t ts ih =>
    intro vs ds ps ht hp h
    obtain ⟨v, vs', d, ds', p, q, rfl, rfl, rfl, h1, h2⟩ := trodAll_cons h
    have ht1 := ht t (by simp)
    exact trodAll_cons_mk (Below.trod hl ht1.1 ht1.2 h1 hb (fun x hx => hp x (by simp [hx]))) (ih vs' ds' q (fun t' h' => ht t' (by simp [h'])) (fun x hx => hp x (by simp [hx])) h2)

/-- a law's post, out of 'nothing that was there has turned' -/
theorem law_post {H : Type} {enc : TypeId × Value → H} {P : Program} (hl : laidOutB P = true) {f : Func} {s : ChangeSpec} {W W' : World} {args : Array Value} {ds gs : List (DataW H)} {before : List MemPlace} {tb : TypeId}
    (hW : DataW.Whole enc P f.params.toList s.vars false W args.toList ds gs before) (hv : s.vars = []) (hfn : s.fn H (ds ++ gs) = { results := [.lit (.bool true)], args := ds })
    (hts : ∀ t ∈ f.params.toList, P.readableRec t = true ∧ t < P.types.size) (hres : f.resultTypes = #[tb]) (htb : P.underlying tb = some .bool) (hb : Below W.heap.size W W') :
    s.post enc P f false true false false W args (.bool true) W' := by
  have hlt : ∀ p ∈ before, p.block < W.heap.size := fun p hp => hW.lt p hp
  obtain ⟨p, q, hA, hV, rfl, hfz, hnd⟩ := id hW
  have hV0 := hV
  rw [hv] at hV
  obtain ⟨rfl, rfl⟩ := trodVars_none hV
  refine ⟨ds, [], p ++ [], [], p, [], hW, ?_, ?_, ?_, hb.frame _, fun h => by cases h⟩
  · rw [hfn, hres]
    exact trodAll_mk1 (shut_bool htb true)
  · rw [hfn]
    exact trodAll_below hl hb _ _ _ _ hts (fun x hx => hlt x (by simp [hx])) hA
  · rw [hfn, hv]
    rfl
end Go.Proofs.YtpmnhdgajkickaaGreatDoor

/- What every law behind the door shares: the table that its row lists, a world for the witness, and the card out of the row's statement. -/
namespace Go.Proofs.YtpmnhdgajkickaaGreatDoor
open Go Go.ChangeShapes Go.WideShapes Go.ChangeAt Go.RowKit

theorem gPow : Tryz.prog.globalNamed "internal/strconv.uint64pow10" = some 2 := by kernel_rfl
theorem gPowType : (Tryz.prog.globals[2]?).map (·.type) = some 177 := by kernel_rfl
theorem cellsPow : Tryz.prog.cellsOf 177 = 20 := by kernel_rfl
theorem cellsU : Tryz.prog.cellsOf 103 = 1 := by kernel_rfl

/-- the list of the rows of this seat -/
abbrev laid3 : List (String × DataW Unit) := [("math/bits.deBruijn32tab", Rows.laid_math_bits_deBruijn32tab), ("math/bits.deBruijn64tab", Rows.laid_math_bits_deBruijn64tab), ("internal/strconv.uint64pow10", Rows.laid_internal_strconv_uint64pow10), ("unicode/utf8.acceptRanges", Rows.laid_unicode_utf8_acceptRanges), ("strconv.ErrRange", Rows.laid_strconv_ErrRange), ("strconv.ErrSyntax", Rows.laid_strconv_ErrSyntax), ("unicode/utf8.first", Rows.laid_unicode_utf8_first)]

theorem table {W : World} (h0 : laidMetH Tryz.prog laid3 W) : Tab W.heap.size W := by
  have h : laidMet Tryz.prog laid3 W := h0
  refine Lib.tabBelow_of_tabIs ?_
  obtain ⟨ps, ⟨g1, t1, cs1, fu1, p1, q1, _, _, _, _, ⟨g2, t2, cs2, fu2, p2, q2, _, _, _, _, ⟨g', t', cs, fuel, p, q, hg', ht', hvar, hd, _, _⟩, _⟩, _⟩, _⟩ := h
  obtain rfl := Option.some.inj (gPow.symm.trans hg')
  obtain rfl := Option.some.inj (gPowType.symm.trans ht')
  unfold Lib.TabIs
  rw [hvar, ← Lib.cells_of_tab Tryz.underlying177 Tryz.underlying103 cellsU cellsPow hd]

/-- A WORLD FOR THE WITNESS: the settled one, the listed variables holding what their initialisers lay. -/
noncomputable def laidWorld (os : Os) : World := World.laidAll Tryz.prog os laid3
theorem laid_met (os : Os) (args : Array Value) : laidMet Tryz.prog laid3 ((laidWorld os).forCall (fun _ _ => 0) ⟨#[], args, []⟩).memory :=
  laidMet_laidAll args (by kernel_rfl) (by kernel_rfl)
theorem i64_wf {n : Int} (h : (Lit.int IntKind.i64 n).wf = true) : I64 n := by
  simp [Lit.wf, IntKind.min, IntKind.max, IntKind.signed, IntKind.bits] at h
  exact ⟨by omega, by omega⟩
end Go.Proofs.YtpmnhdgajkickaaGreatDoor
