import Derived.Test.YtnpfdelklolchaaGreatDoorG32
import Derived.Test.YtnpfdelklolchaaGreatDoorRows
import Derived.WalkKit
import Derived.ProofKit
import Derived.OpenShut
import Derived.JoinedCond
import Derived.Test.YtnpfdelklolchaaGreatDoorG1
import Derived.Test.YtnpfdelklolchaaGreatDoorG29
import Derived.Test.YtnpfdelklolchaaGreatDoorAlMath
import Derived.Deep.SlicePairs
import Derived.Deep.Strs
import Derived.Lib.SmallJoins
import Derived.ChangeMaps5
import Derived.SizedLaws
import Derived.Deep.RegionHeld3
import Derived.Test.YtnpfdelklolchaaGreatDoorG16
import Derived.Test.YtnpfdelklolchaaGreatDoorG10
/- Ink: lists of integers; package dynamometerlaw7's told. -/
namespace Go.Proofs.YtnpfdelklolchaaGreatDoor
open Go Go.RowKit Go.Proofs

def inkIs (zs : List Int) : List UInt8 := zs.flatMap inkInt
def inkInts (zs : List Int) : List UInt8 := inkInt zs.length ++ inkIs zs
theorem inkIs_take {zs : List Int} {i : Nat} {z : Int} (h : zs[i]? = some z) : inkIs (zs.take (i + 1)) = inkIs (zs.take i) ++ inkInt z := by
  unfold inkIs; rw [List.take_add_one, h]; simp
theorem inkIs_length (zs : List Int) (h : ∀ z ∈ zs, I64 z) : (inkIs zs).length ≤ 22 * zs.length := by
  induction zs with
  | nil => simp [inkIs]
  | cons z zs ih =>
    have h1 := inkInt_length z (h z (by simp)).1 (h z (by simp)).2
    have := ih (fun x hx => h x (by simp [hx]))
    simp only [inkIs, List.flatMap_cons, List.length_append, List.length_cons] at *
    omega

end Go.Proofs.YtnpfdelklolchaaGreatDoor

/- The last step of every law: what was read before the call reads the same behind it, because nothing that was there has turned. -/
namespace Go.Proofs.YtnpfdelklolchaaGreatDoor
open Go Go.ChangeShapes Go.WideShapes Go.ChangeAt Go.RowKit

theorem own : ownKnob Tryz.prog.godebug = none := by kernel_rfl
theorem laidOut : laidOutB Tryz.prog = true := by kernel_rfl

theorem trodAll_below {H : Type} {enc : TypeId × Value → H} {P : Program} (hl : laidOutB P = true) {W W' : World} (hb : Below W.heap.size W W') :
    ∀ (ts : List TypeId) (vs : List Value) (ds : List (DataW H)) (ps : List MemPlace), (∀ t ∈ ts, P.readableRec t = true ∧ t < P.types.size) → (∀ x ∈ ps, x.block < W.heap.size) →
    DataW.TrodAll enc P W 0 (fun _ => true) true ts vs ds ps → DataW.TrodAll enc P W' 0 (fun b => decide (b < W.heap.size)) true ts vs ds ps := by
  intro ts
  induction ts with
  | nil =>
    intro vs ds ps _ _ h
    obtain ⟨rfl, rfl, rfl⟩ := trodAll_nil h
    exact trodAll_mk0
  | cons t ts ih =>
    intro vs ds ps ht hp h
    obtain ⟨v, vs', d, ds', p, q, rfl, rfl, rfl, h1, h2⟩ := trodAll_cons h
    have ht1 := ht t (by simp)
    exact trodAll_cons_mk (Below.trod hl ht1.1 ht1.2 h1 hb (fun x hx => hp x (by simp [hx]))) (ih vs' ds' q (fun t' h' => ht t' (by simp [h'])) (fun x hx => hp x (by simp [hx])) h2)

/-- a law's post, out of 'nothing that was there has turned' -/
theorem law_post {H : Type} {enc : TypeId × Value → H} {P : Program} (hl : laidOutB P = true) {f : Func} {s : ChangeSpec} {W W' : World} {args : Array Value} {ds gs : List (DataW H)} {before : List MemPlace} {tb : TypeId}
    (hW : DataW.Whole enc P f.params.toList s.vars false W args.toList ds gs before) (hv : s.vars = []) (hfn : s.fn H (ds ++ gs) = { results := [.lit (.bool true)], args := ds })
    (hts : ∀ t ∈ f.params.toList, P.readableRec t = true ∧ t < P.types.size) (hres : f.resultTypes = #[tb]) (htb : P.underlying tb = some .bool) (hb : Below W.heap.size W W') :
    s.post enc P f false true false false W args (.bool true) W' := by
  have hlt : ∀ p ∈ before, p.block < W.heap.size := fun p hp => hW.lt p hp
  obtain ⟨p, q, hA, hV, rfl, hfz, hnd⟩ := id hW
  have hV0 := hV
  rw [hv] at hV
  obtain ⟨rfl, rfl⟩ := trodVars_none hV
  refine ⟨ds, [], p ++ [], [], p, [], hW, ?_, ?_, ?_, hb.frame _, fun h => by cases h⟩
  · rw [hfn, hres]
    exact trodAll_mk1 (shut_bool htb true)
  · rw [hfn]
    exact trodAll_below hl hb _ _ _ _ hts (fun x hx => hlt x (by simp [hx])) hA
  · rw [hfn, hv]
    rfl
end Go.Proofs.YtnpfdelklolchaaGreatDoor

/- Elements of several cells each, laid one behind the other. No program in sight. -/
namespace Go.Proofs.YtnpfdelklolchaaGreatDoor
open Go Go.RowKit

theorem flat_get {α : Type} (f : α → List Value) (k : Nat) (hk : ∀ a, (f a).length = k) : ∀ (l : List α) (i j : Nat) (_ : j < k) (a : α) (_ : l[i]? = some a), (l.flatMap f)[i * k + j]? = (f a)[j]?
  | [], i, j, _, a, h => by simp at h
  | x :: l, 0, j, hj, a, h => by
    simp at h; subst h
    rw [List.flatMap_cons, List.getElem?_append_left (by rw [hk]; omega)]; simp
  | x :: l, i + 1, j, hj, a, h => by
    have := flat_get f k hk l i j hj a (by simpa using h)
    rw [List.flatMap_cons, List.getElem?_append_right (by rw [hk, Nat.add_mul]; omega), hk, ← this]
    congr 1
    rw [Nat.add_mul]; omega
theorem flat_length {α : Type} (f : α → List Value) (k : Nat) (hk : ∀ a, (f a).length = k) (l : List α) : (l.flatMap f).length = l.length * k := by
  induction l with
  | nil => simp
  | cons x l ih => rw [List.flatMap_cons, List.length_append, ih, hk, List.length_cons, Nat.add_mul]; omega
end Go.Proofs.YtnpfdelklolchaaGreatDoor

/- Arguments of a law, opened: an objective, a list of points, a list of rules. Printed by gen_openal.py. -/
namespace Go.Proofs.YtnpfdelklolchaaGreatDoor
open Go Go.ChangeShapes Go.WideShapes Go.ChangeAt Go.RowKit Go.Deep Go.Joins

theorem cellsAI : Tryz.prog.cellsOf 3 = 1 := by kernel_rfl
theorem cellsObj : Tryz.prog.cellsOf 48 = 2 := by kernel_rfl
theorem cellsPoi : Tryz.prog.cellsOf 101 = 3 := by kernel_rfl
theorem cellsRul : Tryz.prog.cellsOf 99 = 4 := by kernel_rfl
theorem i64_ofA {n : Int} (h : (Lit.int IntKind.i64 n).wf = true) : -9223372036854775808 ≤ n ∧ n ≤ 9223372036854775807 := by
  simp [Lit.wf, IntKind.min, IntKind.max, IntKind.signed, IntKind.bits] at h
  exact ⟨by omega, by omega⟩
theorem spot_noneA {w : World} {a : Addr} {v : Value} (h : w.cell? a = some v) : a.spot = none := by
  unfold World.cell? at h
  split at h
  · split at h
    · cases h
    · rename_i hs; simpa using hs
  · cases h
theorem add_atA (a : Addr) (h : a.spot = none) (i : Nat) : a.add i = ⟨a.block, a.off + i, none⟩ := by
  unfold Addr.add
  split
  · rename_i e; subst e; cases a; simp_all
  · rfl
/-- rules as cells -/
def ru4 (l : List Ru) : List Value := l.flatMap fun s => [Value.int .i64 s.1, .int .i64 s.2.1, .int .i64 s.2.2.1, .int .i64 s.2.2.2]
theorem ru4_length (l : List Ru) : (ru4 l).length = l.length * 4 := flat_length _ 4 (fun _ => rfl) l
theorem ru4_get {l : List Ru} {i : Nat} {s : Ru} (h : l[i]? = some s) : (ru4 l)[i * 4]? = some (.int .i64 s.1) ∧ (ru4 l)[i * 4 + 1]? = some (.int .i64 s.2.1) ∧ (ru4 l)[i * 4 + 2]? = some (.int .i64 s.2.2.1) ∧ (ru4 l)[i * 4 + 3]? = some (.int .i64 s.2.2.2) := by
  have g := fun j (hj : j < 4) => flat_get (fun s : Ru => [Value.int .i64 s.1, .int .i64 s.2.1, .int .i64 s.2.2.1, .int .i64 s.2.2.2]) 4 (fun _ => rfl) l i j hj s h
  exact ⟨g 0 (by omega), g 1 (by omega), g 2 (by omega), g 3 (by omega)⟩
theorem al3_flat (l : List Al) : al3 l = l.flatMap fun s => [Value.int .i64 s.1, .int .i64 s.2.1, .int .i64 s.2.2] := by
  induction l with
  | nil => rfl
  | cons s l ih => simp [al3, ih]
/-- a row of points in memory, asked for one of them -/
theorem Rd.atP {w : World} {L B n i : Nat} {A : Option Addr} {l : List Pt} (h : Rd w L B 3 A n (al3 l)) (hi : i < n) :
    ∃ b o p, A = some ⟨b, o, none⟩ ∧ L ≤ b ∧ b < B ∧ l[i]? = some p ∧ w.cell? ⟨b, o + i * 3, none⟩ = some (.int .i64 p.1) ∧ w.cell? ⟨b, o + i * 3 + 1, none⟩ = some (.int .i64 p.2.1) ∧ w.cell? ⟨b, o + i * 3 + 2, none⟩ = some (.int .i64 p.2.2) := by
  obtain ⟨b, o, e, hl, hb, hc⟩ := h.2 (by omega)
  have hlen : l.length = n := by have := h.1; rw [al3_length] at this; omega
  obtain ⟨p, hx⟩ : ∃ p, l[i]? = some p := ⟨l[i]'(by omega), List.getElem?_eq_getElem (by omega)⟩
  have hg := al3_get hx
  exact ⟨b, o, p, e, hl, hb, hx, hc _ _ hg.1, by have := hc _ _ hg.2.1; rwa [← Nat.add_assoc] at this, by have := hc _ _ hg.2.2; rwa [← Nat.add_assoc] at this⟩
theorem Rd.atR {w : World} {L B n i : Nat} {A : Option Addr} {l : List Ru} (h : Rd w L B 4 A n (ru4 l)) (hi : i < n) :
    ∃ b o p, A = some ⟨b, o, none⟩ ∧ L ≤ b ∧ b < B ∧ l[i]? = some p ∧ w.cell? ⟨b, o + i * 4, none⟩ = some (.int .i64 p.1) ∧ w.cell? ⟨b, o + i * 4 + 1, none⟩ = some (.int .i64 p.2.1) ∧ w.cell? ⟨b, o + i * 4 + 2, none⟩ = some (.int .i64 p.2.2.1) ∧ w.cell? ⟨b, o + i * 4 + 3, none⟩ = some (.int .i64 p.2.2.2) := by
  obtain ⟨b, o, e, hl, hb, hc⟩ := h.2 (by omega)
  have hlen : l.length = n := by have := h.1; rw [ru4_length] at this; omega
  obtain ⟨p, hx⟩ : ∃ p, l[i]? = some p := ⟨l[i]'(by omega), List.getElem?_eq_getElem (by omega)⟩
  have hg := ru4_get hx
  exact ⟨b, o, p, e, hl, hb, hx, hc _ _ hg.1, by have := hc _ _ hg.2.1; rwa [← Nat.add_assoc] at this, by have := hc _ _ hg.2.2.1; rwa [← Nat.add_assoc] at this, by have := hc _ _ hg.2.2.2; rwa [← Nat.add_assoc] at this⟩
section
variable {H : Type} {enc : TypeId × Value → H} {W : World} {base : Nat}
set_option maxRecDepth 100000 in
theorem open_obj {v : Value} {d : DataW H} {p : List MemPlace} (hv : Value.okWide Tryz.prog W .any base 48 v) (h : DataW.Trod enc Tryz.prog W 0 (fun _ => true) true 48 v d p) :
    ∃ g o : Int, v = .agg #[.int .i64 g, .int .i64 o] ∧ (-9223372036854775808 ≤ g ∧ g ≤ 9223372036854775807) ∧ (-9223372036854775808 ≤ o ∧ o ≤ 9223372036854775807) := by
  obtain ⟨c0, c1, y0, y1, m, rfl, rfl, rfl, hy0, hy1⟩ := open_agg2 Tryz.underlying48 (by kernel_rfl) cellsObj hv h
  obtain ⟨a, e0, _, ha⟩ := DataW.trod_int Tryz.underlying3 hy0
  obtain ⟨b, e1, _, hb⟩ := DataW.trod_int Tryz.underlying3 hy1
  simp at e0 e1
  subst e0 e1
  exact ⟨a, b, rfl, i64_ofA ha, i64_ofA hb⟩
theorem trodA_struct4 {P : Program} {w : World} {base : Nat} {spare : Nat → Bool} {held : Bool} {t : TypeId} {f0 f1 f2 f3 : Field} {fuel : Nat} {cs : List Value} {x : DataW H × List MemPlace} (ht : P.underlying t = some (.struct #[f0, f1, f2, f3])) (h : DataW.trod enc P w base spare held fuel t cs = some x) :
    ∃ y0 y1 y2 y3 n, cs.length = P.cellsOf t ∧ DataW.trod enc P w base spare held n f0.type ((cs.drop f0.offset).take (P.cellsOf f0.type)) = some y0 ∧
      DataW.trod enc P w base spare held n f1.type ((cs.drop f1.offset).take (P.cellsOf f1.type)) = some y1 ∧ DataW.trod enc P w base spare held n f2.type ((cs.drop f2.offset).take (P.cellsOf f2.type)) = some y2 ∧
      DataW.trod enc P w base spare held n f3.type ((cs.drop f3.offset).take (P.cellsOf f3.type)) = some y3 := by
  obtain ⟨xs, n, _, rfl, hl, hlen, hf⟩ := DataW.trod_struct ht h
  match xs, hlen with
  | [y0, y1, y2, y3], _ => exact ⟨y0, y1, y2, y3, n, hl, by simpa using hf 0 f0 rfl, by simpa using hf 1 f1 rfl, by simpa using hf 2 f2 rfl, by simpa using hf 3 f3 rfl⟩
set_option maxRecDepth 100000 in
theorem open_points {v : Value} {d : DataW H} {p : List MemPlace} (hv : Value.okWide Tryz.prog W .any base 49 v) (h : DataW.Trod enc Tryz.prog W 0 (fun _ => true) true 49 v d p) :
    ∃ A c l, v = .slice A l.length c ∧ Rd W 0 W.heap.size 3 A l.length (al3 l) ∧ l.length ≤ 9223372036854775807 := by
  obtain ⟨a0, len, cap, rfl⟩ := okWide_slice Tryz.underlying49 hv
  obtain ⟨fuel, hf⟩ := h
  rcases open_slice Tryz.underlying49 hf with ⟨hcs, hx⟩ | ⟨a, len', cap', m, nn, D, Pl, hcs, _, hl, hm, hmm, hx, hall⟩
  · have hcs : [Value.slice a0 len cap] = [Value.slice none 0 0] := hcs
    simp at hcs
    obtain ⟨rfl, rfl, rfl⟩ := hcs
    exact ⟨none, 0, [], rfl, Rd.nil, by simp⟩
  · have hcs : [Value.slice a0 len cap] = [Value.slice (some a) len' cap'] := hcs
    simp at hcs
    obtain ⟨rfl, rfl, rfl⟩ := hcs
    simp only [if_true] at hmm
    subst hmm
    have each : ∀ i, i < len → ∃ s : Pt, W.cell? (a.add (i * 3)) = some (.int .i64 s.1) ∧ W.cell? (a.add (i * 3 + 1)) = some (.int .i64 s.2.1) ∧ W.cell? (a.add (i * 3 + 2)) = some (.int .i64 s.2.2) := by
      intro i hi
      obtain ⟨cs', h1, h2⟩ := hall i (by omega)
      rw [cellsPoi] at h1
      obtain ⟨_, hlen, hcell⟩ := World.cells?_some h1
      obtain ⟨y0, y1, y2, n4, _, _, g0, g1, g2⟩ := trod_struct3 Tryz.underlying101 h2
      match cs', hlen with
      | [v0, v1, v2], _ =>
        rw [cellsAI] at g0 g1 g2
        simp at g0 g1 g2
        obtain ⟨z0, e0, _, w0⟩ := DataW.trod_int Tryz.underlying3 g0
        obtain ⟨z1, e1, _, w1⟩ := DataW.trod_int Tryz.underlying3 g1
        obtain ⟨z2, e2, _, w2⟩ := DataW.trod_int Tryz.underlying3 g2
        simp at e0 e1 e2
        subst e0; subst e1; subst e2
        have k0 := hcell 0 (by omega)
        have k1 := hcell 1 (by omega)
        have k2 := hcell 2 (by omega)
        rw [add_add] at k0 k1 k2
        exact ⟨(z0, z1, z2), by simpa using k0, by simpa using k1, by simpa using k2⟩
    obtain ⟨q, hq⟩ := choose_lt each
    have hll : ((List.range len).map q).length = len := by simp
    refine ⟨some a, m, (List.range len).map q, by rw [hll], ⟨by rw [al3_length], fun hp => ?_⟩, by rw [hll]; unfold maxLen at hm; omega⟩
    rw [hll] at hp
    have h0 := (hq 0 hp).1
    have hsp := spot_noneA (a := a) (by simpa [Addr.add] using h0)
    have hlt := World.block_lt_of_cell? W _ h0
    rw [add_atA a hsp] at hlt
    refine ⟨a.block, a.off, by cases a; simp_all, Nat.zero_le _, hlt, fun j u hj => ?_⟩
    have hj' : j < len * 3 := by
      have := (List.getElem?_eq_some_iff.1 hj).1
      rw [al3_length] at this; simpa using this
    have hil : j / 3 < len := by omega
    have hget : ((List.range len).map q)[j / 3]? = some (q (j / 3)) := by simp [hil]
    obtain ⟨c0, c1, c2⟩ := hq (j / 3) hil
    rw [add_atA a hsp] at c0 c1 c2
    have hm2 : j % 3 < 3 := Nat.mod_lt _ (by omega)
    have g := flat_get (fun s : Pt => [Value.int .i64 s.1, Value.int .i64 s.2.1, Value.int .i64 s.2.2]) 3 (fun _ => rfl) _ (j / 3) (j % 3) hm2 _ hget
    rw [show j / 3 * 3 + j % 3 = j by omega] at g
    have hj2 := hj
    rw [al3_flat] at hj2
    rw [g] at hj2
    rcases (show j % 3 = 0 ∨ j % 3 = 1 ∨ j % 3 = 2 by omega) with e | e | e
    · rw [e] at hj2; simp at hj2
      rw [← hj2, ← c0]; congr 2; omega
    · rw [e] at hj2; simp at hj2
      rw [← hj2, ← c1]; congr 2; omega
    · rw [e] at hj2; simp at hj2
      rw [← hj2, ← c2]; congr 2; omega
set_option maxRecDepth 100000 in
theorem open_rules {v : Value} {d : DataW H} {p : List MemPlace} (hv : Value.okWide Tryz.prog W .any base 50 v) (h : DataW.Trod enc Tryz.prog W 0 (fun _ => true) true 50 v d p) :
    ∃ A c l, v = .slice A l.length c ∧ Rd W 0 W.heap.size 4 A l.length (ru4 l) ∧ l.length ≤ 9223372036854775807 := by
  obtain ⟨a0, len, cap, rfl⟩ := okWide_slice Tryz.underlying50 hv
  obtain ⟨fuel, hf⟩ := h
  rcases open_slice Tryz.underlying50 hf with ⟨hcs, hx⟩ | ⟨a, len', cap', m, nn, D, Pl, hcs, _, hl, hm, hmm, hx, hall⟩
  · have hcs : [Value.slice a0 len cap] = [Value.slice none 0 0] := hcs
    simp at hcs
    obtain ⟨rfl, rfl, rfl⟩ := hcs
    exact ⟨none, 0, [], rfl, Rd.nil, by simp⟩
  · have hcs : [Value.slice a0 len cap] = [Value.slice (some a) len' cap'] := hcs
    simp at hcs
    obtain ⟨rfl, rfl, rfl⟩ := hcs
    simp only [if_true] at hmm
    subst hmm
    have each : ∀ i, i < len → ∃ s : Ru, W.cell? (a.add (i * 4)) = some (.int .i64 s.1) ∧ W.cell? (a.add (i * 4 + 1)) = some (.int .i64 s.2.1) ∧ W.cell? (a.add (i * 4 + 2)) = some (.int .i64 s.2.2.1) ∧ W.cell? (a.add (i * 4 + 3)) = some (.int .i64 s.2.2.2) := by
      intro i hi
      obtain ⟨cs', h1, h2⟩ := hall i (by omega)
      rw [cellsRul] at h1
      obtain ⟨_, hlen, hcell⟩ := World.cells?_some h1
      obtain ⟨y0, y1, y2, y3, n4, _, g0, g1, g2, g3⟩ := trodA_struct4 Tryz.underlying99 h2
      match cs', hlen with
      | [v0, v1, v2, v3], _ =>
        rw [cellsAI] at g0 g1 g2 g3
        simp at g0 g1 g2 g3
        obtain ⟨z0, e0, _, w0⟩ := DataW.trod_int Tryz.underlying3 g0
        obtain ⟨z1, e1, _, w1⟩ := DataW.trod_int Tryz.underlying3 g1
        obtain ⟨z2, e2, _, w2⟩ := DataW.trod_int Tryz.underlying3 g2
        obtain ⟨z3, e3, _, w3⟩ := DataW.trod_int Tryz.underlying3 g3
        simp at e0 e1 e2 e3
        subst e0; subst e1; subst e2; subst e3
        have k0 := hcell 0 (by omega)
        have k1 := hcell 1 (by omega)
        have k2 := hcell 2 (by omega)
        have k3 := hcell 3 (by omega)
        rw [add_add] at k0 k1 k2 k3
        exact ⟨(z0, z1, z2, z3), by simpa using k0, by simpa using k1, by simpa using k2, by simpa using k3⟩
    obtain ⟨q, hq⟩ := choose_lt each
    have hll : ((List.range len).map q).length = len := by simp
    refine ⟨some a, m, (List.range len).map q, by rw [hll], ⟨by rw [ru4_length], fun hp => ?_⟩, by rw [hll]; unfold maxLen at hm; omega⟩
    rw [hll] at hp
    have h0 := (hq 0 hp).1
    have hsp := spot_noneA (a := a) (by simpa [Addr.add] using h0)
    have hlt := World.block_lt_of_cell? W _ h0
    rw [add_atA a hsp] at hlt
    refine ⟨a.block, a.off, by cases a; simp_all, Nat.zero_le _, hlt, fun j u hj => ?_⟩
    have hj' : j < len * 4 := by
      have := (List.getElem?_eq_some_iff.1 hj).1
      rw [ru4_length] at this; simpa using this
    have hil : j / 4 < len := by omega
    have hget : ((List.range len).map q)[j / 4]? = some (q (j / 4)) := by simp [hil]
    obtain ⟨c0, c1, c2, c3⟩ := hq (j / 4) hil
    rw [add_atA a hsp] at c0 c1 c2 c3
    have hm2 : j % 4 < 4 := Nat.mod_lt _ (by omega)
    have g := flat_get (fun s : Ru => [Value.int .i64 s.1, Value.int .i64 s.2.1, Value.int .i64 s.2.2.1, Value.int .i64 s.2.2.2]) 4 (fun _ => rfl) _ (j / 4) (j % 4) hm2 _ hget
    rw [show j / 4 * 4 + j % 4 = j by omega] at g
    have hj2 := hj
    unfold ru4 at hj2
    rw [g] at hj2
    rcases (show j % 4 = 0 ∨ j % 4 = 1 ∨ j % 4 = 2 ∨ j % 4 = 3 by omega) with e | e | e | e
    · rw [e] at hj2; simp at hj2
      rw [← hj2, ← c0]; congr 2; omega
    · rw [e] at hj2; simp at hj2
      rw [← hj2, ← c1]; congr 2; omega
    · rw [e] at hj2; simp at hj2
      rw [← hj2, ← c2]; congr 2; omega
    · rw [e] at hj2; simp at hj2
      rw [← hj2, ← c3]; congr 2; omega
end
end Go.Proofs.YtnpfdelklolchaaGreatDoor

/- Ink: lists of alerts. Printed by gen_inkal.py out of XInkStg. -/
namespace Go.Proofs.YtnpfdelklolchaaGreatDoor
open Go Go.RowKit Go.Proofs

def inkAl (s : Int × Int × Int) : List UInt8 := inkInts [s.1, s.2.1, s.2.2]
def inkAls0 (l : List (Int × Int × Int)) : List UInt8 := l.flatMap inkAl
def inkAls (l : List (Int × Int × Int)) : List UInt8 := inkInt l.length ++ inkAls0 l
theorem inkAls_take {l : List (Int × Int × Int)} {i : Nat} {s : Int × Int × Int} (h : l[i]? = some s) : inkAls0 (l.take (i + 1)) = inkAls0 (l.take i) ++ inkAl s := by
  unfold inkAls0; rw [List.take_add_one, h]; simp
def I64al (s : Int × Int × Int) : Prop := I64 s.1 ∧ I64 s.2.1 ∧ I64 s.2.2
theorem I64al.mem {s : Int × Int × Int} (h : I64al s) : ∀ z ∈ [s.1, s.2.1, s.2.2], I64 z := by
  intro z hz
  simp only [List.mem_cons, List.not_mem_nil, or_false] at hz
  rcases hz with rfl | rfl | rfl
  · exact h.1
  · exact h.2.1
  · exact h.2.2
theorem inkAl_length {s : Int × Int × Int} (h : I64al s) : (inkAl s).length ≤ 88 := by
  have h1 := inkIs_length _ h.mem
  have h2 := inkInt_length (3 : Int) (by omega) (by omega)
  unfold inkAl inkInts
  simp only [List.length_append, List.length_cons, List.length_nil] at *
  have e : (((0 + 1 + 1 + 1 : Nat) : Int)) = 3 := rfl
  rw [e]
  omega
theorem inkAls0_length (l : List (Int × Int × Int)) (h : ∀ s ∈ l, I64al s) : (inkAls0 l).length ≤ 88 * l.length := by
  induction l with
  | nil => simp [inkAls0]
  | cons z zs ih =>
    have h1 := inkAl_length (h z (by simp))
    have := ih (fun x hx => h x (by simp [hx]))
    simp only [inkAls0, List.flatMap_cons, List.length_append, List.length_cons] at *
    omega

set_option maxHeartbeats 1000000 in
set_option maxRecDepth 100000 in
theorem inkInts_genA (K base : Nat) (bs : List UInt8) (A : Option Addr) (c : Nat) (zs : List Int) (w : World) (h : InkAt w K base bs) (hl : bs.length < 10000000000) (hz : ∀ z ∈ zs, I64 z) (hn : zs.length ≤ 100000000) (hr : ∀ w', InkFr K base w w' → Rd w' 0 w'.heap.size 1 A zs.length (ints zs)) :
    Calls Tryz.prog 12 #[.pointer (some ⟨K, 0, none⟩), .slice A zs.length c] w fun e w' => e = .returned (.tuple #[]) ∧ InkAt w' K base (bs ++ inkInts zs) ∧ InkFr K base w w' := by
  have l2 := inkInt_length (zs.length : Int) (by omega) (by omega)
  have hKw : K < w.heap.size := by have := h.1; have := h.2.1; omega
  have hbw := h.2.1
  have hKb := h.1
  have HI := Lib.hid (inkInt_any K base bs (zs.length : Int) w h (by omega) (by omega) (by omega))
  have HZ := Lib.hid hz
  have HR := Lib.hid hr
  clear h hz hr
  go_enter Tryz.func12, Tryz.ntmps12
  go_wp2_with fail
  refine HI.out.mono ?_
  rintro e w1 ⟨rfl, hi1, hf1⟩
  have HI1 := Lib.hid hi1
  have HF1 := Lib.hid hf1
  clear hi1 hf1
  go_wp2_with fail
  go_loopw [4] (fun i wr => ∃ k : Nat, k ≤ zs.length ∧ i = .int .i64 k ∧ InkAt wr K base (bs ++ inkInt zs.length ++ inkIs (zs.take k)) ∧ InkFr K base w wr) (fun i _ => zs.length - (intOf i).toNat)
  case atStart => exact ⟨0, Nat.zero_le _, rfl, by simpa [inkIs] using HI1.out, HF1.out⟩
  case round =>
    obtain ⟨k, hk, rfl, hik, hfk⟩ := hrel
    have hrk := HR.out wr hfk
    have HIK := Lib.hid hik
    have HFK := Lib.hid hfk
    clear hik hfk
    by_cases hlt : k < zs.length
    · obtain ⟨b, o, u, rfl, hb, hu, qk⟩ := hrk.at1 hlt
      obtain ⟨z, hz, rfl⟩ := ints_get hu
      have HPT := Lib.hid (inkIs_take hz)
      have HZI := Lib.hid (HZ.out z (List.mem_of_getElem? hz))
      have hlk := inkIs_length (zs.take k) (fun x hx => HZ.out x (List.mem_of_mem_take hx))
      rw [List.length_take] at hlk
      have HI3 := Lib.hid (inkInt_any K base _ z wr HIK.out (by simp only [List.length_append]; omega) HZI.out.1 HZI.out.2)
      clear hz hu hrk
      go_wp2_with fail
      refine HI3.out.mono ?_
      rintro e w3 ⟨rfl, hi3, hf3⟩
      have HI4 := Lib.hid hi3
      have HF4 := Lib.hid (HFK.out.trans hf3)
      clear hi3 hf3
      go_wp2
      go_roundw
      case rel => exact ⟨k + 1, by omega, by go_num, by rw [HPT.out]; simpa [List.append_assoc] using HI4.out, HF4.out⟩
      case measure => simp [intOf]; omega
    · clear hrk
      go_wp2
      go_end0
      refine ⟨rfl, ?_, HFK.out⟩
      have := HIK.out
      rw [List.take_of_length_le (by omega)] at this
      simpa [inkInts, List.append_assoc] using this

set_option maxHeartbeats 1000000 in
set_option maxRecDepth 100000 in
theorem inkThreeA (K base : Nat) (bs : List UInt8) (F x y : Int) (X : World) (hI : InkAt X K base bs) (hl : bs.length < 10000000000) (hz : I64al (F, x, y)) :
    Calls Tryz.prog 12 #[.pointer (some ⟨K, 0, none⟩), .slice (some ⟨X.heap.size, 0, none⟩) 3 3] (X.alloc (.cells #[.int .i64 F, .int .i64 x, .int .i64 y] 3)) fun e w' => e = .returned (.tuple #[]) ∧ InkAt w' K base (bs ++ inkAl (F, x, y)) ∧ InkFr K base (X.alloc (.cells #[.int .i64 F, .int .i64 x, .int .i64 y] 3)) w' := by
  have hKX : K < X.heap.size := by have := hI.1; have := hI.2.1; omega
  have hbX := hI.2.1
  have hg := alloc_at X (.cells #[.int .i64 F, .int .i64 x, .int .i64 y] 3) _ rfl
  have hI2 : InkAt (X.alloc (.cells #[.int .i64 F, .int .i64 x, .int .i64 y] 3)) K base bs := hI.fr (may := fun i => X.heap.size ≤ i) (Fr.of_below ((Below.refl _ X).alloc (Nat.le_refl _) _)) (fun i hi hm => by have h' : X.heap.size ≤ i := hm; omega) (fun i _ hi hm => by have h' : X.heap.size ≤ i := hm; omega)
  exact inkInts_genA K base bs (some ⟨X.heap.size, 0, none⟩) 3 [F, x, y] _ hI2 hl hz.mem (by simp) (fun w' hw' => by
    have e := InkFr.keep hw' hg (by decide) (by omega)
    have hlt := heap_lt e
    refine ⟨by simp [ints], fun _ => ⟨X.heap.size, 0, rfl, Nat.zero_le _, hlt, fun j u hj => ?_⟩⟩
    have : j = 0 ∨ j = 1 ∨ j = 2 := by
      have := (List.getElem?_eq_some_iff.1 hj).1
      simp [ints] at this; omega
    rw [cellsAt e]
    rcases this with rfl | rfl | rfl <;> simpa [ints] using hj)

theorem inkThreeDA (K base : Nat) (bs : List UInt8) (F x y : Int) (X : World) (hI : InkAt X K base bs) (hl : bs.length < 10000000000) (hz : I64al (F, x, y)) :
    Calls Tryz.prog 12 #[.pointer (some ⟨K, 0, none⟩), .slice (some ⟨X.heap.size, 0, none⟩) 3 3] (X.alloc (.cells #[.int .i64 F, .int .i64 x, .int .i64 y] 3)).drew fun e w' => e = .returned (.tuple #[]) ∧ InkAt w' K base (bs ++ inkAl (F, x, y)) ∧ InkFr K base (X.alloc (.cells #[.int .i64 F, .int .i64 x, .int .i64 y] 3)).drew w' :=
  inkThreeA K base bs F x y X.drew (hI.fr (may := fun _ => False) (Fr.drew (Fr.refl _ X)) (fun _ _ h => h) (fun _ _ _ h => h)) hl hz

set_option maxHeartbeats 2000000 in
set_option maxRecDepth 100000 in
theorem inkAlerts_any (K base : Nat) (bs : List UInt8) (A : Option Addr) (c : Nat) (l : List (Int × Int × Int)) (w : World) (h : InkAt w K base bs) (hl : bs.length < 5000000000) (hz : ∀ s ∈ l, I64al s) (hn : l.length ≤ 10000000) (hr : ∀ w', InkFr K base w w' → Rd w' 0 w'.heap.size 3 A l.length (al3 l)) :
    Calls Tryz.prog 21 #[.pointer (some ⟨K, 0, none⟩), .slice A l.length c] w fun e w' => e = .returned (.tuple #[]) ∧ InkAt w' K base (bs ++ inkAls l) ∧ InkFr K base w w' := by
  have l2 := inkInt_length (l.length : Int) (by omega) (by omega)
  have hKw : K < w.heap.size := by have := h.1; have := h.2.1; omega
  have hbw := h.2.1
  have hKb := h.1
  have HI := Lib.hid (inkInt_any K base bs (l.length : Int) w h (by omega) (by omega) (by omega))
  have HZ := Lib.hid hz
  have HR := Lib.hid hr
  clear h hz hr
  go_enter Tryz.func21, Tryz.ntmps21
  go_wp2_with fail
  refine HI.out.mono ?_
  rintro e w1 ⟨rfl, hi1, hf1⟩
  have HI1 := Lib.hid hi1
  have HF1 := Lib.hid hf1
  clear hi1 hf1
  go_wp2_with fail
  go_loopw [4] (fun i wr => ∃ k : Nat, k ≤ l.length ∧ i = .int .i64 k ∧ InkAt wr K base (bs ++ inkInt l.length ++ inkAls0 (l.take k)) ∧ InkFr K base w wr) (fun i _ => l.length - (intOf i).toNat)
  case atStart => exact ⟨0, Nat.zero_le _, rfl, by simpa [inkAls0] using HI1.out, HF1.out⟩
  case round =>
    obtain ⟨k, hk, rfl, hik, hfk⟩ := hrel
    have hrk := HR.out wr hfk
    have HIK := Lib.hid hik
    have HFK := Lib.hid hfk
    clear hik hfk
    by_cases hlt : k < l.length
    · obtain ⟨b, o, ⟨F, x, y⟩, rfl, _, hb, hu, q0, q1, q2⟩ := hrk.atP hlt
      have HPT := Lib.hid (inkAls_take hu)
      have HZI := Lib.hid (HZ.out _ (List.mem_of_getElem? hu))
      have hlk := inkAls0_length (l.take k) (fun x hx => HZ.out x (List.mem_of_mem_take hx))
      rw [List.length_take] at hlk
      have hKwr : K < wr.heap.size := by have := HIK.out.1; have := HIK.out.2.1; omega
      have hkb2 := HIK.out.2.1
      have HKS := Lib.hid (show ∀ X, InkFr K base wr X → InkFr K base wr X ∧ X.cell? ⟨b, o + k * 3, none⟩ = some (.int .i64 F) ∧ X.cell? ⟨b, o + k * 3 + 1, none⟩ = some (.int .i64 x) ∧ X.cell? ⟨b, o + k * 3 + 2, none⟩ = some (.int .i64 y) from fun X hX => by
        obtain ⟨b', o', e, _, _, hc⟩ := (HR.out X (InkFr.trans HFK.out hX)).2 (by omega)
        simp only [Option.some.injEq, Addr.mk.injEq, and_true] at e
        obtain ⟨rfl, rfl⟩ := e
        have hg := al3_get hu
        exact ⟨hX, hc _ _ hg.1, by have := hc _ _ hg.2.1; rwa [← Nat.add_assoc] at this, by have := hc _ _ hg.2.2; rwa [← Nat.add_assoc] at this⟩)
      have HC := Lib.hid (fun (X : World) (hI : InkAt X K base (bs ++ inkInt l.length ++ inkAls0 (l.take k))) => inkThreeDA K base _ F x y X hI (by simp only [List.length_append]; omega) HZI.out)
      have HR0 := Lib.hid (InkFr.refl K base wr)
      clear hu hrk
      go_wp2_with fail
      go_region_held3 (fun X => InkFr K base wr X ∧ X.cell? ⟨b, o + k * 3, none⟩ = some (.int .i64 F) ∧ X.cell? ⟨b, o + k * 3 + 1, none⟩ = some (.int .i64 x) ∧ X.cell? ⟨b, o + k * 3 + 2, none⟩ = some (.int .i64 y))
        (first
          | exact HKS.out _ (Fr.drew HR0.out)
          | exact HKS.out _ ((Fr.drew HR0.out).alloc _)
          | exact HKS.out _ (Fr.drew (HR0.out.alloc _))
          | exact HKS.out _ (InkFr.trans (Fr.drew (HR0.out.alloc _)) hf3))
        (first
          | (go_at_call 12; (with_reducible refine (HC.out _ HIK.out).mono ?_); rintro e w3 ⟨rfl, hi3, hf3⟩))
      have HI4 := Lib.hid hi3
      have HF4 := Lib.hid (HFK.out.trans (InkFr.trans (Fr.drew (HR0.out.alloc _)) hf3))
      clear hi3 hf3
      go_wp2
      go_roundw
      case rel => exact ⟨k + 1, by omega, by go_num, by rw [HPT.out]; simpa [List.append_assoc] using HI4.out, HF4.out⟩
      case measure => simp [intOf]; omega
    · clear hrk
      go_wp2
      go_end0
      refine ⟨rfl, ?_, HFK.out⟩
      have := HIK.out
      rw [List.take_of_length_le (by omega)] at this
      simpa [inkAls, List.append_assoc] using this

end Go.Proofs.YtnpfdelklolchaaGreatDoor

/- Pairs of fractions of the reference in two variables: what stores leave. -/
namespace Go.Proofs.YtnpfdelklolchaaGreatDoor
open Go Go.RowKit Go.Proofs

end Go.Proofs.YtnpfdelklolchaaGreatDoor

/- The reference's fractions as values and in boxes. -/
namespace Go.Proofs.YtnpfdelklolchaaGreatDoor
open Go Go.RowKit Go.Proofs

theorem FracR.shape {w : World} {v : Value} {q : Rat} (h : FracR w v q) : ∃ b A1 c1 l1 A2 c2 l2, v = .agg #[.bool b, .slice A1 (l1 : List Nat).length c1, .slice A2 (l2 : List Nat).length c2] := by
  obtain ⟨A1, c1, l1, A2, c2, l2, h1, _⟩ := h
  exact ⟨_, A1, c1, l1, A2, c2, l2, h1⟩
theorem VarQ.get {w : World} {B : Nat} {q : Rat} (h : VarQ w B q) : ∃ b A1 c1 l1 A2 c2 l2, (∀ W, Below w.heap.size w W → W.cell? ⟨B, 0, none⟩ = some (.bool b) ∧ W.cell? ⟨B, 1, none⟩ = some (.slice A1 (l1 : List Nat).length c1) ∧ W.cell? ⟨B, 2, none⟩ = some (.slice A2 (l2 : List Nat).length c2) ∧ W.frozen? ⟨B, 0, none⟩ = false ∧ W.frozen? ⟨B, 1, none⟩ = false ∧ W.frozen? ⟨B, 2, none⟩ = false ∧ B < W.heap.size) ∧ FracR w (.agg #[.bool b, .slice A1 l1.length c1, .slice A2 l2.length c2]) q := by
  obtain ⟨A1, c1, l1, A2, c2, l2, e, h1, h2⟩ := h
  refine ⟨_, A1, c1, l1, A2, c2, l2, fun W hW => ?_, A1, c1, l1, A2, c2, l2, rfl, h1, h2⟩
  have e' := (hW.block B (heap_lt e)).trans e
  exact ⟨by rw [cellsAt e']; rfl, by rw [cellsAt e']; rfl, by rw [cellsAt e']; rfl, frozenAt e' 0, frozenAt e' 1, frozenAt e' 2, heap_lt e'⟩
theorem VarQ.raw {w : World} {B : Nat} {q : Rat} (h : VarQ w B q) : ∃ b A1 d1 c1 A2 d2 c2, w.heap[B]? = some (.cells #[.bool b, .slice A1 d1 c1, .slice A2 d2 c2] 31 (0, 0)) := by
  obtain ⟨A1, c1, l1, A2, c2, l2, e, h1, h2⟩ := h
  exact ⟨_, _, _, _, _, _, _, e⟩
theorem VarQ.laid {w : World} {b : Bool} {A1 A2 : Option Addr} {c1 c2 : Nat} {l1 l2 : List Nat} {q : Rat} (h : FracR w (.agg #[.bool b, .slice A1 l1.length c1, .slice A2 l2.length c2]) q) : VarQ (w.alloc (.cells #[.bool b, .slice A1 l1.length c1, .slice A2 l2.length c2] 31)) w.heap.size q := by
  obtain ⟨A3, c3, l3, A4, c4, l4, e, h1, h2⟩ := h
  have hb : Below w.heap.size w (w.alloc (.cells #[.bool b, .slice A1 l1.length c1, .slice A2 l2.length c2] 31)) := (Below.refl _ w).alloc (Nat.le_refl _) _
  refine ⟨A3, c3, l3, A4, c4, l4, ?_, h1.on hb, h2.on hb⟩
  simp only [Value.agg.injEq, Array.mk.injEq, List.cons.injEq, and_true] at e
  obtain ⟨e1, e2, e3⟩ := e
  rw [e1, e2, e3]
  exact alloc_at _ _ _ rfl
/-- a store into one box leaves what lies in the other one -/
theorem VarQ.far {w : World} {B B' : Nat} {p q : Rat} (h : VarQ w B p) (h2 : VarQ w B' q) (hB : B ≠ B') (a0 a1 a2 : Value) : VarQ (((w.setCell ⟨B', 0, none⟩ a0).setCell ⟨B', 1, none⟩ a1).setCell ⟨B', 2, none⟩ a2) B p := by
  obtain ⟨b, A1, d1, c1, A2, d2, c2, e⟩ := h2.raw
  exact varq_far h e (fun z => ⟨by simp, by simp, by simp⟩) hB
theorem VarQ.lt {w : World} {B : Nat} {q : Rat} (h : VarQ w B q) : B < w.heap.size := by
  obtain ⟨b, A1, d1, c1, A2, d2, c2, e⟩ := h.raw
  exact heap_lt e
/-- stored into the box of the result -/
theorem fq_ret {w0 w W : World} {B : Nat} {b : Bool} {A1 A2 : Option Addr} {c1 c2 : Nat} {l1 l2 : List Nat} {q : Rat} (hB : FBox w B) (h : FracR w (.agg #[.bool b, .slice A1 l1.length c1, .slice A2 l2.length c2]) q) (hbl : Below w0.heap.size w0 w) (h0 : w0.heap.size ≤ B) (hf : Fr (fun i => i = B) w W) : FracR W (.agg #[.bool b, .slice A1 l1.length c1, .slice A2 l2.length c2]) q ∧ Below w0.heap.size w0 W := by
  obtain ⟨A3, c3, l3, A4, c4, l4, e, h1, h2⟩ := h
  rw [e]
  exact frac_ret hB rfl h1 h2 hbl h0 hf
end Go.Proofs.YtnpfdelklolchaaGreatDoor
