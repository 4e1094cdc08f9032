import Derived.Test.YtjkoppdddaknlaaGreatDoorG22
import Derived.WideKeyArr2
import Derived.WideKeyEntry
import Derived.Test.YtjkoppdddaknlaaGreatDoorG4
import Derived.Test.YtjkoppdddaknlaaGreatDoorShelf
import Derived.Test.YtjkoppdddaknlaaGreatDoorProg
import Derived.Handy
import Derived.WalkSpells
import Derived.WalkLawsBesides
import Derived.Deep.QuietTactic
import Derived.BigQuiet
import Derived.Laws.BytesString
import Derived.Lib.ItoaLen
import Derived.Lib.SlBytesRow
import Derived.Lib.BufferRead
import Derived.Lib.AppendIntMem
/- Maps of [5]string to values of any type, of one's own: what they hold. -/
namespace Go.Proofs.YtjkoppdddaknlaaGreatDoor
open Go Go.RowKit Go.Proofs Go.Maps

/-- a list of texts as a key -/
def kvK (ks : List ByteArray) : Value := .agg (ks.map Value.string).toArray
def OkK (ks : List ByteArray) : Prop := ks.length = 5 ∧ ∀ s ∈ ks, s.size ≤ maxLen
theorem kvK_inj {a b : List ByteArray} (h : kvK a = kvK b) : a = b := by
  unfold kvK at h
  injection h with h
  have h2 : a.map Value.string = b.map Value.string := by simpa using h
  exact List.map_inj_right (f := Value.string) (fun x y e => by injection e) |>.1 h2
theorem arrK : WideMaps.ArrKey Tryz.prog 53 9 5 := ⟨Tryz.underlying53, by kernel_rfl, by kernel_rfl, by kernel_rfl⟩
theorem lawK : Keyed Tryz.prog 53 := Keyed.of_law arrK.law
theorem keyOf_K {ks : List ByteArray} (h : OkK ks) : ∃ l, keyOf Tryz.prog 53 (kvK ks) = some (.string l) := by
  obtain ⟨h1, h2⟩ := h
  match ks, h1, h2 with
  | [a, b, c, d, e], _, h2 =>
    obtain ⟨m, hm⟩ : ∃ m, Tryz.prog.types.size = m + 1 := ⟨Tryz.prog.types.size - 1, by kernel_rfl⟩
    have hkt := arrK.keyType ⟨m, hm⟩
    have w0 := h2 a (by simp)
    have w1 := h2 b (by simp)
    have w2 := h2 c (by simp)
    have w3 := h2 d (by simp)
    have w4 := h2 e (by simp)
    refine ⟨keyBytes [.string a.data.toList, .string b.data.toList, .string c.data.toList, .string d.data.toList, .string e.data.toList], ?_⟩
    unfold keyOf kvK
    simp only [arrK.hu]
    rw [if_pos (by simp [hkt, Value.formed, arrK.hu, arrK.size]), hm]
    unfold Program.keyLits
    simp only [arrK.hu, Value.cells]
    rw [if_pos (by rw [arrK.size]; rfl), show List.range 5 = [0, 1, 2, 3, 4] from rfl, List.mapM_cons, List.mapM_cons, List.mapM_cons, List.mapM_cons, List.mapM_cons, List.mapM_nil]
    simp [arrK.one, Program.keyLits, Tryz.underlying9, w0, w1, w2, w3, w4]
/-- block m is a map with such keys, of at most n entries, that holds f -/
def MapK (w : World) (m n : Nat) (f : List ByteArray → Option Value) : Prop :=
  ∃ D : DataW Value, w.ownsMap Tryz.prog 53 rawR m n D ∧ ∀ ks l, OkK ks → keyOf Tryz.prog 53 (kvK ks) = some (.string l) → has D (.string l) = (f ks).isSome ∧ ∀ z, D.atKey (.string l) (.held z) = .held ((f ks).getD z)
/-- f with v at x -/
def updK (f : List ByteArray → Option Value) (x : List ByteArray) (v : Value) : List ByteArray → Option Value := fun y => if y = x then some v else f y
theorem updK_same (f : List ByteArray → Option Value) (x : List ByteArray) (v : Value) : updK f x v x = some v := by unfold updK; rw [if_pos rfl]
theorem updK_other (f : List ByteArray → Option Value) {x y : List ByteArray} (v : Value) (h : y ≠ x) : updK f x v y = f y := by unfold updK; rw [if_neg h]
theorem mapK_made (w : World) : MapK (w.alloc (.map #[] 0)) w.heap.size 0 (fun _ => none) :=
  ⟨.map [], World.ownsMap_made _ _ _ _, fun _ks _l _ _ => ⟨rfl, fun _ => rfl⟩⟩
theorem MapK.mono {w : World} {m n n' : Nat} {f : List ByteArray → Option Value} (h : MapK w m n f) (hn : n ≤ n') : MapK w m n' f := by
  obtain ⟨D, h1, h2⟩ := h
  exact ⟨D, h1.mono hn, h2⟩
theorem MapK.lt {w : World} {m n : Nat} {f : List ByteArray → Option Value} (h : MapK w m n f) : m < w.heap.size := by
  obtain ⟨D, h1, _⟩ := h; exact h1.lt
theorem MapK.fr {may : Nat → Prop} {w w' : World} {m n : Nat} {f : List ByteArray → Option Value} (h : MapK w m n f) (hf : Fr may w w') (hm : ¬ may m) : MapK w' m n f := by
  obtain ⟨D, h1, h2⟩ := h
  have hbl := h1.lt
  obtain ⟨es, clock, h3, h4⟩ := h1
  exact ⟨D, ⟨es, clock, (hf.block m hbl hm).trans h3, h4⟩, h2⟩
theorem MapK.on {w w' : World} {m n : Nat} {f : List ByteArray → Option Value} (h : MapK w m n f) (hb : Below w.heap.size w w') : MapK w' m n f :=
  h.fr (Fr.of_below hb) (by have := h.lt; omega)
theorem MapK.block {w : World} {m n : Nat} {f : List ByteArray → Option Value} (h : MapK w m n f) : ∃ es clock, w.heap[m]? = some (.map es clock) := by
  obtain ⟨D, ⟨es, clock, h1, _⟩, _⟩ := h
  exact ⟨es, clock, h1⟩
section
variable {t e : TypeId} (ht : Tryz.prog.underlying t = some (.map 53 e))
/-- the world behind 'm[x] = v' -/
noncomputable def putK (t : TypeId) (m : Nat) (x : List ByteArray) (v : Value) (w : World) : World :=
  match (Instr.mapUpdate t (.map (some m)) (kvK x) v).run Tryz.prog w with | .ok _ w' => w' | _ => w
include ht
theorem putK_run {w : World} {m n : Nat} {f : List ByteArray → Option Value} (h : MapK w m n f) (hn : n < 10000000000000) (x : List ByteArray) (v : Value) (hx : OkK x) :
    (Instr.mapUpdate t (.map (some m)) (kvK x) v).run Tryz.prog w = .ok () (putK t m x v w) ∧ MapK (putK t m x v w) m (n + 1) (updK f x v) ∧ w.grownBy (putK t m x v w) (some m) := by
  obtain ⟨D, hown, hD⟩ := h
  obtain ⟨lx, hlx⟩ := keyOf_K hx
  obtain ⟨w', hrun, g1, g2⟩ := hown.update (val := v) (d := .held v) (ps := []) lawK ht (by unfold maxLen; omega) hlx rfl
  have e : putK t m x v w = w' := by unfold putK; rw [hrun]
  rw [e]
  have hm := isMapV hown
  refine ⟨hrun, ⟨_, g1, fun ks l hk hl => ?_⟩, g2⟩
  by_cases e : ks = x
  · subst e
    rw [hlx] at hl
    obtain rfl : lx = l := by simpa using hl
    rw [updK_same]
    exact ⟨has_put_same (k := .string lx) hm trivial _, fun z => atKey_put_same (k := .string lx) hm trivial _ _⟩
  · rw [updK_other _ _ e]
    obtain ⟨q1, q2⟩ := hD ks l hk hl
    have hne : (Lit.string l) ≠ .string lx := fun h => by
      rw [h] at hl
      exact e (kvK_inj (lawK.inj hl hlx))
    exact ⟨by rw [has_put_other hne, q1], fun z => by rw [atKey_put_other hne, q2]⟩
theorem lookK_run {w : World} {m n : Nat} {f : List ByteArray → Option Value} (h : MapK w m n f) (x : List ByteArray) (hx : OkK x) {z : Value} (hz : (zeroValue e).run Tryz.prog w = .ok z w) :
    (Instr.lookup t (.map (some m)) (kvK x) false).run Tryz.prog w = .ok ((f x).getD z) w := by
  obtain ⟨D, hown, hD⟩ := h
  obtain ⟨lx, hlx⟩ := keyOf_K hx
  obtain ⟨c, ps, hrun, hv⟩ := hown.lookup (zd := .held z) (zp := []) lawK ht hz rfl hlx
  have h2 : (DataW.held c : DataW Value) = _ := congrArg Prod.fst (Option.some.inj hv)
  have : c = (f x).getD z := held_inj (h2.trans ((hD x lx hx hlx).2 z))
  rw [hrun, this]
end
end Go.Proofs.YtjkoppdddaknlaaGreatDoor

/- Maps of [5]string: an entry looked up and stored to ('m[k] = append(m[k], v)', 'm[k]++'). -/
namespace Go.WideElems
open Go.ChangeShapes Go.WideShapes Go.MapKept Go.ChangeMaps
open Go.WideMaps (KeyLaw)
/-- the world behind the entry is the world behind a store of the value that stands there -/
theorem entry_upd {H : Type} {P : Program} {w : World} {t k e : TypeId} {R : Value → Option (DataW H × List MemPlace)} {b : Nat} {es : Array MapEntry} {clock : Nat} (K : KeyLaw P k) (ht : P.underlying t = some (.map k e)) {z : Value}
    (hz : ∀ u : World, (zeroValue e).run P u = .ok z u) (hb : w.heap[b]? = some (.map es clock)) (F : Fit P k R es clock) {key : Value} {kl : Lit} (hkey : keyOf P k key = some kl) :
    ∃ (v0 : Value) (st : Nat) (w1 : World), (Instr.mapEntry t (.map (some b)) key).run P w = .ok (.tuple #[v0, goInt st]) w1 ∧ (Instr.mapUpdate t (.map (some b)) key v0).run P w = .ok () w1 := by
  rcases K.find w hkey es.toList F.keys with ⟨h1, h2⟩ | ⟨j, e0, h1, h2, h3⟩
  · refine ⟨z, clock, setBlock w b (.map (es.push ⟨key, z, clock⟩) (clock + 1)), ?_, ?_⟩
    · simp [Instr.mapEntry, run_underlying ht, MapKept.run_getObj_map hb, K.check w false hkey, h1, hz, MapKept.run_setObj_map _ hb, Result.andThen, setBlock]
    · simp [Instr.mapUpdate, run_underlying ht, MapKept.run_getObj_map hb, K.check w false hkey, h1, MapKept.run_setObj_map _ hb, Result.andThen, setBlock]
  · have hj : es[j]? = some e0 := by simpa using h2
    have same : ∀ f : MapEntry → MapEntry, f e0 = e0 → es.modify j f = es := fun f hf => by
      apply Array.ext'
      rw [Array.toList_modify, modify_eq_set _ _ _ _ h2, hf]
      exact set_self _ _ _ h2
    have s1 : es.modify j (fun e => { e with key := key }) = es := same _ (by rw [← h3])
    have s2 : es.modify j (fun e' => { e' with key := key, val := e0.val }) = es := same _ (by rw [← h3])
    refine ⟨e0.val, e0.born, setBlock w b (.map es clock), ?_, ?_⟩
    · simp [Instr.mapEntry, run_underlying ht, MapKept.run_getObj_map hb, K.check w false hkey, h1, hj, h3, K.stays w hkey, s1, MapKept.run_setObj_map _ hb, Result.andThen, setBlock]
    · simp [Instr.mapUpdate, run_underlying ht, MapKept.run_getObj_map hb, K.check w false hkey, h1, hj, h3, K.stays w hkey, s2, MapKept.run_setObj_map _ hb, Result.andThen, setBlock]
end Go.WideElems
namespace Go.Proofs.YtjkoppdddaknlaaGreatDoor
open Go Go.RowKit Go.Proofs Go.Maps Go.WideElems Go.ChangeMaps

theorem MapK.blk {w w' : World} {m n : Nat} {f : List ByteArray → Option Value} (h : MapK w m n f) (he : w'.heap[m]? = w.heap[m]?) : MapK w' m n f := by
  obtain ⟨D, ⟨es, clock, h3, h4⟩, h2⟩ := h
  exact ⟨D, ⟨es, clock, he.trans h3, h4⟩, h2⟩
theorem grown_setBlock {w : World} {m : Nat} {es : Array MapEntry} {clock : Nat} (hb : w.heap[m]? = some (.map es clock)) (o : Obj) : w.grownBy (setBlock w m o) (some m) :=
  ⟨rfl, rfl, rfl, by simp [setBlock], fun i _ hi => heap_setBlock_other hb _ (fun e => hi (by rw [e]))⟩
section
variable {t e : TypeId} (ht : Tryz.prog.underlying t = some (.map 53 e))
include ht
/-- the entry, and what a store to it does -/
theorem entryK {w : World} {m n : Nat} {f : List ByteArray → Option Value} (h : MapK w m n f) (hn : n < 10000000000000) (x : List ByteArray) (hx : OkK x) {z : Value} (hz : ∀ u : World, (zeroValue e).run Tryz.prog u = .ok z u) :
    ∃ (st : Int) (w1 : World), (Instr.mapEntry t (.map (some m)) (kvK x)).run Tryz.prog w = .ok (.tuple #[(f x).getD z, .int .i64 st]) w1 ∧ w.grownBy w1 (some m) ∧ w1.heap.size = w.heap.size ∧ (∃ es clock, w1.heap[m]? = some (.map es clock)) ∧ MapK w1 m (n + 1) (updK f x ((f x).getD z)) ∧
      ∀ (w2 : World) (val : Value), w2.heap[m]? = w1.heap[m]? → ∃ w3, (Instr.entryStore t (.map (some m)) (.int .i64 st) val).run Tryz.prog w2 = .ok () w3 ∧ MapK w3 m (n + 1) (updK f x val) ∧ w2.grownBy w3 (some m) ∧ w3.heap.size = w2.heap.size := by
  obtain ⟨lx, hlx⟩ := keyOf_K hx
  obtain ⟨D, ⟨es, clock, hb, F, hs, rfl⟩, hD⟩ := id h
  obtain ⟨v0, st, es1, clock1, hE, hcase, hS⟩ := entry_then_store arrK.law ht hz hb F hlx
  have hv : v0 = (f x).getD z := by
    have h2 := (hD x lx hx hlx).2 z
    rcases hcase with ⟨e0, hm0, hk0, rfl⟩ | ⟨hno, rfl⟩
    · have h3 := WideElems.atKey_some arrK.law F hlx hm0 hk0 (z := (.held e0.val, [])) rfl (DataW.held z)
      exact held_inj (h3.symm.trans h2)
    · have h3 := WideElems.atKey_none (R := rawR) arrK.law F hlx hno (DataW.held v0)
      exact held_inj (h3.symm.trans h2)
  subst hv
  have hM1 : MapK (setBlock w m (.map es1 clock1)) m (n + 1) (updK f x ((f x).getD z)) := by
    obtain ⟨v0, st', w1, q1, q2⟩ := entry_upd arrK.law ht hz hb F hlx
    have hq := Result.ok.inj (hE.symm.trans q1)
    have hv : (f x).getD z = v0 := by
      have := hq.1
      simp only [Value.tuple.injEq] at this
      have := congrArg (fun (a : Array Value) => a[0]?) this
      simpa using this
    rw [hq.2]
    obtain ⟨p1, p2, _⟩ := putK_run ht h hn x v0 hx
    rw [hv]
    rw [← (Result.ok.inj (q2.symm.trans p1)).2] at p2
    exact p2
  refine ⟨(st : Int), _, hE, grown_setBlock hb _, by simp [setBlock], ⟨_, _, heap_setBlock_same hb _⟩, hM1, fun w2 val hw2 => ?_⟩
  rw [heap_setBlock_same hb] at hw2
  obtain ⟨es', clock', hrun, hup⟩ := hS w2 val hw2
  obtain ⟨hp1, hp2, hp3⟩ := putK_run ht h hn x val hx
  refine ⟨_, hrun, ?_, grown_setBlock hw2 _, by simp [setBlock]⟩
  have hw' : putK t m x val w = setBlock w m (.map es' clock') := by
    have h1 := hp1.symm.trans hup
    exact (Result.ok.inj h1).2
  rw [hw'] at hp2
  exact hp2.blk (by rw [heap_setBlock_same hw2, heap_setBlock_same hb])
end
end Go.Proofs.YtjkoppdddaknlaaGreatDoor

/- The table of strconv's digits in memory. -/
namespace Go.Proofs.YtjkoppdddaknlaaGreatDoor
open Go Go.RowKit Go.Proofs Go.Maps

/-- the table that AppendInt reads, kept by whatever leaves the blocks below B alone -/
def Tab (B : Nat) (w : World) : Prop := Lib.TabBelow Tryz.prog B w "internal/strconv.uint64pow10" .u64 Lib.pow10Tab
theorem Tab.on {B : Nat} {w w' : World} (h : Tab B w) (hb : Below B w w') : Tab B w' := Lib.TabBelow.on h hb
theorem Tab.mono {B B' : Nat} {w : World} (h : Tab B w) (hB : B ≤ B') : Tab B' w := fun w' hb => h w' (hb.mono hB)

def I64 (x : Int) : Prop := -9223372036854775808 ≤ x ∧ x ≤ 9223372036854775807
end Go.Proofs.YtjkoppdddaknlaaGreatDoor
