/- What 'told' says of a value, whatever is laid behind it; functions that make such values. -/
import Derived.Test.YtgmbgclhljobaaaDoorLawStall
import Derived.Test.YtgmbgclhljobaaaDoorTellMath
namespace Go.Proofs.YtgmbgclhljobaaaDoor
open Go Go.RowKit Go.Proofs Go.Maps

theorem bel_next {W X Y : World} (h1 : Below W.heap.size W X) (h2 : Below X.heap.size X Y) : Below W.heap.size W Y := h1.trans (h2.mono h1.size)
/-- the list of a histogram -/
noncomputable def histOf (f : Int → Int) : List (Int × Int) := open Classical in if h : ∃ cs, IsHist f cs then h.choose else []
theorem histOf_eq {f : Int → Int} {cs : List (Int × Int)} (h : IsHist f cs) : histOf f = cs := by
  unfold histOf
  rw [dif_pos ⟨cs, h⟩]
  exact IsHist.uniq (Exists.choose_spec (⟨cs, h⟩ : ∃ cs, IsHist f cs)) h
/-- the value v with this error is told as s, in this world and whatever is laid behind it -/
def TellsAs (v : Value) (code : Int) (s : List UInt8) (w : World) : Prop :=
  ∀ w', Below w.heap.size w w' → Calls Tryd.prog 13 #[v, .int .i64 code] w' fun r w'' => r = .returned (.string ⟨s.toArray⟩) ∧ Below w'.heap.size w' w''
theorem TellsAs.on {v : Value} {code : Int} {s : List UInt8} {w w1 : World} (h : TellsAs v code s w) (hb : Below w.heap.size w w1) : TellsAs v code s w1 := fun w' h' => h w' (bel_next hb h')
theorem tells_of {w : World} {v : Value} {b code : Int} {cs : List (Int × Int)} (ht : Tab w.heap.size w) (hv : HistB w w.heap.size v b cs) (hb : I64 b) (he : I64 code) (hcs : ∀ c ∈ cs, I64 c.1 ∧ I64 c.2) (hn : cs.length ≤ 100000000) : TellsAs v code (inkHist b cs ++ inkInt code) w :=
  fun _ h' => told_any v b code cs _ ((ht.on h').mono h'.size) (hv.below h' (Nat.le_refl _) h'.size) hb he hcs hn
theorem tells_none {w : World} {code : Int} (ht : Tab w.heap.size w) (he : I64 code) : TellsAs (.agg #[.int .i64 0, .slice none 0 0]) code (inkHist 0 [] ++ inkInt code) w :=
  tells_of ht ⟨none, 0, rfl, Rd.nil⟩ (by unfold I64; omega) he (fun _ h => by cases h) (by simp)
/-- the function F makes of these arguments a value that is told as s -/
def Makes (F : FuncId) (args : Array Value) (code : Int) (s : List UInt8) (w : World) : Prop :=
  ∀ w', Below w.heap.size w w' → Calls Tryd.prog F args w' fun e w'' => ∃ v, e = .returned (.tuple #[v, .int .i64 code]) ∧ TellsAs v code s w'' ∧ Below w'.heap.size w' w''
/-- what is told of a histogram that is there if the error is none -/
noncomputable def inkOf (b : Int) (f : Int → Int) (code : Int) : List UInt8 := if code = 0 then inkHist b (histOf f) ++ inkInt 0 else inkHist 0 [] ++ inkInt code
theorem makes_of {F : FuncId} {args : Array Value} {code b : Int} {f : Int → Int} {w : World} (ht : Tab w.heap.size w) (hc : I64 code) (hb : code = 0 → I64 b)
    (hf : code = 0 → ∀ cs, IsHist f cs → (∀ c ∈ cs, I64 c.1 ∧ I64 c.2) ∧ cs.length ≤ 100000000)
    (h : ∀ w', Below w.heap.size w w' → Calls Tryd.prog F args w' fun e w'' => ∃ v, e = .returned (.tuple #[v, .int .i64 code]) ∧ (code = 0 → ∃ cs, IsHist f cs ∧ HistR w'' w'.heap.size v b cs) ∧ (code ≠ 0 → v = .agg #[.int .i64 0, .slice none 0 0]) ∧ Below w'.heap.size w' w'') :
    Makes F args code (inkOf b f code) w := by
  intro w' hb'
  refine (h w' hb').mono ?_
  rintro e w'' ⟨v, rfl, h1, h2, h3⟩
  refine ⟨v, rfl, ?_, h3⟩
  have ht'' : Tab w''.heap.size w'' := (ht.on (bel_next hb' h3)).mono (bel_next hb' h3).size
  by_cases h0 : code = 0
  · obtain ⟨cs, hh, hv⟩ := h1 h0
    obtain ⟨g1, g2⟩ := hf h0 cs hh
    unfold inkOf
    rw [if_pos h0, histOf_eq hh, h0]
    exact tells_of ht'' (hv.b (Nat.le_refl _)) (hb h0) (by unfold I64; omega) g1 g2
  · obtain rfl := h2 h0
    unfold inkOf
    rw [if_neg h0]
    exact tells_none ht'' hc
end Go.Proofs.YtgmbgclhljobaaaDoor
