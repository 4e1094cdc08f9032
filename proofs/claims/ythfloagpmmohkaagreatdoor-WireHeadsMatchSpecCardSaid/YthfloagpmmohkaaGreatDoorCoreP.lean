/- wire's reader of messages: what stores and appends make of its state in memory. -/
import Derived.Test.YthfloagpmmohkaaGreatDoorCore
namespace Go.Proofs.YthfloagpmmohkaaGreatDoor
open Go Go.RowKit Go.Proofs

section
variable {T : TypeId} {ex : List Value} {w w' W : World} {K base : Nat} {c c' : Cr} {v v' : CrV}
theorem HdR.fr {may : Nat → Prop} {A : Option Addr} {h : List Pr} (hh : HdR w A h) (hf : Fr may w w') (hm : ∀ b o c fz, A = some ⟨b, o, none⟩ → 0 < h.length → w.heap[b]? = some (.cells c 69 fz) → ¬ may b) : HdR w' A h := by
  obtain ⟨h1, h2⟩ := hh
  have key : ∀ b o, A = some ⟨b, o, none⟩ → 0 < h.length → ¬ may b := fun b o e hp => by
    obtain ⟨b', o', c0, fz, e', hb⟩ := h2 hp
    have e0 := e
    rw [e] at e'
    simp only [Option.some.injEq, Addr.mk.injEq, and_true] at e'
    obtain ⟨rfl, _⟩ := e'
    exact hm b o c0 fz e0 hp hb
  refine ⟨⟨h1.1, fun hp => ?_⟩, fun hp => ?_⟩
  · obtain ⟨b, o, e, hL, hB, hc⟩ := h1.2 hp
    refine ⟨b, o, e, hL, Nat.lt_of_lt_of_le hB hf.size, fun q u' hu => ?_⟩
    rw [← hc q u' hu]
    exact World.cell?_of_block (hf.block b hB (key b o e hp))
  · obtain ⟨b, o, c0, fz, e, hb⟩ := h2 hp
    exact ⟨b, o, c0, fz, e, (hf.block b (heap_lt hb) (key b o e hp)).trans hb⟩
theorem CrR.drewN (h : CrR T ex w K base c v) (m : Nat) : CrR T ex (w.drewN m) K base c v := ⟨h.kb, h.bw, h.box, h.word, h.body, h.head, h.done, h.msgs, h.heads, h.s1, h.s2⟩
theorem CrR.drew (h : CrR T ex w K base c v) : CrR T ex w.drew K base c v := ⟨h.kb, h.bw, h.box, h.word, h.body, h.head, h.done, h.msgs, h.heads, h.s1, h.s2⟩
theorem CrF.drewN (h : CrF K w w') (m : Nat) : CrF K w (w'.drewN m) := ⟨Fr.drewN h.toFr m, h.own⟩
theorem CrF.drew (h : CrF K w w') : CrF K w w'.drew := ⟨Fr.drew h.toFr, h.own⟩
theorem TyOk.nK (hT : TyOk T) (h : CrR T ex w K base c v) {e : TypeId} {i : Nat} {c0 : Array Value} {fz : Nat × Nat} (h1 : w.heap[i]? = some (.cells c0 e fz)) (he : e ≠ T) : i ≠ K := fun e0 => he (ty_ne (by rw [← e0]; exact h1) h.box)
/-- the word's row is another one: append, or the row from its beginning -/
theorem CrR.putW (hT : TyOk T) (h : CrR T ex w K base c v) {u : Value} (hf0 : Fr (fun i => some i = v.vw.ownBlock) w w') (l : List UInt8) (ho : w'.ownsRow base 5 1 u l.length (Lib.byteCells l)) (hat : u.ownBlock = v.vw.ownBlock ∨ ∀ b, some b = u.ownBlock → w.heap.size ≤ b) :
    CrR T ex (w'.setCell ⟨K, 11, none⟩ u) K base { c with word := l } { v with vw := u } ∧ CrF K w (w'.setCell ⟨K, 11, none⟩ u) := by
  have hf1 : Fr (fun i => i = K) w' (w'.setCell ⟨K, 11, none⟩ u) := (Fr.refl (fun i => i = K) w').setCell (p := ⟨K, 11, none⟩) (fun _ => rfl) u
  have hf : Fr (fun i => i = K ∨ some i = v.vw.ownBlock) w (w'.setCell ⟨K, 11, none⟩ u) := (hf0.mono (fun i _ e => .inr e)).trans hf1 (fun i _ e => .inl e)
  have hwt : ∀ {i : Nat}, some i = v.vw.ownBlock → ∃ c0, w.heap[i]? = some (.cells c0 5 (0, 0)) := fun hi => own_type h.word hi
  have hKw : ¬ some K = v.vw.ownBlock := fun e => by obtain ⟨c0, h1⟩ := hwt e; exact hT.nK h h1 hT.u.symm rfl
  have hbK : w'.heap[K]? = some (.cells (crC c v ++ ex).toArray T (0, 0)) := (hf0.block K h.lt hKw).trans h.box
  have hbox : (w'.setCell ⟨K, 11, none⟩ u).heap[K]? = some (.cells (crC { c with word := l } { v with vw := u } ++ ex).toArray T (0, 0)) := by
    simp only [World.setCell, Array.getElem?_modify, hbK, if_true, Option.map_some]
    congr 2
  have nt : ∀ {e : TypeId} {i : Nat} {c0 : Array Value} {fz : Nat × Nat}, w.heap[i]? = some (.cells c0 e fz) → e ≠ T → e ≠ 5 → ¬ (i = K ∨ some i = v.vw.ownBlock) := fun h1 he hu hm => by
    rcases hm with e0 | e0
    · exact hT.nK h h1 he e0
    · obtain ⟨c1, h2⟩ := hwt e0
      exact hu (ty_ne h1 h2)
  have hr : CrR T ex (w'.setCell ⟨K, 11, none⟩ u) K base { c with word := l } { v with vw := u } := by
    refine ⟨h.kb, Nat.le_trans h.bw hf.size, hbox, ?_, fun hb => ?_, fun hb => ?_, ?_, h.msgs, fun x hx => ?_, fun hb i hi => ?_, h.s2⟩
    · refine ownsRow_fr ho hf1 (fun i hi e => ?_)
      obtain ⟨c0, h1⟩ := own_type ho hi
      rw [e] at h1
      exact hT.u (ty_ne hbK h1)
    · exact ownsRow_fr (h.body hb) hf (fun i hi hm => by
        rcases hm with e | e
        · obtain ⟨c0, h1⟩ := own_type (h.body hb) hi; exact hT.nK h h1 hT.u.symm e
        · exact h.s1 hb i e hi)
    · exact ownsRow_fr (h.head hb) hf (fun i hi => by obtain ⟨c0, h1⟩ := own_type (h.head hb) hi; exact nt h1 hT.p.symm ty_up.symm)
    · exact h.done.fr hf (fun i hi => by obtain ⟨_, _, c0, h1⟩ := h.done.block hi; exact nt h1 hT.m.symm ty_um.symm)
    · exact (h.heads x hx).fr hf (fun b o c0 fz _ _ h1 => nt h1 hT.p.symm ty_up.symm)
    · intro e
      rcases hat with h1 | h1
      · exact h.s1 hb i (by rw [← h1]; exact hi) e
      · have h2 := h1 i hi
        have h3 := (ownsRow_block (h.body hb) e).2
        omega
  refine ⟨hr, ⟨hf.mono (fun i _ e => e.elim .inl (fun e => .inr (h.own_iff.2 (.inr (.inl e))))), fun i hi ho2 => ?_⟩⟩
  rw [h.own_iff]
  rcases hr.own_iff.1 ho2 with e | e | e | e
  · exact .inl e
  · rcases hat with h1 | h1
    · exact .inr (.inl (by rw [← h1]; exact e))
    · have := h1 i e; omega
  · exact .inr (.inr (.inl e))
  · exact .inr (.inr (.inr e))
/-- the body's row -/
theorem CrR.putB (hT : TyOk T) (h : CrR T ex w K base c v) (hbg : c.begun = true) {u : Value} (hf0 : Fr (fun i => some i = v.vb.ownBlock) w w') (l : List UInt8) (ho : w'.ownsRow base 5 1 u l.length (Lib.byteCells l)) (hat : u.ownBlock = v.vb.ownBlock ∨ ∀ b, some b = u.ownBlock → w.heap.size ≤ b) :
    CrR T ex (w'.setCell ⟨K, 19, none⟩ u) K base { c with body := l } { v with vb := u } ∧ CrF K w (w'.setCell ⟨K, 19, none⟩ u) := by
  have hf1 : Fr (fun i => i = K) w' (w'.setCell ⟨K, 19, none⟩ u) := (Fr.refl (fun i => i = K) w').setCell (p := ⟨K, 19, none⟩) (fun _ => rfl) u
  have hf : Fr (fun i => i = K ∨ some i = v.vb.ownBlock) w (w'.setCell ⟨K, 19, none⟩ u) := (hf0.mono (fun i _ e => .inr e)).trans hf1 (fun i _ e => .inl e)
  have hwt : ∀ {i : Nat}, some i = v.vb.ownBlock → ∃ c0, w.heap[i]? = some (.cells c0 5 (0, 0)) := fun hi => own_type (h.body hbg) hi
  have hKw : ¬ some K = v.vb.ownBlock := fun e => by obtain ⟨c0, h1⟩ := hwt e; exact hT.nK h h1 hT.u.symm rfl
  have hbK : w'.heap[K]? = some (.cells (crC c v ++ ex).toArray T (0, 0)) := (hf0.block K h.lt hKw).trans h.box
  have hbox : (w'.setCell ⟨K, 19, none⟩ u).heap[K]? = some (.cells (crC { c with body := l } { v with vb := u } ++ ex).toArray T (0, 0)) := by
    simp only [World.setCell, Array.getElem?_modify, hbK, if_true, Option.map_some]
    congr 2
  have nt : ∀ {e : TypeId} {i : Nat} {c0 : Array Value} {fz : Nat × Nat}, w.heap[i]? = some (.cells c0 e fz) → e ≠ T → e ≠ 5 → ¬ (i = K ∨ some i = v.vb.ownBlock) := fun h1 he hu hm => by
    rcases hm with e0 | e0
    · exact hT.nK h h1 he e0
    · obtain ⟨c1, h2⟩ := hwt e0
      exact hu (ty_ne h1 h2)
  have hr : CrR T ex (w'.setCell ⟨K, 19, none⟩ u) K base { c with body := l } { v with vb := u } := by
    refine ⟨h.kb, Nat.le_trans h.bw hf.size, hbox, ?_, fun hb => ?_, fun hb => ?_, ?_, h.msgs, fun x hx => ?_, fun hb i hi => ?_, h.s2⟩
    · exact ownsRow_fr h.word hf (fun i hi hm => by
        rcases hm with e | e
        · obtain ⟨c0, h1⟩ := own_type h.word hi; exact hT.nK h h1 hT.u.symm e
        · exact h.s1 hbg i hi e)
    · refine ownsRow_fr ho hf1 (fun i hi e => ?_)
      obtain ⟨c0, h1⟩ := own_type ho hi
      rw [e] at h1
      exact hT.u (ty_ne hbK h1)
    · exact ownsRow_fr (h.head hb) hf (fun i hi => by obtain ⟨c0, h1⟩ := own_type (h.head hb) hi; exact nt h1 hT.p.symm ty_up.symm)
    · exact h.done.fr hf (fun i hi => by obtain ⟨_, _, c0, h1⟩ := h.done.block hi; exact nt h1 hT.m.symm ty_um.symm)
    · exact (h.heads x hx).fr hf (fun b o c0 fz _ _ h1 => nt h1 hT.p.symm ty_up.symm)
    · intro e
      rcases hat with h1 | h1
      · exact h.s1 hb i hi (by rw [← h1]; exact e)
      · have h2 := h1 i e
        have h3 := (ownsRow_block h.word hi).2
        omega
  refine ⟨hr, ⟨hf.mono (fun i _ e => e.elim .inl (fun e => .inr (h.own_iff.2 (.inr (.inr (.inl e)))))), fun i hi ho2 => ?_⟩⟩
  rw [h.own_iff]
  rcases hr.own_iff.1 ho2 with e | e | e | e
  · exact .inl e
  · exact .inr (.inl e)
  · rcases hat with h1 | h1
    · exact .inr (.inr (.inl (by rw [← h1]; exact e)))
    · have := h1 i e; omega
  · exact .inr (.inr (.inr e))
/-- the head's row -/
theorem CrR.putH (hT : TyOk T) (h : CrR T ex w K base c v) (hbg : c.begun = true) {u : Value} (hf0 : Fr (fun i => some i = v.vh.ownBlock) w w') (l : List Pr) (ho : w'.ownsRow base 69 2 u l.length (prC l)) (hat : u.ownBlock = v.vh.ownBlock ∨ ∀ b, some b = u.ownBlock → w.heap.size ≤ b) :
    CrR T ex (w'.setCell ⟨K, 9, none⟩ u) K base { c with m := { c.m with head := l } } { v with vh := u } ∧ CrF K w (w'.setCell ⟨K, 9, none⟩ u) := by
  have hf1 : Fr (fun i => i = K) w' (w'.setCell ⟨K, 9, none⟩ u) := (Fr.refl (fun i => i = K) w').setCell (p := ⟨K, 9, none⟩) (fun _ => rfl) u
  have hf : Fr (fun i => i = K ∨ some i = v.vh.ownBlock) w (w'.setCell ⟨K, 9, none⟩ u) := (hf0.mono (fun i _ e => .inr e)).trans hf1 (fun i _ e => .inl e)
  have hwt : ∀ {i : Nat}, some i = v.vh.ownBlock → ∃ c0, w.heap[i]? = some (.cells c0 69 (0, 0)) := fun hi => own_type (h.head hbg) hi
  have hKw : ¬ some K = v.vh.ownBlock := fun e => by obtain ⟨c0, h1⟩ := hwt e; exact hT.nK h h1 hT.p.symm rfl
  have hbK : w'.heap[K]? = some (.cells (crC c v ++ ex).toArray T (0, 0)) := (hf0.block K h.lt hKw).trans h.box
  have hbox : (w'.setCell ⟨K, 9, none⟩ u).heap[K]? = some (.cells (crC { c with m := { c.m with head := l } } { v with vh := u } ++ ex).toArray T (0, 0)) := by
    simp only [World.setCell, Array.getElem?_modify, hbK, if_true, Option.map_some]
    congr 2
  have nt : ∀ {e : TypeId} {i : Nat} {c0 : Array Value} {fz : Nat × Nat}, w.heap[i]? = some (.cells c0 e fz) → e ≠ T → e ≠ 69 → ¬ (i = K ∨ some i = v.vh.ownBlock) := fun h1 he hu hm => by
    rcases hm with e0 | e0
    · exact hT.nK h h1 he e0
    · obtain ⟨c1, h2⟩ := hwt e0
      exact hu (ty_ne h1 h2)
  have hdl : ∀ x ∈ v.l, ∀ b o, x.hA = some ⟨b, o, none⟩ → 0 < x.m.head.length → b < w.heap.size := fun x hx b o e hp => by
    obtain ⟨b', o', e', _, hB, _⟩ := (h.heads x hx).1.2 hp
    rw [e] at e'
    simp only [Option.some.injEq, Addr.mk.injEq, and_true] at e'
    rw [e'.1]; exact hB
  have hr : CrR T ex (w'.setCell ⟨K, 9, none⟩ u) K base { c with m := { c.m with head := l } } { v with vh := u } := by
    refine ⟨h.kb, Nat.le_trans h.bw hf.size, hbox, ?_, fun hb => ?_, fun hb => ?_, ?_, h.msgs, fun x hx => ?_, h.s1, fun hb x hx hp b o e => ?_⟩
    · exact ownsRow_fr h.word hf (fun i hi => by obtain ⟨c0, h1⟩ := own_type h.word hi; exact nt h1 hT.u.symm ty_up)
    · exact ownsRow_fr (h.body hb) hf (fun i hi => by obtain ⟨c0, h1⟩ := own_type (h.body hb) hi; exact nt h1 hT.u.symm ty_up)
    · refine ownsRow_fr ho hf1 (fun i hi e => ?_)
      obtain ⟨c0, h1⟩ := own_type ho hi
      rw [e] at h1
      exact hT.p (ty_ne hbK h1)
    · exact h.done.fr hf (fun i hi => by obtain ⟨_, _, c0, h1⟩ := h.done.block hi; exact nt h1 hT.m.symm ty_pm.symm)
    · refine (h.heads x hx).fr hf (fun b o c0 fz e hp h1 hm => ?_)
      rcases hm with e0 | e0
      · exact hT.nK h h1 hT.p.symm e0
      · exact h.s2 hbg x hx hp b o e e0
    · intro e0
      rcases hat with h1 | h1
      · exact h.s2 hb x hx hp b o e (by rw [← h1]; exact e0)
      · have h2 := h1 b e0
        have h3 := hdl x hx b o e hp
        omega
  refine ⟨hr, ⟨hf.mono (fun i _ e => e.elim .inl (fun e => .inr (h.own_iff.2 (.inl e)))), fun i hi ho2 => ?_⟩⟩
  rw [h.own_iff]
  rcases hr.own_iff.1 ho2 with e | e | e | e
  · rcases hat with h1 | h1
    · exact .inl (by rw [← h1]; exact e)
    · have := h1 i e; omega
  · exact .inr (.inl e)
  · exact .inr (.inr (.inl e))
  · exact .inr (.inr (.inr e))
/-- a message is complete -/
theorem CrR.fin (hT : TyOk T) (h : CrR T ex w K base c v) (hbg : c.begun = true) (hf : Fr (fun i => i = K ∨ some i = v.vd.ownBlock) w W) {u : Value} {A : Option Addr} {n k : Nat} (hvh : v.vh = .slice A c.m.head.length k)
    (hbox : W.heap[K]? = some (.cells (crC c.finish { v with vh := .slice A c.m.head.length n, vd := u } ++ ex).toArray T (0, 0))) (hd : OffR W base 38 7 u (v.l.length + 1) (msgsC v.l ++ msgV { c.m with body := c.body } (.slice A c.m.head.length n)))
    (hat : u.ownBlock = v.vd.ownBlock ∨ ∀ b, some b = u.ownBlock → w.heap.size ≤ b) :
    CrR T ex W K base c.finish { v with vh := .slice A c.m.head.length n, vd := u, l := v.l ++ [⟨{ c.m with body := c.body }, A, n⟩] } ∧ CrF K w W := by
  have hwt : ∀ {i : Nat}, some i = v.vd.ownBlock → ∃ c0, w.heap[i]? = some (.cells c0 38 (0, 0)) := fun hi => (h.done.block hi).2.2
  have nt : ∀ {e : TypeId} {i : Nat} {c0 : Array Value} {fz : Nat × Nat}, w.heap[i]? = some (.cells c0 e fz) → e ≠ T → e ≠ 38 → ¬ (i = K ∨ some i = v.vd.ownBlock) := fun h1 he hu hm => by
    rcases hm with e0 | e0
    · exact hT.nK h h1 he e0
    · obtain ⟨c1, h2⟩ := hwt e0
      exact hu (ty_ne h1 h2)
  have hH : HdR w A c.m.head := by
    have ho := h.head hbg
    have ho' := ho
    rw [hvh] at ho
    refine ⟨(Rd.of_own ho).more (Nat.zero_le _) (Nat.le_refl _), fun hp => ?_⟩
    rcases ho.2 with ⟨_, h0⟩ | ⟨g, cap, cur, hv, _, hh, _⟩
    · omega
    · simp only [Value.slice.injEq] at hv
      exact ⟨g, 0, cur, _, hv.1, hh⟩
  have eb : (Value.slice A c.m.head.length n).ownBlock = v.vh.ownBlock := by rw [hvh]; cases A <;> rfl
  have hr : CrR T ex W K base c.finish { v with vh := .slice A c.m.head.length n, vd := u, l := v.l ++ [⟨{ c.m with body := c.body }, A, n⟩] } := by
    refine ⟨h.kb, Nat.le_trans h.bw hf.size, hbox, ?_, (fun hb => by cases hb), (fun hb => by cases hb), ?_, ?_, fun x hx => ?_, (fun hb => by cases hb), (fun hb => by cases hb)⟩
    · exact ownsRow_fr h.word hf (fun i hi => by obtain ⟨c0, h1⟩ := own_type h.word hi; exact nt h1 hT.u.symm ty_um)
    · rw [List.length_append, msgsC_append]
      simpa [msgsC] using hd
    · rw [List.map_append, h.msgs]; rfl
    · rcases List.mem_append.1 hx with hx | hx
      · exact (h.heads x hx).fr hf (fun b o c0 fz _ _ h1 => nt h1 hT.p.symm ty_pm)
      · rw [List.mem_singleton] at hx
        subst hx
        exact hH.fr hf (fun b o c0 fz _ _ h1 => nt h1 hT.p.symm ty_pm)
  refine ⟨hr, ⟨hf.mono (fun i _ e => e.elim .inl (fun e => .inr (h.own_iff.2 (.inr (.inr (.inr e)))))), fun i hi ho2 => ?_⟩⟩
  rw [h.own_iff]
  rcases hr.own_iff.1 ho2 with e | e | e | e
  · exact .inl (by rw [← eb]; exact e)
  · exact .inr (.inl e)
  · exact .inr (.inr (.inl e))
  · rcases hat with h1 | h1
    · exact .inr (.inr (.inr (by rw [← h1]; exact e)))
    · have := h1 i e; omega
/-- the state made anew: only its block is written; its word's row is the same one, body and head are empty -/
theorem CrR.anew (hT : TyOk T) (h : CrR T ex w K base c v) (hf : Fr (fun i => i = K) w W) {A : Option Addr} {n k : Nat} (hvw : v.vw = .slice A n k) (c' : Cr) (hw : c'.word = []) (hb : c'.body = []) (hh : c'.m.head = []) (hd : c'.done = c.done)
    (hbox : W.heap[K]? = some (.cells (crC c' { v with vw := .slice A 0 k, vb := .slice none 0 0, vh := .slice none 0 0 } ++ ex).toArray T (0, 0))) :
    CrR T ex W K base c' { v with vw := .slice A 0 k, vb := .slice none 0 0, vh := .slice none 0 0 } ∧ CrF K w W := by
  have eb : (Value.slice A 0 k).ownBlock = v.vw.ownBlock := by rw [hvw]; cases A <;> rfl
  have hr : CrR T ex W K base c' { v with vw := .slice A 0 k, vb := .slice none 0 0, vh := .slice none 0 0 } := by
    refine ⟨h.kb, Nat.le_trans h.bw hf.size, hbox, ?_, fun _ => ?_, fun _ => ?_, ?_, by rw [hd]; exact h.msgs, fun x hx => ?_, (fun _ i _ e => by cases e), (fun _ x _ _ b o _ e => by cases e)⟩
    · rw [hw]
      have h0 : w.ownsRow base 5 1 (.slice A 0 k) 0 [] := by
        have ho := h.word
        rw [hvw] at ho
        refine ⟨rfl, ?_⟩
        rcases ho.2 with ⟨hv, _⟩ | ⟨g, cap, cur, hv, h1, h2, h3, h4, h5, h6⟩
        · simp only [Value.slice.injEq] at hv
          exact .inl ⟨by rw [hv.1, hv.2.2], rfl⟩
        · simp only [Value.slice.injEq] at hv
          obtain ⟨rfl, _, rfl⟩ := hv
          exact .inr ⟨g, k, cur, rfl, h1, h2, Nat.zero_le _, h4, h5, by simp⟩
      exact ownsRow_fr h0 hf (fun i hi e => by obtain ⟨c0, h1⟩ := own_type h0 hi; exact hT.nK h h1 hT.u.symm e)
    · rw [hb]; exact World.ownsRow_nil _ _ _ _
    · rw [hh]; exact World.ownsRow_nil _ _ _ _
    · exact h.done.fr hf (fun i hi e => by obtain ⟨_, _, c0, h1⟩ := h.done.block hi; exact hT.nK h h1 hT.m.symm e)
    · exact (h.heads x hx).fr hf (fun b o c0 fz _ _ h1 => hT.nK h h1 hT.p.symm)
  refine ⟨hr, ⟨hf.mono (fun i _ e => .inl e), fun i hi ho2 => ?_⟩⟩
  rw [h.own_iff]
  rcases hr.own_iff.1 ho2 with e | e | e | e
  · cases e
  · exact .inr (.inl (by rw [← eb]; exact e))
  · cases e
  · exact .inr (.inr (.inr e))
end
end Go.Proofs.YthfloagpmmohkaaGreatDoor
