import Derived.Test.YtjkoppdddaknlaaGreatDoorRGrpM
/- Rows of one's own: one more in between, another list of buckets, another count. -/
namespace Go.Proofs.YtjkoppdddaknlaaGreatDoor
open Go Go.RowKit Go.Proofs

theorem RowP.move {w w' : World} {base : Nat} {v v' : Value} {r : RowX} {may : Nat → Prop} (h : RowP w base v r) (hf : Fr may w w') (hm : ∀ b, base ≤ b → b < w.heap.size → some b ≠ v.ownBlock → ¬ may b ∧ some b ≠ v'.ownBlock) : RowP w' base v' r := by
  have h2 := h.fr hf (fun b h1 h2 h3 => (hm b h1 h2 h3).1)
  refine ⟨h2.vals, h2.cnts, fun b o e hp => ?_, fun b o e hp => ?_⟩
  · obtain ⟨b', o', e', hL, hb, _⟩ := h.vals.2 hp
    rw [e] at e'
    simp only [Option.some.injEq, Addr.mk.injEq, and_true] at e'
    obtain ⟨rfl, _⟩ := e'
    exact (hm b hL hb (h.v1 b o e hp)).2
  · obtain ⟨b', o', e', hL, hb, _⟩ := h.cnts.2 hp
    rw [e] at e'
    simp only [Option.some.injEq, Addr.mk.injEq, and_true] at e'
    obtain ⟨rfl, _⟩ := e'
    exact (hm b hL hb (h.h1 b o e hp)).2
theorem heap_set1 {w : World} {g : Nat} {cur : List Value} {t : TypeId} (h : w.heap[g]? = some (.cells cur.toArray t (0, 0))) (i : Nat) (a : Value) : (w.setCell ⟨g, i, none⟩ a).heap[g]? = some (.cells (cur.set i a).toArray t (0, 0)) := by
  simp only [World.setCell, Array.getElem?_modify, h, if_true, Option.map_some]
  congr 2
  simp [List.setIfInBounds_toArray]
theorem fr_set {w w' : World} {g : Nat} {may : Nat → Prop} (h : Fr may w w') (hm : may g) (i : Nat) (a : Value) : Fr may w (w'.setCell ⟨g, i, none⟩ a) := h.setCell (p := ⟨g, i, none⟩) (fun _ => hm) a
/-- the store of a row -/
def st4 (w : World) (g q : Nat) (r : RowX) : World := (((w.setCell ⟨g, q * 4, none⟩ (.slice r.vA r.vals.length r.vc)).setCell ⟨g, q * 4 + 1, none⟩ (.int .i64 8)).setCell ⟨g, q * 4 + 2, none⟩ (.slice r.hA r.cs.length r.hc)).setCell ⟨g, q * 4 + 3, none⟩ (.int .i64 r.f)
section
variable {w w1 w2 : World} {base g cap N q co : Nat} {Ao : Option Addr} {L : List RowX} {Z R : List Value} {o : Obj} {r : RowX}
theorem ins_fr (hgrow : (w.alloc o).grownBy w1 (Value.slice Ao N co).ownBlock) (hf : Fr (fun i => i = g) w1 w2) : Fr (fun i => some i = (Value.slice Ao N co).ownBlock ∨ i = g) w (st4 w2 g q r) := by
  have h1 : Fr (fun i => some i = (Value.slice Ao N co).ownBlock ∨ i = g) w w1 := (((Fr.refl (fun i => some i = (Value.slice Ao N co).ownBlock ∨ i = g) w).alloc o).trans (Fr.of_grown hgrow) (fun i _ h => .inl h))
  have h2 : Fr (fun i => some i = (Value.slice Ao N co).ownBlock ∨ i = g) w w2 := h1.trans hf (fun i _ h => .inr h)
  exact fr_set (fr_set (fr_set (fr_set h2 (.inr rfl) _ _) (.inr rfl) _ _) (.inr rfl) _ _) (.inr rfl) _ _
/-- a row more in between -/
theorem RowW.insert (h : RowW w base (.slice Ao N co) L) (hbw : base ≤ w.heap.size) (hN : N = L.length) (hq : q ≤ N) (hZ : Z.length = 4)
    (hgrow : (w.alloc o).grownBy w1 (Value.slice Ao N co).ownBlock) (hat : (Value.slice Ao N co).ownBlock = some g ∨ g = w.heap.size + 1)
    (hg0 : base ≤ g) (hl : (rowCells L ++ Z ++ R).length = cap * 4) (hc : N + 1 ≤ cap) (hm : cap ≤ maxLen)
    (h2 : w2.heap[g]? = some (.cells (splice (rowCells L ++ Z ++ R) ((q + 1) * 4) (rowCells (L.drop q))).toArray 64 (0, 0)))
    (hf : Fr (fun i => i = g) w1 w2)
    (hr : Rd w base w.heap.size 1 r.vA r.vals.length (strC r.vals)) (hra : ∀ b o, r.vA = some ⟨b, o, none⟩ → 0 < r.vals.length → some b ≠ (Value.slice Ao N co).ownBlock) (hrc : r.cs = []) :
    RowW (st4 w2 g q r) base (.slice (some ⟨g, 0, none⟩) (N + 1) cap) (L.take q ++ r :: L.drop q) ∧ Below base w (st4 w2 g q r) := by
  have hF := ins_fr (q := q) (r := r) hgrow hf
  have hmv : ∀ b, base ≤ b → b < w.heap.size → some b ≠ (Value.slice Ao N co).ownBlock → ¬ (some b = (Value.slice Ao N co).ownBlock ∨ b = g) ∧ some b ≠ (Value.slice (some ⟨g, 0, none⟩) (N + 1) cap).ownBlock := by
    intro b _ hb hne
    have hbg : b ≠ g := by
      rcases hat with ha | ha
      · intro e; rw [e, ← ha] at hne; exact hne rfl
      · omega
    refine ⟨fun hx => ?_, fun hx => hbg ?_⟩
    · rcases hx with hx | hx
      · exact hne hx
      · exact hbg hx
    · rw [ownBlock_eq] at hx; exact Option.some.inj hx
  have hlen : (L.take q ++ r :: L.drop q).length = N + 1 := by simp; omega
  refine ⟨⟨?_, fun x hx => ?_⟩, hF.below hbw (fun i hi hx => by
    rcases hx with hx | hx
    · have := (ownsRow_block h.1 hx).1; omega
    · omega)⟩
  · rw [hlen]
    have hcell := heap_set1 (heap_set1 (heap_set1 (heap_set1 h2 (q * 4) (.slice r.vA r.vals.length r.vc)) (q * 4 + 1) (.int .i64 8)) (q * 4 + 2) (.slice r.hA r.cs.length r.hc)) (q * 4 + 3) (.int .i64 r.f)
    rw [ins_cells L Z R hZ q (by omega) r] at hcell
    have hR : R.length + (N + 1) * 4 = cap * 4 := by
      rw [← hl, List.length_append, List.length_append, rowCells_length, hZ]; omega
    refine own_of_block (R := R) hg0 hcell ?_ ?_ hc hm
    · rw [List.length_append, rowCells_length, hlen]; omega
    · rw [rowCells_length, hlen]
  · have hxr : x ∈ L ∨ x = r := by
      rcases List.mem_append.1 hx with h1 | h1
      · exact .inl (List.mem_of_mem_take h1)
      · rcases List.mem_cons.1 h1 with h1 | h1
        · exact .inr h1
        · exact .inl (List.mem_of_mem_drop h1)
    rcases hxr with h1 | rfl
    · exact (h.2 x h1).move hF hmv
    · refine RowP.move (v := .slice Ao N co) ⟨hr, ⟨by rw [hrc]; rfl, fun hp => by rw [hrc] at hp; exact absurd hp (by simp)⟩, hra, fun b o e hp => by rw [hrc] at hp; exact absurd hp (by simp)⟩ hF hmv
/-- another list of buckets -/
theorem RowW.setH (h : RowW w base (.slice (some ⟨g, 0, none⟩) N cap) L) (hN : N = L.length) (hr : L[q]? = some r) {cs : List (Int × Int)} {A : Option Addr} {c : Nat} {B : Nat} (hrd : Rd w B w.heap.size 2 A cs.length (cells2 cs)) (hB : base ≤ B) (hg : g < B) :
    RowW ((w.setCell ⟨g, q * 4 + 1, none⟩ (.int .i64 8)).setCell ⟨g, q * 4 + 2, none⟩ (.slice A cs.length c)) base (.slice (some ⟨g, 0, none⟩) N cap) (L.set q { r with cs := cs, hA := A, hc := c }) := by
  have hF : Fr (fun i => i = g) w ((w.setCell ⟨g, q * 4 + 1, none⟩ (.int .i64 8)).setCell ⟨g, q * 4 + 2, none⟩ (.slice A cs.length c)) := fr_set (may := fun i => i = g) (fr_set (may := fun i => i = g) (Fr.refl _ w) rfl _ _) rfl _ _
  have hP := (h.2 r (List.mem_of_getElem? hr)).fr hF (fun b _ _ hb hm => hb (by rw [ownBlock_eq, hm]))
  refine h.put hN ?_ hF ⟨hP.vals, ?_, hP.v1, fun b o e hp => ?_⟩
  · rw [rowCells_setH L q r hr]
    have := h.1
    rw [← hN] at this
    exact own_cell (own_cell this _ _) _ _
  · exact (rd_keep (B := 0) hrd hF (fun b o e hp hm => by
      obtain ⟨b', o', e', hL, _, _⟩ := hrd.2 hp
      rw [e] at e'
      simp only [Option.some.injEq, Addr.mk.injEq, and_true] at e'
      omega)).more hB (Nat.le_refl _)
  · obtain ⟨b', o', e', hL, _, _⟩ := hrd.2 hp
    simp only at e
    rw [e] at e'
    simp only [Option.some.injEq, Addr.mk.injEq, and_true] at e'
    rw [ownBlock_eq]
    intro hx
    have := Option.some.inj hx
    omega
/-- another count -/
theorem RowW.setF (h : RowW w base (.slice (some ⟨g, 0, none⟩) N cap) L) (hN : N = L.length) (hr : L[q]? = some r) (f : Int) :
    RowW (w.setCell ⟨g, q * 4 + 3, none⟩ (.int .i64 f)) base (.slice (some ⟨g, 0, none⟩) N cap) (L.set q { r with f := f }) := by
  have hF : Fr (fun i => i = g) w (w.setCell ⟨g, q * 4 + 3, none⟩ (.int .i64 f)) := fr_set (may := fun i => i = g) (Fr.refl _ w) rfl _ _
  have hP := (h.2 r (List.mem_of_getElem? hr)).fr hF (fun b _ _ hb hm => hb (by rw [ownBlock_eq, hm]))
  refine h.put hN ?_ hF ⟨hP.vals, hP.cnts, hP.v1, hP.h1⟩
  rw [rowCells_setF L q r hr]
  have := h.1
  rw [← hN] at this
  exact own_cell this _ _
end
end Go.Proofs.YtjkoppdddaknlaaGreatDoor

/- The rows of Group as the memory's rows: put in, again, counted up. -/
namespace Go
open Go.RowKit in
theorem step_copy_spliceK {P : Program} {ops : Array Oper} {o : Oper} {a : Act} {w : World} {K : Act → World → Prop} {Q : Exit → Act → World → Prop} {E : Prop} (hgd : o.guard = none) (d s : Operand) (dT sT : TypeId)
    (ho : o.op = .call { callee := .builtin .copy, args := #[d, s], argTypes := #[dT, sT] }) (elem : TypeId) (k : Nat) (hk : 0 < k) (hu : P.underlying dT = some (.slice elem)) (hsz : (P.info? elem).map (·.size) = some k)
    (dp sp : Option Addr) (dLen dCap sLen sCap : Nat) (hd : a.eval d = .slice dp dLen dCap) (hs : a.eval s = .slice sp sLen sCap)
    (g off : Nat) (cur : List Value) (t : TypeId) (hg : w.heap[g]? = some (.cells cur.toArray t (0, 0))) (cs : List Value) (hn : cs.length = Nat.min sLen dLen * k)
    (hpos : 0 < cs.length → dp = some ⟨g, off, none⟩ ∧ ∃ ad, sp = some ad ∧ ∀ j v, cs[j]? = some v → w.cell? (ad.add j) = some v)
    (hfit : off + cs.length ≤ cur.length) (h1 : ∀ v ∈ cs, v.oneCell' = true)
    (h : ∀ w', Hid (w'.heap[g]? = some (.cells (splice cur off cs).toArray t (0, 0))) → w.grownBy w' (some g) → K (a.put o.dst (goInt (Nat.min sLen dLen))) w') :
    if Region.wanted o (yielded ops a.tmps) = true then Oper.wp P o a w K Q else E := by
  have hw : Region.wanted o (yielded ops a.tmps) = true := by simp [Region.wanted, hgd]
  rw [if_pos hw]
  by_cases h0 : cs.length = 0
  · obtain rfl : cs = [] := List.eq_nil_of_length_eq_zero h0
    have hm : Nat.min sLen dLen = 0 := by
      rcases Nat.mul_eq_zero.1 hn.symm with h | h
      · exact h
      · omega
    have hrun := run_copy_noneK (P := P) w dT sT o.type elem k dp sp dLen dCap sLen sCap hu hsz hm
    unfold Oper.wp
    simp [execOp, ho, resolve, invoke, builtin, hd, hs, hrun, Result.andThen]
    have := h w (show _ = _ by simpa [splice] using hg) ⟨rfl, rfl, rfl, Nat.le_refl _, fun _ _ _ => rfl⟩
    rw [hm] at this
    exact this
  · obtain ⟨rfl, ad, rfl, hsrc⟩ := hpos (by omega)
    have hrun := run_copy_rowK (P := P) w dT sT o.type elem k g off dLen dCap ad sLen sCap cur.toArray t cs hu hsz hg hn hsrc (by simpa using hfit) h1
    unfold Oper.wp
    simp [execOp, ho, resolve, invoke, builtin, hd, hs, hrun, Result.andThen]
    exact h _ (show _ = _ by simpa [splice] using setRow_heap w g _ _ t _ hg) ⟨rfl, rfl, rfl, by simp [World.setRow], fun i _ hi => setRow_other w g i _ (fun e => hi (by rw [e]))⟩
end Go
namespace Go.Proofs.YtjkoppdddaknlaaGreatDoor
open Go Go.RowKit Go.Proofs
section
variable {kf : Nat → List ByteArray} {tk : Nat → Int} {fl : Nat → Bool} {j q : Nat} {L : List RowX}
theorem gr_ins (h : GrOk kf tk fl j (L.map RowX.gr)) (hq : q ≤ L.length) (ha : ∀ j' r, j' < q → L[j']? = some r → ky r.vals < ky (kf j)) (hx : q = L.length ∨ ∃ r, L[q]? = some r ∧ ky (kf j) < ky r.vals) (rn : RowX) (h1 : rn.vals = kf j) (h2 : rn.cs = []) (h3 : rn.f = 0) :
    GrPre kf tk fl j ((L.take q ++ rn :: L.drop q).map RowX.gr) := by
  have e : rn.gr = (kf j, [], 0) := by unfold RowX.gr; rw [h1, h2, h3]
  have := h.ins (n := q) (by simpa using hq) (fun j' r hj' hr => by
    rw [List.getElem?_map] at hr
    cases hz : L[j']? with
    | none => rw [hz] at hr; cases hr
    | some x => rw [hz] at hr; simp only [Option.map_some, Option.some.injEq] at hr; rw [← hr]; exact ha j' x hj' hz) (by
    rcases hx with hx | ⟨r, hr, hlt⟩
    · exact .inl (by simpa using hx)
    · exact .inr ⟨r.gr, by rw [List.getElem?_map, hr]; rfl, hlt⟩)
  rw [List.map_append, List.map_cons, List.map_take, List.map_drop, e]
  exact this
theorem gr_again (h : GrOk kf tk fl j (L.map RowX.gr)) {r : RowX} (hr : L[q]? = some r) (he : r.vals = kf j) : GrPre kf tk fl j (L.map RowX.gr) :=
  h.again (n := q) (r := r.gr) (by rw [List.getElem?_map, hr]; rfl) he
theorem gr_upd (h : GrPre kf tk fl j (L.map RowX.gr)) {r : RowX} (hr : L[q]? = some r) (he : r.vals = kf j) (r' : RowX) (h1 : r'.vals = r.vals) (h2 : r'.cs = moreL (bkt 8 (tk j)) 1 r.cs) (h3 : r'.f = r.f + if fl j then 1 else 0) :
    GrOk kf tk fl (j + 1) ((L.set q r').map RowX.gr) := by
  have e : r'.gr = (kf j, moreL (bkt 8 (tk j)) 1 r.cs, r.f + if fl j then 1 else 0) := by unfold RowX.gr; rw [h1, he, h2, h3]
  have := h.upd (n := q) (cs := r.cs) (f := r.f) (by rw [List.getElem?_map, hr, ← he]; rfl)
  rw [List.map_set, e]
  exact this
theorem row_bds {r : Gr} (h : RowOk kf tk fl j r) (hj : j ≤ 20000) (ht : ∀ i, i < j → fineV (tk i) = true) : r.2.1.length ≤ 10000000 ∧ (∀ c ∈ r.2.1, 0 ≤ c.2 ∧ c.2 ≤ 1125899906842624 * 2) ∧ 0 ≤ r.2.2 ∧ r.2.2 ≤ 20000 := by
  have hz : ∀ v ∈ tkK kf tk j r.1, fineV v = true := fun v hv => by
    obtain ⟨i, hi, e⟩ := ofK_mem hv
    rw [← e]; exact ht i hi
  have hl : (tkK kf tk j r.1).length ≤ j := ofK_length _ _ _ _
  have h1 := hist_len h.1 (maxB 8) (fun x hx => cntB_wf 8 _ x (by omega) (by omega) hz hx)
  have h2 := hist_num h.1 (fun x => by have := cntB_bd 8 (tkK kf tk j r.1) x; omega)
  have h3 := flK_bd (kf := kf) (fl := fl) (i := j) r.1
  have h4 : maxB 8 ≤ 9999999 := by decide
  have h5 := h.2
  exact ⟨by omega, h2, by omega, by omega⟩
end
end Go.Proofs.YtjkoppdddaknlaaGreatDoor
