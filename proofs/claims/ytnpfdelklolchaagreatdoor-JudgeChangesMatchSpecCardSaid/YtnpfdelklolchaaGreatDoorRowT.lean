/- Rows of the reference's divisions (three cells each), made whole; a division's box. -/
import Derived.Test.YtnpfdelklolchaaGreatDoorG32
import Derived.Test.YtnpfdelklolchaaGreatDoorG33
import Derived.Test.YtnpfdelklolchaaGreatDoorG23
import Derived.Test.YtnpfdelklolchaaGreatDoorG27
import Derived.Test.YtnpfdelklolchaaGreatDoorG14
namespace Go.Proofs.YtnpfdelklolchaaGreatDoor
open Go Go.RowKit Go.Proofs

structure Tv where
  A1 : Option Addr
  c1 : Nat
  l1 : List Nat
  x : Nat
  p : Nat
  A2 : Option Addr
  c2 : Nat
  zs : List Nat
def Tv.v (h : Tv) : List Value := [.slice h.A1 h.l1.length h.c1, .int .i64 (h.p : Int), .slice h.A2 h.zs.length h.c2]
def Tv.k (h : Tv) : Nat × Nat × List Nat := (h.x, h.p, h.zs)
/-- its parts lie in memory, and not in block g -/
def TvR (w : World) (g : Nat) (h : Tv) : Prop := (RNatR w h.A1 h.c1 h.l1 h.x ∧ ∀ b o, h.A1 = some ⟨b, o, none⟩ → b ≠ g) ∧ PlR w h.A2 h.c2 h.zs ∧ ∀ b o, h.A2 = some ⟨b, o, none⟩ → b ≠ g
section
variable {w w' : World} {g n : Nat}
theorem TvR.on {h : Tv} (ht : TvR w g h) (hb : Below w.heap.size w w') : TvR w' g h := ⟨⟨ht.1.1.on hb, ht.1.2⟩, ht.2.1.on hb, ht.2.2⟩
theorem TvR.fr {h : Tv} (ht : TvR w g h) (hf : Fr (fun i => i = g) w w') : TvR w' g h := by
  refine ⟨⟨ht.1.1.keep hf.size fun b o e hb _ => hf.block b hb (ht.1.2 b o e), ht.1.2⟩, ⟨⟨ht.2.1.1.1, fun hl => ?_⟩, ht.2.1.2⟩, ht.2.2⟩
  obtain ⟨b2, o2, e2, h1, h2, hc⟩ := ht.2.1.1.2 hl
  exact ⟨b2, o2, e2, h1, Nat.lt_of_lt_of_le h2 hf.size, fun j u hj => (World.cell?_of_block (hf.block b2 h2 (ht.2.2 b2 o2 e2))).trans (hc j u hj)⟩
def tvCells (l : List Tv) : List Value := l.flatMap (·.v)
theorem tvCells_cons (h : Tv) (l : List Tv) : tvCells (h :: l) = .slice h.A1 h.l1.length h.c1 :: .int .i64 (h.p : Int) :: .slice h.A2 h.zs.length h.c2 :: tvCells l := by simp [tvCells, Tv.v]
theorem tvCells_length : ∀ l : List Tv, (tvCells l).length = l.length * 3
  | [] => rfl
  | h :: l => by rw [tvCells_cons]; simp only [List.length_cons]; rw [tvCells_length l]; omega
theorem tvCells_at : ∀ (l : List Tv) (i : Nat) (h : Tv), l[i]? = some h → (tvCells l)[i * 3]? = some (.slice h.A1 h.l1.length h.c1) ∧ (tvCells l)[i * 3 + 1]? = some (.int .i64 (h.p : Int)) ∧ (tvCells l)[i * 3 + 2]? = some (.slice h.A2 h.zs.length h.c2)
  | [], i, h, e => by simp at e
  | g :: l, 0, h, e => by
    simp at e; subst e
    rw [tvCells_cons]
    exact ⟨rfl, rfl, rfl⟩
  | g :: l, i + 1, h, e => by
    have ih := tvCells_at l i h (by simpa using e)
    rw [tvCells_cons, show (i + 1) * 3 = i * 3 + 3 by omega]
    exact ih
theorem tvCells_set : ∀ (l : List Tv) (i : Nat) (y : Tv), i < l.length → (((tvCells l).set (i * 3) (.slice y.A1 y.l1.length y.c1)).set (i * 3 + 1) (.int .i64 (y.p : Int))).set (i * 3 + 2) (.slice y.A2 y.zs.length y.c2) = tvCells (l.set i y)
  | [], i, y, h => by simp at h
  | g :: l, 0, y, h => by rw [List.set_cons_zero, tvCells_cons, tvCells_cons]; rfl
  | g :: l, i + 1, y, h => by
    have ih := tvCells_set l i y (by simpa using h)
    rw [List.set_cons_succ, tvCells_cons, tvCells_cons, ← ih, show (i + 1) * 3 = i * 3 + 3 by omega]
    rfl
/-- block g holds n divisions: cost, parts, places -/
def RT (w : World) (g n : Nat) (F : Nat → Nat × Nat × List Nat) : Prop :=
  ∃ hs : List Tv, hs.length = n ∧ VBlk w g 87 (tvCells hs) ∧ (∀ h ∈ hs, TvR w g h) ∧ ∀ k h, hs[k]? = some h → h.k = F k
variable {F F' : Nat → Nat × Nat × List Nat}
theorem RT.lt (h : RT w g n F) : g < w.heap.size := by obtain ⟨hs, _, h2, _⟩ := h; exact heap_lt h2
theorem RT.on (h : RT w g n F) (hb : Below w.heap.size w w') : RT w' g n F := by
  obtain ⟨hs, h1, h2, h3, h4⟩ := h
  exact ⟨hs, h1, h2.on hb, fun y hy => (h3 y hy).on hb, h4⟩
theorem RT.congr (h : RT w g n F) (he : ∀ k, k < n → F k = F' k) : RT w g n F' := by
  obtain ⟨hs, h1, h2, h3, h4⟩ := h
  exact ⟨hs, h1, h2, h3, fun k y hk => (h4 k y hk).trans (he k (by have := (List.getElem?_eq_some_iff.1 hk).1; omega))⟩
theorem RT.frozen (h : RT w g n F) (k : Nat) : w.frozen? ⟨g, k, none⟩ = false := by obtain ⟨hs, _, h2, _⟩ := h; exact h2.frozen k
theorem RT.get (h : RT w g n F) {k : Nat} (hk : k < n) : ∃ y : Tv, y.k = F k ∧ TvR w g y ∧ ∀ X, Below w.heap.size w X → X.cell? ⟨g, k * 3, none⟩ = some (.slice y.A1 y.l1.length y.c1) ∧ X.cell? ⟨g, k * 3 + 1, none⟩ = some (.int .i64 (y.p : Int)) ∧ X.cell? ⟨g, k * 3 + 2, none⟩ = some (.slice y.A2 y.zs.length y.c2) := by
  obtain ⟨hs, h1, h2, h3, h4⟩ := h
  obtain ⟨y, hy⟩ : ∃ y, hs[k]? = some y := ⟨hs[k]'(by omega), List.getElem?_eq_getElem (by omega)⟩
  obtain ⟨a0, a1, a2⟩ := tvCells_at hs k y hy
  exact ⟨y, h4 k y hy, h3 y (List.mem_of_getElem? hy), fun X hX => ⟨(h2.on hX).cell a0, (h2.on hX).cell a1, (h2.on hX).cell a2⟩⟩
theorem fr3g (w : World) (g i : Nat) (a b c : Value) : Fr (fun q => q = g) w (((w.setCell ⟨g, i, none⟩ a).setCell ⟨g, i + 1, none⟩ b).setCell ⟨g, i + 2, none⟩ c) :=
  (((Fr.refl (fun q => q = g) w).setCell (p := ⟨g, i, none⟩) (fun _ => rfl) _).setCell (p := ⟨g, i + 1, none⟩) (fun _ => rfl) _).setCell (p := ⟨g, i + 2, none⟩) (fun _ => rfl) _
theorem RT.set (h : RT w g n F) {k : Nat} (hk : k < n) {y : Tv} (hy : TvR w g y) :
    RT (((w.setCell ⟨g, k * 3, none⟩ (.slice y.A1 y.l1.length y.c1)).setCell ⟨g, k * 3 + 1, none⟩ (.int .i64 (y.p : Int))).setCell ⟨g, k * 3 + 2, none⟩ (.slice y.A2 y.zs.length y.c2)) g n (fun i => if i = k then y.k else F i) := by
  obtain ⟨hs, h1, h2, h3, h4⟩ := h
  have hf := fr3g w g (k * 3) (.slice y.A1 y.l1.length y.c1) (.int .i64 (y.p : Int)) (.slice y.A2 y.zs.length y.c2)
  refine ⟨hs.set k y, by rw [List.length_set, h1], ?_, fun z hz => ?_, fun i z hi => ?_⟩
  · rw [← tvCells_set hs k y (by omega)]
    exact ((h2.set (k * 3) _).set (k * 3 + 1) _).set (k * 3 + 2) _
  · rcases List.mem_or_eq_of_mem_set hz with hz | rfl
    · exact (h3 z hz).fr hf
    · exact hy.fr hf
  · by_cases e : i = k
    · subst e
      rw [List.getElem?_set_self (by omega)] at hi
      cases hi
      show _ = if i = i then y.k else F i
      rw [if_pos rfl]
    · rw [List.getElem?_set_ne (Ne.symm e)] at hi
      show _ = if i = k then y.k else F i
      rw [if_neg e]
      exact h4 i z hi
abbrev zT : Value := .agg #[.slice none 0 0, .int .i64 0, .slice none 0 0]
def zTv : Tv := ⟨none, 0, [], 0, 0, none, 0, []⟩
theorem infoTv : (Tryz.prog.info? 87).map (fun i => (i.zero, i.size, i.bytes)) = some (some zT, 3, 56) := by kernel_rfl
theorem made_t (n : Nat) : (madeCells #[Value.slice none 0 0, .int .i64 0, .slice none 0 0] (n * 3)).toList = tvCells (List.replicate n zTv) := by
  apply List.ext_getElem
  · simp [madeCells, tvCells_length]
  · intro i h1 h2
    have hi : i < n * 3 := by simpa [tvCells_length] using h2
    have hr : (List.replicate n zTv)[i / 3]? = some zTv := by rw [List.getElem?_replicate, if_pos (by omega)]
    obtain ⟨a0, a1, a2⟩ := tvCells_at _ _ _ hr
    have e : (tvCells (List.replicate n zTv))[i]? = some (tvCells (List.replicate n zTv))[i] := List.getElem?_eq_getElem h2
    apply Option.some.inj
    rw [← e]
    have h3 : i % 3 = 0 ∨ i % 3 = 1 ∨ i % 3 = 2 := by omega
    rcases h3 with h | h | h
    · rw [show (tvCells (List.replicate n zTv))[i]? = (tvCells (List.replicate n zTv))[i / 3 * 3]? by congr 1; omega, a0]
      simp [madeCells, h, zTv]
    · rw [show (tvCells (List.replicate n zTv))[i]? = (tvCells (List.replicate n zTv))[i / 3 * 3 + 1]? by congr 1; omega, a1]
      simp [madeCells, h, zTv]
    · rw [show (tvCells (List.replicate n zTv))[i]? = (tvCells (List.replicate n zTv))[i / 3 * 3 + 2]? by congr 1; omega, a2]
      simp [madeCells, h, zTv]
theorem VBlk.of_own3 {base m : Nat} {e : TypeId} {vs : List Value} (h : w.ownsRow base e 3 (.slice (some ⟨g, 0, none⟩) m m) m vs) : VBlk w g e vs := by
  have hl : vs.length = m * 3 := h.1
  rcases h.2 with ⟨hv, _⟩ | ⟨g', cap, cur, hv, hb, hh, h1, h2, h3, h4⟩
  · cases hv
  · simp only [Value.slice.injEq, Option.some.injEq, Addr.mk.injEq] at hv
    obtain ⟨⟨rfl, _⟩, _, rfl⟩ := hv
    unfold VBlk
    rw [hh]
    have e : cur = vs.toArray := by
      apply Array.toList_inj.1
      rw [← h4, List.take_of_length_le (by simp; omega)]
    rw [e]
theorem RT.zero (h : VBlk w g 87 (tvCells (List.replicate n zTv))) : RT w g n (fun _ => (0, 0, [])) :=
  ⟨_, by simp, h, fun y hy => by
    rw [List.eq_of_mem_replicate hy]
    exact ⟨⟨rnatr_nil _, fun b o e => by cases e⟩, PlR.nil _, fun b o e => by cases e⟩, fun k y hk => by
    rw [List.getElem?_replicate] at hk
    split at hk
    · cases hk; rfl
    · cases hk⟩
/-- a division's box -/
def TvB (w : World) (b g : Nat) (h : Tv) : Prop := w.heap[b]? = some (.cells h.v.toArray 87 (0, 0)) ∧ TvR w g h
theorem TvB.on {b : Nat} {h : Tv} (hd : TvB w b g h) (hb : Below w.heap.size w w') : TvB w' b g h := ⟨(hb.block b (heap_lt hd.1)).trans hd.1, hd.2.on hb⟩
theorem TvB.cells {b : Nat} {h : Tv} (hd : TvB w b g h) : w.cell? ⟨b, 0, none⟩ = some (.slice h.A1 h.l1.length h.c1) ∧ w.cell? ⟨b, 1, none⟩ = some (.int .i64 (h.p : Int)) ∧ w.cell? ⟨b, 2, none⟩ = some (.slice h.A2 h.zs.length h.c2) := by
  refine ⟨?_, ?_, ?_⟩ <;> (rw [cellsAt hd.1]; rfl)
end
theorem rd_seg {w : World} {b o : Nat} {l : List Int} (h : Rd w 0 w.heap.size 1 (some ⟨b, o, none⟩) l.length (ints l)) {i k : Nat} (hik : i < k) (hk : k ≤ l.length) : Rd w 0 w.heap.size 1 (some ⟨b, o + i, none⟩) (segL l i k).length (ints (segL l i k)) := by
  refine ⟨by simp [ints], fun hn => ?_⟩
  obtain ⟨b', o', e, h1, h2, hc⟩ := h.2 (by omega)
  simp only [Option.some.injEq, Addr.mk.injEq, and_true] at e
  obtain ⟨rfl, rfl⟩ := e
  refine ⟨b, o + i, rfl, h1, h2, fun j u hj => ?_⟩
  unfold ints segL at hj
  rw [List.getElem?_map, List.getElem?_take] at hj
  split at hj
  · rw [List.getElem?_drop] at hj
    have := hc (i + j) u (by unfold ints; rw [List.getElem?_map]; exact hj)
    rw [Nat.add_assoc]
    exact this
  · simp at hj
theorem spread_seg {W : World} {AD : Option Addr} {b o cD cc D : Nat} {lD : List Nat} {l : List Int} {i k : Nat} (hr : Rd W 0 W.heap.size 1 (some ⟨b, o, none⟩) l.length (ints l)) (hok : okZ l = true) (hl : l.length ≤ 300) (hik : i < k) (hk : k ≤ l.length) (hD : RNatR W AD cD lD D) (hDD : D = cmn l.length) :
    Calls Tryz.prog 48 #[.slice (some ⟨b, o + i, none⟩) (k - i) cc, .slice AD lD.length cD] W (RNatNew (chc l i k) W) := by
  have e := segL_length (i := i) hk
  have h := r10Spread_any (some ⟨b, o + i, none⟩) AD cc cD D lD (segL l i k) W (rd_seg hr hik hk) (fun z hz => okZ_abs hok z (segL_mem hz)) (by omega) (by omega) hD (by rw [hDD]; exact (cmn_small hl).2) (by rw [e, hDD]; exact cmn_dvd (by omega) (by omega))
  rw [e, hDD, ← cS_spN hk] at h
  exact h
theorem plr_cons {w : World} {g cap k : Nat} {zs : List Nat} (h : ∀ j u, (nInts (k :: zs))[j]? = some u → w.cell? ⟨g, j, none⟩ = some u) (hg : g < w.heap.size) : PlR w (some ⟨g, 0, none⟩) cap (k :: zs) := by
  refine ⟨⟨by simp [nInts], fun _ => ⟨g, 0, rfl, Nat.zero_le _, hg, fun j u hj => ?_⟩⟩, (fun e => (Option.some_ne_none _ e).elim), (fun e => (List.cons_ne_nil _ _ e).elim)⟩
  rw [Nat.zero_add]
  exact h j u hj
theorem run_app_one {P : Program} (t ty e : TypeId) (i : TypeInfo) (ht : P.underlying t = some (.slice e)) (hi : P.info? e = some i) (hz : i.zero = some (.int .i64 0)) (hsize : i.size = 1) (hby : i.bytes = 8)
    (w : World) (b k : Nat) (hb : w.heap[b]? = some (.cells #[.int .i64 (k : Int)] e (0, 0))) (A : Option Addr) (c : Nat) (zs : List Nat) (hpl : PlR w A c zs) (hn : zs.length ≤ 1000000) :
    ∃ g2 cap2 w', (Builtin.append_ #[t, t] ty #[.slice (some ⟨b, 0, none⟩) 1 1, .slice A zs.length c]).run P w = .ok (.slice (some ⟨g2, 0, none⟩) (k :: zs).length cap2) w' ∧ PlR w' (some ⟨g2, 0, none⟩) cap2 (k :: zs) ∧ Below w.heap.size w w' ∧ (g2 = b ∨ w.heap.size ≤ g2) := by
  have holds : ∀ j v, ([.int .i64 (k : Int)] : List Value)[j]? = some v → w.cell? ((⟨b, 0, none⟩ : Addr).add j) = some v := by
    intro j v hj
    match j, hj with
    | 0, hj =>
      simp at hj
      subst hj
      have m0 : w.cell? ⟨b, 0, none⟩ = some (.int .i64 (k : Int)) := by rw [cellsAt hb]; rfl
      simpa [Addr.add] using m0
    | j + 1, hj => simp at hj
  obtain ⟨h1, h2, h3⟩ := hpl
  rcases List.eq_nil_or_concat zs with rfl | ⟨zs', z', hzz⟩
  · obtain rfl := h3 rfl
    obtain ⟨-, rfl⟩ := h2 rfl
    have hrun := run_append_owned_none (P := P) (w := w) b t ty e i 1 ht hi (.slice (some ⟨b, 0, none⟩) 1 1) 1 [.int .i64 (k : Int)] ⟨rfl, .inr ⟨b, 1, #[.int .i64 (k : Int)], rfl, Nat.le_refl _, hb, Nat.le_refl _, by unfold maxLen; omega, rfl, rfl⟩⟩
    refine ⟨b, 1, w, hrun, plr_cons (fun j u hj => ?_) (heap_lt hb), Below.refl _ _, .inl rfl⟩
    have := holds j u (by simpa [nInts] using hj)
    unfold Addr.add at this
    split at this
    · rename_i e0; subst e0; exact this
    · simpa using this
  · have hpos : 0 < zs.length := by rw [hzz]; simp
    obtain ⟨b', o', rfl, _, _, hc⟩ := h1.2 hpos
    have hnews : ∀ j v, (nInts zs)[j]? = some v → w.cell? ((⟨b', o', none⟩ : Addr).add j) = some v := by
      intro j v hj
      have := hc j v hj
      unfold Addr.add
      split
      · rename_i e0; subst e0; simpa using this
      · exact this
    have hr := run_append_grow (P := P) (w := w) t ty e i (.int .i64 0) ht hi hz ⟨b, 0, none⟩ 1 1 [.int .i64 (k : Int)] (by rw [hsize]; rfl) holds ⟨b', o', none⟩ zs.length c (nInts zs) (by rw [hsize, nInts_length]; omega) hnews (by omega) (by omega) (growslice_fits (by omega) (by rw [hby]; omega))
    rw [Nat.add_comm] at hr
    refine ⟨w.heap.size, _, _, hr, plr_cons (fun j u hj => ?_) (by simp), ((Below.refl _ w).drew).alloc (Nat.le_refl _) _, .inr (Nat.le_refl _)⟩
    have hjl := (List.getElem?_eq_some_iff.1 hj).1
    have e1 : ([.int .i64 (k : Int)] : List Value) ++ nInts zs = nInts (k :: zs) := by simp [nInts]
    have hh : (w.drew.alloc (.cells (#[Value.int .i64 (k : Int)] ++ (nInts zs).toArray ++ Builtin.zeroCells (Value.int .i64 0).cells (grownCap w (zs.length + 1) 1 e - (zs.length + 1))) e)).heap[w.heap.size]? = _ := heap_alloc_new w.drew _
    rw [cellsAt hh, Array.getElem?_append_left (by simp [nInts] at hjl ⊢; omega)]
    rw [← hj, ← e1]
    simp
theorem tbox_facts {w : World} {b : Nat} {u v x : Value} {T : TypeId} (h : w.heap[b]? = some (.cells #[u, v, x] T (0, 0))) : w.cell? ⟨b, 0, none⟩ = some u ∧ w.cell? ⟨b, 1, none⟩ = some v ∧ w.cell? ⟨b, 2, none⟩ = some x ∧ w.frozen? ⟨b, 0, none⟩ = false ∧ w.frozen? ⟨b, 1, none⟩ = false ∧ w.frozen? ⟨b, 2, none⟩ = false :=
  ⟨by rw [cellsAt h]; rfl, by rw [cellsAt h]; rfl, by rw [cellsAt h]; rfl, frozenAt h 0, frozenAt h 1, frozenAt h 2⟩
theorem box_int {w : World} {b j : Nat} {T : TypeId} {d : Int} (h : w.heap[b]? = some (.cells #[.slice none 0 0, .int .i64 0, .slice none 0 0] T (0, 0))) (hc : w.cell? ⟨b, j, none⟩ = some (.int .i64 d)) : d = 0 := by
  rw [cellsAt h] at hc
  match j, hc with
  | 0, hc => simp at hc
  | 1, hc => simp at hc; exact hc.symm
  | 2, hc => simp at hc
  | j + 3, hc => simp at hc
/-- a division is put into a box that was made for it: what it holds does not lie there -/
theorem TvB.store {w : World} {b g k : Nat} {T : TypeId} {A1 A2 : Option Addr} {c1 c2 x p : Nat} {l1 zs : List Nat} (h : w.heap[b]? = some (.cells #[.slice none 0 0, .int .i64 0, .slice none 0 0] T (0, 0))) (hT : T = 87) (hy : TvR w g ⟨A1, c1, l1, x, p, A2, c2, k :: zs⟩) (hk : 0 < k) :
    TvB (((w.setCell ⟨b, 0, none⟩ (.slice A1 l1.length c1)).setCell ⟨b, 1, none⟩ (.int .i64 (p : Int))).setCell ⟨b, 2, none⟩ (.slice A2 (k :: zs).length c2)) b g ⟨A1, c1, l1, x, p, A2, c2, k :: zs⟩ := by
  subst hT
  have hf : Fr (fun q => q = b) w (((w.setCell ⟨b, 0, none⟩ (.slice A1 l1.length c1)).setCell ⟨b, 1, none⟩ (.int .i64 (p : Int))).setCell ⟨b, 2, none⟩ (.slice A2 (k :: zs).length c2)) :=
    (((Fr.refl (fun q => q = b) w).setCell (p := ⟨b, 0, none⟩) (fun _ => rfl) _).setCell (p := ⟨b, 1, none⟩) (fun _ => rfl) _).setCell (p := ⟨b, 2, none⟩) (fun _ => rfl) _
  obtain ⟨⟨hn, h1⟩, hp, h2⟩ := hy
  refine ⟨by simp [World.setCell, Array.getElem?_modify, h, Tv.v], ⟨hn.keep hf.size fun c o e hc hl => hf.block c hc (fun hcb => ?_), h1⟩, ⟨⟨hp.1.1, fun hl => ?_⟩, hp.2⟩, h2⟩
  · subst hcb
    obtain ⟨b', o', e', _, _, hce⟩ := hn.rd.2 hl
    rw [e] at e'
    simp only [Option.some.injEq, Addr.mk.injEq, and_true] at e'
    obtain ⟨rfl, rfl⟩ := e'
    obtain ⟨d, hd⟩ : ∃ d, l1[l1.length - 1]? = some d := ⟨l1[l1.length - 1]'(by simp at hl ⊢; omega), List.getElem?_eq_getElem (by simp at hl ⊢; omega)⟩
    have hu : (d4s l1)[l1.length - 1]? = some (.int .i64 (d : Int)) := by unfold d4s; rw [List.getElem?_map, hd]; rfl
    have h0 := box_int h (hce _ _ hu)
    have hlast := hn.norm.2
    rw [List.getLast?_eq_getElem?, hd] at hlast
    exact hlast (by simp; omega)
  · obtain ⟨b2, o2, e2, g1, g2, hc⟩ := hp.1.2 hl
    refine ⟨b2, o2, e2, g1, Nat.lt_of_lt_of_le g2 hf.size, fun j u hj => (World.cell?_of_block (hf.block b2 g2 (fun hcb => ?_))).trans (hc j u hj)⟩
    subst hcb
    have h0 := box_int h (hc 0 (.int .i64 (k : Int)) (by simp [nInts]))
    omega
def f3 (x : Nat × List Nat) : Nat × Nat × List Nat := (x.1, x.2.length + 1, x.2)
theorem wp_app_one {P : Program} {w : World} {o : Oper} {a : Act} {K : Act → World → Prop} {Q : Exit → Act → World → Prop} (s x : Operand) (t : TypeId)
    (ho : o.op = .call { callee := .builtin .append, args := #[s, x], argTypes := #[t, t] })
    (e : TypeId) (i : TypeInfo) (ht : P.underlying t = some (.slice e)) (hi : P.info? e = some i) (hz : i.zero = some (.int .i64 0)) (hsize : i.size = 1) (hby : i.bytes = 8)
    (b k : Nat) (hs : a.eval s = .slice (some ⟨b, 0, none⟩) 1 1) (hb : w.heap[b]? = some (.cells #[.int .i64 (k : Int)] e (0, 0))) (A : Option Addr) (c : Nat) (zs : List Nat) (hx : a.eval x = .slice A zs.length c) (hpl : PlR w A c zs) (hn : zs.length ≤ 1000000)
    (h : ∀ g2 cap2 w', PlR w' (some ⟨g2, 0, none⟩) cap2 (k :: zs) → Below w.heap.size w w' → (g2 = b ∨ w.heap.size ≤ g2) → K (a.put o.dst (.slice (some ⟨g2, 0, none⟩) (k :: zs).length cap2)) w') : o.wp P a w K Q := by
  obtain ⟨g2, cap2, w', hr, h1, h2, h3⟩ := run_app_one (P := P) t o.type e i ht hi hz hsize hby w b k hb A c zs hpl hn
  unfold Oper.wp execOp
  simp only [ho, resolve, invoke, builtin, Sem.run_bind, Sem.run_pure, Result.andThen_ok, List.map_toArray, List.map_cons, List.map_nil, hs, hx, hr]
  exact h g2 cap2 w' h1 h2 h3
theorem RT.set1 {w : World} {g n k x cs : Nat} {F : Nat → Nat × Nat × List Nat} {As : Option Addr} {ls : List Nat} (h : RT w g n F) (hk : k < n) (hs : RNatR w As cs ls x) (hne : ∀ b o, As = some ⟨b, o, none⟩ → b ≠ g) :
    RT (((w.setCell ⟨g, k * 3, none⟩ (.slice As ls.length cs)).setCell ⟨g, k * 3 + 1, none⟩ (.int .i64 1)).setCell ⟨g, k * 3 + 2, none⟩ (.slice none 0 0)) g n (fun i => if i = k then (x, 1, []) else F i) :=
  h.set hk (y := ⟨As, cs, ls, x, 1, none, 0, []⟩) ⟨⟨hs, hne⟩, PlR.nil _, fun _ _ e => (Option.some_ne_none _ e.symm).elim⟩
theorem runF_zero (c : Nat → Nat → Nat) (E : Nat) (T : Nat → Nat × List Nat) (n i : Nat) : (c i n, 1, []) = f3 (runF c E T n i 0) := by unfold f3 runF; rfl
end Go.Proofs.YtnpfdelklolchaaGreatDoor
