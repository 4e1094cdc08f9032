/- (tally).histogram: what was counted, as a sorted list. -/
import Derived.Test.YtjkoppdddaknlaaGreatDoorG13
import Derived.Maps.Own
import Derived.Maps.OwnOps
import Derived.Maps.OwnSet
import Derived.Maps.RangeWalk
import Derived.Maps.AppendAt
namespace Go.Proofs.YtjkoppdddaknlaaGreatDoor
open Go Go.RowKit Go.Proofs Go.Maps

theorem law3 : Keyed Tryz.prog 3 := int_keyed Tryz.underlying3
theorem zero3 (w : World) : (zeroValue 3).run Tryz.prog w = .ok (.int .i64 0) w := by kernel_rfl

/-- block m is a map[int]int of at most n entries that holds f -/
def MapII (w : World) (m n : Nat) (f : Int → Int) : Prop :=
  ∃ D : DataW Unit, w.ownsMap Tryz.prog 3 (plainElem Tryz.prog 3) m n D ∧ ∀ x, (Lit.int .i64 x).wf = true → D.atKey (.int .i64 x) (.lit (.int .i64 0)) = .lit (.int .i64 (f x))

theorem lit_inj {H : Type} {a b : Int} (h : (DataW.lit (.int .i64 a) : DataW H) = .lit (.int .i64 b)) : a = b := by
  injection h with h; injection h
/-- pairs as cells -/
def cells2 (cs : List (Int × Int)) : List Value := cs.flatMap fun c => [.int .i64 c.1, .int .i64 c.2]
theorem cells2_length (cs : List (Int × Int)) : (cells2 cs).length = cs.length * 2 := by
  induction cs with
  | nil => rfl
  | cons c cs ih => simp only [cells2, List.flatMap_cons, List.length_append, List.length_cons, List.length_nil] at *; omega
theorem cells2_append (a b : List (Int × Int)) : cells2 (a ++ b) = cells2 a ++ cells2 b := by simp [cells2]

/-- cs is what f counts: sorted, each number positive -/
def IsHist (f : Int → Int) (cs : List (Int × Int)) : Prop := cs.Pairwise (fun a b => a.1 < b.1) ∧ ∀ x n, (x, n) ∈ cs ↔ f x = n ∧ 0 < n

theorem sorted_ext {α : Type} (lt : α → α → Prop) (asym : ∀ a b, lt a b → ¬ lt b a) : ∀ (l m : List α), l.Pairwise lt → m.Pairwise lt → (∀ x, x ∈ l ↔ x ∈ m) → l = m
  | [], [], _, _, _ => rfl
  | [], b :: m, _, _, h => absurd ((h b).2 (by simp)) (by simp)
  | a :: l, [], _, _, h => absurd ((h a).1 (by simp)) (by simp)
  | a :: l, b :: m, hl, hm, h => by
    rw [List.pairwise_cons] at hl hm
    have hab : a = b := by
      have h1 := (h a).1 (by simp)
      have h2 := (h b).2 (by simp)
      simp only [List.mem_cons] at h1 h2
      rcases h1 with h1 | h1
      · exact h1
      · rcases h2 with h2 | h2
        · exact h2.symm
        · exact absurd (hl.1 b h2) (asym _ _ (hm.1 a h1))
    subst hab
    congr 1
    refine sorted_ext lt asym l m hl.2 hm.2 fun x => ?_
    have hx := h x
    simp only [List.mem_cons] at hx
    constructor
    · intro hxl
      rcases hx.1 (.inr hxl) with rfl | h'
      · exact absurd (hl.1 x hxl) (fun h => asym _ _ h h)
      · exact h'
    · intro hxm
      rcases hx.2 (.inr hxm) with rfl | h'
      · exact absurd (hm.1 x hxm) (fun h => asym _ _ h h)
      · exact h'
theorem IsHist.uniq {f : Int → Int} {cs cs' : List (Int × Int)} (h : IsHist f cs) (h' : IsHist f cs') : cs = cs' :=
  sorted_ext (fun a b : Int × Int => a.1 < b.1) (fun a b h1 h2 => by omega) cs cs' h.1 h'.1 (fun ⟨x, n⟩ => (h.2 x n).trans (h'.2 x n).symm)

theorem clip_count (A : Option Addr) (n c : Nat) (w : World) (hn : n ≤ c) (hc : c ≤ maxLen) (hA : A = none → n = 0 ∧ c = 0) :
    Calls Tryz.prog 65 #[.slice A n c] w fun e w' => e = .returned (.slice A n n) ∧ w = w' := by
  unfold maxLen at hc
  rcases A with _ | a
  · obtain ⟨rfl, rfl⟩ := hA rfl
    go_enter Tryz.func65, Tryz.ntmps65
    go_wp2
    go_ret
    exact ⟨rfl, rfl⟩
  · go_enter Tryz.func65, Tryz.ntmps65
    go_wp2
    go_ret
    exact ⟨rfl, rfl⟩

theorem Tryz.infoC : (Tryz.prog.info? 83).map (fun i => (i.zero, i.size, i.bytes)) = some (some (.agg #[.int .i64 0, .int .i64 0]), 2, 16) := by kernel_rfl

theorem ranges_fr {H : Type} {P : Program} {k : TypeId} {R : Value → Option (DataW H × List MemPlace)} {w w' : World} {b r n : Nat} {D : DataW H} {left : Lit → Bool} {cnt : Nat} {may : Nat → Prop}
    (h : w.ranges P k R b r n D left cnt) (hf : Fr may w w') (hb : ¬ may b) (hr : ¬ may r) : w'.ranges P k R b r n D left cnt := by
  have hrl := h.lt
  have hbl := h.owns.lt
  obtain ⟨es, clock, since, seen, c0, h1, h2, h3, h4, h5, h6⟩ := h
  exact ⟨es, clock, since, seen, c0, (hf.block b hbl hb).trans h1, h2, h3, h4, (hf.block r hrl hr).trans h5, h6⟩
theorem ownsMap_fr {H : Type} {P : Program} {k : TypeId} {R : Value → Option (DataW H × List MemPlace)} {w w' : World} {b n : Nat} {D : DataW H} {may : Nat → Prop}
    (h : w.ownsMap P k R b n D) (hf : Fr may w w') (hb : ¬ may b) : w'.ownsMap P k R b n D := by
  have hbl := h.lt
  obtain ⟨es, clock, h1, h2⟩ := h
  exact ⟨es, clock, (hf.block b hbl hb).trans h1, h2⟩
/-- the buckets of 'zs' that have values -/
def keepF (f : Int → Int) (zs : List Int) : List (Int × Int) := (zs.filter (fun x => decide (0 < f x))).map (fun x => (x, f x))
theorem keepF_snoc (f : Int → Int) (zs : List Int) (x : Int) : keepF f (zs ++ [x]) = keepF f zs ++ if 0 < f x then [(x, f x)] else [] := by
  unfold keepF; rw [List.filter_append, List.map_append]; split <;> simp [*]
theorem keepF_length (f : Int → Int) (zs : List Int) : (keepF f zs).length ≤ zs.length := by
  unfold keepF; simpa using List.length_filter_le _ zs
theorem keepF_hist (f : Int → Int) (zs : List Int) (h : zs.Pairwise (· < ·)) (hm : ∀ x, 0 < f x → x ∈ zs) : IsHist f (keepF f zs) := by
  constructor
  · unfold keepF
    rw [List.pairwise_map]
    exact h.filter _
  · intro x n
    unfold keepF
    simp only [List.mem_map, List.mem_filter, Prod.mk.injEq, decide_eq_true_eq]
    constructor
    · rintro ⟨y, ⟨_, h1⟩, rfl, rfl⟩; exact ⟨rfl, h1⟩
    · rintro ⟨rfl, h1⟩; exact ⟨x, ⟨hm x h1, h1⟩, rfl, rfl⟩
/-- what loop 1 keeps -/
def Loop1 (w wr : World) (m n : Nat) (b : Int) (D : DataW Unit) (left : Lit → Bool) (cnt : Nat) : Prop :=
  ∃ (v : Value) (zs : List Int), wr.ranges Tryz.prog 3 (plainElem Tryz.prog 3) m (w.heap.size + 1 + 1 + 1) n D left cnt ∧ zs.length + cnt ≤ n ∧
    wr.heap[w.heap.size + 1 + 1]? = some (.cells #[v] 113 (0, 0)) ∧ wr.ownsRow (w.heap.size + 1 + 1 + 1 + 1) 3 1 v zs.length (ints zs) ∧ zs.Pairwise (· < ·) ∧
    (∀ x, x ∈ zs ↔ (Lit.int .i64 x).wf = true ∧ has D (.int .i64 x) = true ∧ left (.int .i64 x) = false) ∧
    wr.heap[w.heap.size]? = some (.cells #[.int .i64 0, .slice none 0 0] 61 (0, 0)) ∧
    wr.heap[w.heap.size + 1]? = some (.cells #[.int .i64 b, .slice none 0 0] 61 (0, 0)) ∧
    Below w.heap.size w wr ∧ w.heap.size + 1 + 1 + 1 + 1 ≤ wr.heap.size

/-- what loop 2 keeps: W is where it began -/
def Loop2 (w W wr : World) (_m _n : Nat) (b : Int) (f : Int → Int) (zs : List Int) (k : Nat) : Prop :=
  ∃ (v : Value), wr.heap[w.heap.size + 1]? = some (.cells #[.int .i64 b, v] 61 (0, 0)) ∧ wr.ownsRow W.heap.size 83 2 v (keepF f (zs.take k)).length (cells2 (keepF f (zs.take k))) ∧
    Fr (fun i => i = w.heap.size + 1 ∨ W.heap.size ≤ i) W wr

set_option maxHeartbeats 1000000 in
theorem histogram_any (m n : Nat) (b : Int) (f : Int → Int) (w : World) (hm : MapII w m n f) (hn : n < 100000000) (hf : ∀ x, f x ≠ 0 → (Lit.int .i64 x).wf = true) :
    Calls Tryz.prog 46 #[.map (some m), .int .i64 b] w fun e w' => ∃ A cs, e = .returned (.agg #[.int .i64 b, .slice A cs.length cs.length]) ∧ IsHist f cs ∧
      Rd w' w.heap.size w'.heap.size 2 A cs.length (cells2 cs) ∧ cs.length ≤ n ∧ Below w.heap.size w w' := by
  obtain ⟨D, hown, hD⟩ := hm
  obtain ⟨i0, hi, hz0, hz1, hz2⟩ := info_parts Tryz.infoC
  have HD := Lib.hid hD
  have HF := Lib.hid hf
  clear hD hf
  go_enter Tryz.func46, Tryz.ntmps46
  go_wp2_with (at_range; refine wpList_range_own _ rfl _ 91 rfl 3 3 law3 Tryz.underlying91 _ m n _ rfl (((hown.alloc _).alloc _).alloc _) ?_; intro w0 hrg0 hg0 hs0)
  go_frame
  simp only [World.size_alloc] at hrg0 hs0 ⊢
  go_loopw [7] (fun _ wr => ∃ left cnt, Loop1 w wr m n b D left cnt) (fun _ wr => wr.rangeLeft m (w.heap.size + 1 + 1 + 1))
  case atStart =>
    have hbl : ∀ (i : Nat) (o : Obj), (((w.alloc (.cells #[.int .i64 0, .slice none 0 0] 61)).alloc (.cells #[.int .i64 b, .slice none 0 0] 61)).alloc (.cells #[.slice none 0 0] 113)).heap[i]? = some o → w0.heap[i]? = some o := by
      intro i o h
      rw [hg0.block i (heap_lt h) (by simp)]; exact h
    refine ⟨_, _, .slice none 0 0, [], hrg0, ?_, hbl _ _ ?_, ⟨by simp [ints], .inl ⟨rfl, rfl⟩⟩, List.Pairwise.nil, ?_, hbl _ _ ?_, hbl _ _ ?_, ?_, by omega⟩
    · obtain ⟨es, clock, _, _, hsz, hDm⟩ := hown
      rw [hDm]; simp only [Maps.size, length_sorted, List.length_map, List.length_nil, Nat.zero_add]; simpa using hsz
    · exact alloc_at _ _ _ (by simp)
    · intro x; simp
    · exact (Below.heap_alloc _ _ _ (by simp; omega)).trans ((Below.heap_alloc _ _ _ (by simp)).trans (heap_alloc_new _ _))
    · exact (Below.heap_alloc _ _ _ (by simp)).trans (alloc_at _ _ _ (by simp))
    · exact ((((Below.refl _ w).alloc (Nat.le_refl _) _).alloc (by simp) _).alloc (by simp; omega) _).grown hg0 (by simp; omega) (by simp)
  case round =>
    obtain ⟨left, cnt, v, zs, hrg, hcnt, hl, ho, hso, hmem, hr0, hh0, hbw, hsz⟩ := hrel
    have HM := Lib.hid hmem
    have HO := Lib.hid ho
    have HR := Lib.hid (And.intro hr0 hh0)
    have HL := Lib.hid hl
    clear hmem ho hr0 hh0 hl
    go_wp2_with (at_next; refine wpList_next_ranges_ii _ rfl _ rfl 3 3 .i64 .i64 law3 Tryz.underlying3 Tryz.underlying3 m (w.heap.size + 1 + 1 + 1) n _ _ _ rfl hrg ?_ ?_)
    · intro _ hl0
      have hall : ∀ x, x ∈ zs ↔ (Lit.int .i64 x).wf = true ∧ has D (.int .i64 x) = true := by
        intro x; rw [HM.out x, hl0]; simp
      have HA := Lib.hid hall
      clear hall hl0
      obtain ⟨hr0, hh0⟩ := HR.out
      have hown1 := hrg.owns
      obtain ⟨A, cap, rfl, hnc, hcm, hAn⟩ := ownsRow_shape HO.out
      have hlc : wr.cell? ⟨w.heap.size + 1 + 1, 0, none⟩ = some (.slice A zs.length cap) := by rw [cellsAt HL.out]; rfl
      have HRd := Lib.hid (Rd.of_own HO.out)
      clear hrg hAn
      unfold maxLen at hcm
      go_wp2
      have HC := Lib.hid hlc
      clear hlc
      obtain ⟨W1, rfl⟩ : ∃ W1 : World, W1 = wr := ⟨_, rfl⟩
      go_loopw [9, 23] (fun _ i wx => ∃ k : Nat, k ≤ zs.length ∧ i = .int .i64 k ∧ Loop2 w W1 wx m n b f zs k) (fun _ i _ => zs.length - (intOf i).toNat)
      case atStart => exact ⟨0, Nat.zero_le _, rfl, .slice none 0 0, hh0, ⟨by simp [cells2, keepF], .inl ⟨rfl, by simp [keepF]⟩⟩, Fr.refl _ _⟩
      case round =>
        obtain ⟨k, hk, rfl, v2, hb2, ho2, hf2⟩ := hrel
        have hox := ownsRow_fr HO.out hf2 (fun i hi => by have := ownsRow_block HO.out hi; omega)
        have hmx := hown.lt
        have hownx := ownsMap_fr hown1 hf2 (by omega)
        have hc1 : wr.cell? ⟨w.heap.size + 1, 1, none⟩ = some v2 := by rw [cellsAt hb2]; rfl
        have hc0 : wr.cell? ⟨w.heap.size + 1, 0, none⟩ = some (.int .i64 b) := by rw [cellsAt hb2]; rfl
        have hz1' : wr.frozen? ⟨w.heap.size + 1, 1, none⟩ = false := frozenAt hb2 1
        have hkl := keepF_length f (zs.take k)
        rw [List.length_take] at hkl
        have HB2 := Lib.hid hb2
        have HO2 := Lib.hid ho2
        have HF2 := Lib.hid hf2
        clear hb2 ho2 hf2 hh0 hr0
        by_cases hlt : k < zs.length
        · obtain ⟨g, o, u, rfl, hgB, hu, hcell⟩ := (Rd.of_own hox).at1 hlt
          obtain ⟨z, hz, rfl⟩ := ints_get hu
          have hzm : z ∈ zs := List.mem_of_getElem? hz
          obtain ⟨hwz, hhz⟩ := (HA.out z).1 hzm
          obtain ⟨c, hrun, hat, hwc⟩ := hownx.lookup_int law3 Tryz.underlying91 Tryz.underlying3 (zero3 _) (keyOf_int_mk Tryz.underlying3 hwz)
          obtain rfl : c = f z := by
            have := HD.out z hwz
            exact lit_inj (hat.symm.trans this)
          have htk : zs.take (k + 1) = zs.take k ++ [z] := by
            rw [List.take_add_one, hz]; rfl
          have HTK := Lib.hid htk
          clear htk hz hu hox hownx hat hwc hhz hzm hown1
          by_cases hpos : 0 < f z
          · go_wp2_with (at_builtin; refine wpList_append_own _ rfl (.tmp 32) (.tmp 38) 59 rfl W1.heap.size 83 i0 _ 2 16 Tryz.underlying59 hi hz0 hz1 hz2 rfl (by decide) v2 _ _ rfl (HO2.out.alloc _) ⟨wr.heap.size, 0, none⟩ 1 1 [.int .i64 z, .int .i64 (f z)] rfl rfl (cell_two_new _ _ _ _) (by simp [Value.oneCell']) ?c3 ?c4 ?c5 ?_)
            case c3 => unfold maxLen; omega
            case c4 => omega
            case c5 => have := HF2.out.size; simp; omega
            intro v' w2 hown' hgrow _
            obtain ⟨g', cap', rfl, hgb, hgl, _, _⟩ := ownsRow_some hown' (by omega)
            have hfg := Fr.of_grown hgrow
            have hsz2 : wr.heap.size + 1 ≤ w2.heap.size := by have := hgrow.size; simpa using this
            have hne : ∀ i, i = w.heap.size + 1 → ¬ some i = v2.ownBlock := by
              intro i hi hv
              have := (ownsRow_block HO2.out hv).1
              omega
            have hbx : w2.heap[w.heap.size + 1]? = some (.cells #[.int .i64 b, v2] 61 (0, 0)) := by
              rw [hfg.block _ (by simp; have := HF2.out.size; omega) (hne _ rfl)]
              exact (Below.heap_alloc _ _ _ (by have := HF2.out.size; omega)).trans HB2.out
            have hcx : w2.cell? ⟨w.heap.size + 1, 1, none⟩ = some v2 := by rw [cellsAt hbx]; rfl
            have hzx : w2.frozen? ⟨w.heap.size + 1, 1, none⟩ = false := frozenAt hbx 1
            have HBX := Lib.hid hbx
            have HOX := Lib.hid hown'
            have HFX : Hid (Fr (fun i => i = w.heap.size + 1 ∨ W1.heap.size ≤ i) W1 w2) := by
              refine Lib.hid (Fr.trans (HF2.out.alloc (.cells #[.int .i64 z, .int .i64 (f z)] 83)) hfg ?_)
              intro i _ hi
              right; exact (ownsRow_block HO2.out hi).1
            have hgne : g' ≠ w.heap.size + 1 := by omega
            clear hbx hown' hfg hgrow hrun hc1 hc0 hz1' hne
            go_wp2
            go_roundw
            case rel =>
              refine ⟨k + 1, by omega, by go_num, .slice (some ⟨g', 0, none⟩) ((keepF f (zs.take k)).length + 1) cap', ?_, ?_, ?_⟩
              · have := HBX.out
                simp [World.setCell, Array.getElem?_modify, this]
              · rw [HTK.out, keepF_snoc, if_pos hpos, cells2_append]
                have h2 := ownsRow_fr (may := fun i => i = w.heap.size + 1) HOX.out ((Fr.refl (fun i => i = w.heap.size + 1) w2).setCell (p := ⟨w.heap.size + 1, 1, none⟩) (fun _ => rfl) (.slice (some ⟨g', 0, none⟩) ((keepF f (zs.take k)).length + 1) cap')) (fun i hi => by cases hi; exact hgne)
                simpa [cells2] using h2
              · exact HFX.out.setCell (fun _ => .inl rfl) _
            case measure => simp [intOf]; omega
          · have hpos' : decide (0 < f z) = false := by simpa using hpos
            go_wp2
            go_roundw
            case rel =>
              refine ⟨k + 1, by omega, by go_num, v2, HB2.out, ?_, HF2.out⟩
              rw [HTK.out, keepF_snoc, if_neg hpos, List.append_nil]
              exact HO2.out
            case measure => simp [intOf]; omega
        · have hke : k = zs.length := by omega
          have htk : zs.take k = zs := List.take_of_length_le (by omega)
          rw [htk] at HO2
          obtain ⟨A2, cap2, rfl, hnc2, hcm2, hA2⟩ := ownsRow_shape HO2.out
          have hfin : IsHist f (keepF f zs) := by
            refine keepF_hist f zs hso fun x hx => ?_
            have hwx := HF.out x (by omega)
            refine (HA.out x).2 ⟨hwx, ?_⟩
            cases hh : has D (.int .i64 x) with
            | true => rfl
            | false =>
              have h1 := atKey_of_not_has hh (.lit (.int .i64 0))
              have h2 := lit_inj (h1.symm.trans (HD.out x hwx))
              omega
          have HFIN := Lib.hid hfin
          have hrx : wr.heap[w.heap.size]? = some (.cells #[.int .i64 0, .slice none 0 0] 61 (0, 0)) := (HF2.out.block _ (by omega) (by omega)).trans HR.out.1
          have hr0' : wr.cell? ⟨w.heap.size, 0, none⟩ = some (.int .i64 0) := by rw [cellsAt hrx]; rfl
          have hr1' : wr.cell? ⟨w.heap.size, 1, none⟩ = some (.slice none 0 0) := by rw [cellsAt hrx]; rfl
          have hf0' : wr.frozen? ⟨w.heap.size, 0, none⟩ = false := frozenAt hrx 0
          have hf1' : wr.frozen? ⟨w.heap.size, 1, none⟩ = false := frozenAt hrx 1
          have HCL := Lib.hid (clip_count A2 (keepF f zs).length cap2 wr hnc2 hcm2 hA2)
          clear hfin hrx hke htk hox hownx hown1 hA2
          unfold maxLen at hcm2
          go_wp2_with fail
          refine HCL.out.mono ?_
          rintro e w' ⟨rfl, rfl⟩
          clear HCL
          go_wp2
          refine bodyPost_ret (v := .agg #[.int .i64 b, .slice A2 (keepF f zs).length (keepF f zs).length]) (by simp [results, Tryz.results46, go_sem, hr0', hr1']) rfl ?_
          have hsz2 := HF2.out.size
          have fin : ∀ W : World, Fr (fun i => i = w.heap.size + 1 ∨ i = w.heap.size) wr W → ∃ A cs, Ending.returned (Value.agg #[Value.int .i64 b, .slice A2 (keepF f zs).length (keepF f zs).length]) = .returned (.agg #[.int .i64 b, .slice A cs.length cs.length]) ∧ IsHist f cs ∧ Rd W w.heap.size W.heap.size 2 A cs.length (cells2 cs) ∧ cs.length ≤ n ∧ Below w.heap.size w W := by
            intro W hW
            refine ⟨A2, keepF f zs, rfl, HFIN.out, ?_, by have := keepF_length f zs; omega, ?_⟩
            · exact (Rd.of_own (ownsRow_fr HO2.out hW (fun i hi => by have := (ownsRow_block HO2.out hi).1; omega))).more (by omega) (Nat.le_refl _)
            · exact hbw.trans ((Fr.trans (HF2.out.mono (may' := fun i => w.heap.size ≤ i) (fun i _ hi => by omega)) hW (fun i _ hi => by omega)).below (by omega) (fun i hi => by omega))
          refine fin _ ?_
          repeat (first | exact Fr.refl _ _ | (refine Fr.setCell ?_ (fun _ => by simp) _))
    · intro x c w1 cnt1 hwx hwc hlx hat hrg1 hlt hg1 hs1 hen
      have hf1 := Fr.of_grown hg1
      have hl1 : w1.heap[w.heap.size + 1 + 1]? = some (.cells #[v] 113 (0, 0)) := (hf1.block _ (by omega) (by simp)).trans HL.out
      have ho1 := ownsRow_fr HO.out hf1 (fun i hi => by have := (ownsRow_block HO.out hi).1; simp; omega)
      go_wp2_with fail
      refine (put_any (w.heap.size + 1 + 1) (w.heap.size + 1 + 1 + 1 + 1) zs.length v zs x w1 hl1 (by omega) (by omega) ho1 hso (by omega)).mono ?_
      rintro e w2 ⟨rfl, v2, hl2, ho2, hf2⟩
      have hrg2 := ranges_fr hrg1 hf2 (by have := hown.lt; omega) (by omega)
      have hcnt' := hrg.left_eq
      have hcnt2 := hrg2.left_eq
      have hfa : Fr (fun i => i = w.heap.size + 1 + 1 ∨ i = w.heap.size + 1 + 1 + 1 ∨ w.heap.size + 1 + 1 + 1 + 1 ≤ i) wr w2 := by
        refine Fr.trans (hf1.mono ?_) hf2 ?_
        · intro i _ hi; right; left; simpa using hi
        · intro i _ hi; omega
      have hrel2 : Loop1 w w2 m n b D (fun z => left z && !z.sameKey (.int .i64 x)) cnt1 := by
        refine ⟨v2, insAt zs x, hrg2, by rw [insAt_length]; omega, hl2, by rw [insAt_length]; exact ho2, ?_, ?_, (hfa.block _ (by omega) (by omega)).trans HR.out.1, (hfa.block _ (by omega) (by omega)).trans HR.out.2, ?_, by have := hfa.size; omega⟩
        · refine insAt_sorted zs x hso ?_
          intro hx
          have := ((HM.out x).1 hx).2.2
          rw [hlx] at this; cases this
        · intro y
          rw [insAt_mem, HM.out y]
          by_cases hyx : y = x
          · subst hyx
            have hk : Lit.sameKey (.int .i64 y) (.int .i64 y) = true := WideAt.sameKey_self trivial
            simp [hk, hwx, has_true_of_atKey hat]
          · have hk : Lit.sameKey (.int .i64 y) (.int .i64 x) = false := sameKey_ne (by simpa using hyx)
            simp [hk, hyx]
        · exact hbw.trans (hfa.below (by omega) (by intro i hi; omega))
      have HREL := Lib.hid hrel2
      clear hrel2 hfa hrg2 hf2 ho2 hl2 ho1 hl1 hf1 hrg1 hen hg1 hs1 hlx hat hrg
      go_wp2
      go_roundw
      case rel => exact ⟨_, _, HREL.out⟩
      case measure => rw [hcnt2, hcnt']; exact hlt
end Go.Proofs.YtjkoppdddaknlaaGreatDoor
