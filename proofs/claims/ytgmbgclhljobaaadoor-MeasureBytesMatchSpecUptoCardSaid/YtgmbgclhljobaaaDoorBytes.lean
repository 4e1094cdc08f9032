/- Bytes, of the program and of the reference. -/
import Derived.Test.YtgmbgclhljobaaaDoorVbPut
import Derived.Test.YtgmbgclhljobaaaDoorRChk
import Derived.Test.YtgmbgclhljobaaaDoorSum
import Derived.Test.YtgmbgclhljobaaaDoorSt
import Derived.Deep.RegionHeld3
import Derived.Deep.DrawnRows
namespace Go.Proofs.YtgmbgclhljobaaaDoor
open Go Go.RowKit Go.Proofs Go.Maps

theorem St.belowB {w w' w'' : World} {bs : List (Nat × Obj)} {B : Nat} (h : St w w' bs) (hb : Below B w' w'') (hB : ∀ x ∈ bs, x.1 < B) (h0 : w.heap.size ≤ B) : St w w'' bs :=
  ⟨h.below.trans (hb.mono h0), fun i b o hi => ⟨(h.box i b o hi).1, (hb.block b (hB _ (List.mem_of_getElem? hi))).trans (h.box i b o hi).2⟩⟩
/-- the state behind some counts: the last bucket, the bytes -/
def encStep (st : Int × List UInt8) (c : Int × Int) : Int × List UInt8 := (c.1, st.2 ++ (vb (c.1 - st.1).toNat ++ vb c.2.toNat))
def encSt (cs : List (Int × Int)) : Int × List UInt8 := cs.foldl encStep (0, [])
theorem encSt_take {cs : List (Int × Int)} {k : Nat} {x m : Int} (h : cs[k]? = some (x, m)) : encSt (cs.take (k + 1)) = (x, (encSt (cs.take k)).2 ++ (vb (x - (encSt (cs.take k)).1).toNat ++ vb m.toNat)) := by
  unfold encSt
  rw [List.take_add_one, h, Option.toList_some, List.foldl_append]
  rfl
theorem encSt_length (cs : List (Int × Int)) (k : Nat) : (encSt (cs.take k)).2.length ≤ 20 * k := by
  induction k with
  | zero => simp [encSt]
  | succ k ih =>
    cases h : cs[k]? with
    | none =>
      have hl : cs.length ≤ k := List.getElem?_eq_none_iff.1 h
      rw [List.take_of_length_le (by omega)]
      rw [List.take_of_length_le hl] at ih
      omega
    | some p =>
      obtain ⟨x, m⟩ := p
      rw [encSt_take h]
      have h1 := vb_length (x - (encSt (cs.take k)).1).toNat
      have h2 := vb_length m.toNat
      simp only [List.length_append]; omega
theorem encSt_last {b : Int} {cs : List (Int × Int)} (hg : Good b cs) {k : Nat} {x m : Int} (h : cs[k]? = some (x, m)) : 0 ≤ (encSt (cs.take k)).1 ∧ (encSt (cs.take k)).1 ≤ x := by
  have hx := hg.2.2.2.1 (x, m) (List.mem_of_getElem? h)
  cases k with
  | zero => simp [encSt]; exact hx.1.1
  | succ k =>
    have hk := (List.getElem?_eq_some_iff.1 h).1
    obtain ⟨y, l, hy⟩ : ∃ y l, cs[k]'(by omega) = (y, l) := ⟨_, _, rfl⟩
    have hy' : cs[k]? = some (y, l) := by rw [List.getElem?_eq_getElem (by omega), hy]
    rw [encSt_take hy']
    have h1 := hg.2.2.2.1 (y, l) (List.mem_of_getElem? hy')
    have h2 := hg.2.2.2.2.1
    rw [List.pairwise_iff_getElem] at h2
    have h3 := h2 k (k + 1) (by omega) hk (by omega)
    rw [hy, (List.getElem?_eq_some_iff.1 h).2] at h3
    simp only at h1 h3 ⊢
    omega
/-- the bytes of a histogram -/
def encH (b : Int) (cs : List (Int × Int)) : List UInt8 := UInt8.ofNat b.toNat :: (vb cs.length ++ (encSt cs).2)
/-- what Bytes returns -/
def BytesPost (L : List UInt8) (C : Int) (w : World) (e : Ending) (w' : World) : Prop :=
  ∃ A n c, e = .returned (.tuple #[.slice A n c, .int .i64 C]) ∧ (C = 0 → n = L.length ∧ Rd w' w.heap.size w'.heap.size 1 A n (Lib.byteCells L)) ∧ (C ≠ 0 → A = none ∧ n = 0 ∧ c = 0) ∧ (A = none → n = 0 ∧ c = 0) ∧ n ≤ c ∧ c ≤ maxLen ∧ Below w.heap.size w w'
theorem one_byte (w : World) (u : Int) (g : Nat) (hg : g = w.heap.size) (x : UInt8) (hx : u = (x.toNat : Int)) : (w.alloc (.cells #[.int .u8 u] 5)).ownsRow g 5 1 (.slice (some ⟨g, 0, none⟩) 1 1) [x].length (Lib.byteCells [x]) := by
  subst hg hx
  exact ⟨by simp [Lib.byteCells], .inr ⟨w.heap.size, 1, #[.int .u8 x.toNat], rfl, Nat.le_refl _, heap_alloc_new _ _, by simp, by unfold maxLen; omega, by simp, by simp [Lib.byteCells]⟩⟩
theorem putI_any (base : Nat) (z : Int) (bs : List UInt8) (v : Value) (w : World) (hown : w.ownsRow base 5 1 v bs.length (Lib.byteCells bs)) (hbase : base ≤ w.heap.size) (h0 : 0 ≤ z) (hz : z ≤ 9223372036854775807) (hl : bs.length ≤ 100000000000) :
    Calls Tryd.prog 64 #[v, .int .i64 z] w fun e w' => ∃ v', e = .returned v' ∧ w'.ownsRow base 5 1 v' (bs ++ vb z.toNat).length (Lib.byteCells (bs ++ vb z.toNat)) ∧ U8Fr base w w' := by
  have := putN_any base z.toNat bs v w hown hbase (by omega) hl
  rwa [show ((z.toNat : Nat) : Int) = z by omega] at this
theorem numberI_any (base : Nat) (z : Int) (bs : List UInt8) (v : Value) (w : World) (hown : w.ownsRow base 5 1 v bs.length (Lib.byteCells bs)) (hbase : base ≤ w.heap.size) (h0 : 0 ≤ z) (hz : z ≤ 9223372036854775807) (hl : bs.length ≤ 100000000000) :
    Calls Tryd.prog 66 #[v, .int .i64 z] w fun e w' => ∃ v', e = .returned v' ∧ w'.ownsRow base 5 1 v' (bs ++ vb z.toNat).length (Lib.byteCells (bs ++ vb z.toNat)) ∧ U8Fr base w w' := by
  have := number_any base z.toNat bs v w hown hbase (by omega) hl
  rwa [show ((z.toNat : Nat) : Int) = z by omega] at this
theorem clip_byte (A : Option Addr) (n c : Nat) (w : World) (hn : n ≤ c) (hc : c ≤ maxLen) (hA : A = none → n = 0 ∧ c = 0) :
    Calls Tryd.prog 65 #[.slice A n c] w fun e w' => e = .returned (.slice A n n) ∧ w = w' := by
  unfold maxLen at hc
  rcases A with _ | a
  · obtain ⟨rfl, rfl⟩ := hA rfl
    go_enter Tryd.func65, Tryd.ntmps65
    go_wp2
    go_ret
    exact ⟨rfl, rfl⟩
  · go_enter Tryd.func65, Tryd.ntmps65
    go_wp2
    go_ret
    exact ⟨rfl, rfl⟩
/-- what the loop of Bytes keeps -/
def BRel (w wr : World) (bx : List (Nat × Obj)) (base : Nat) (hd : List UInt8) (cs : List (Int × Int)) (k : Nat) (v : Value) : Prop :=
  k ≤ cs.length ∧ St w wr bx ∧ base ≤ wr.heap.size ∧ wr.ownsRow base 5 1 v (hd ++ (encSt (cs.take k)).2).length (Lib.byteCells (hd ++ (encSt (cs.take k)).2))

attribute [local go_sem ↓] Go.wp_at_zero Go.wp_at_succ

set_option maxHeartbeats 2000000 in
set_option maxRecDepth 100000 in
theorem Bytes_any (b : Int) (A : Option Addr) (c : Nat) (cs : List (Int × Int)) (w : World) (hr : Rd w 0 w.heap.size 2 A cs.length (cells2 cs)) (hn : cs.length < 9223372036854775807) :
    Calls Tryd.prog 27 #[.agg #[.int .i64 b, .slice A cs.length c]] w (BytesPost (encH b cs) (codeH b cs) w) := by
  obtain ⟨W0, hW0⟩ : ∃ W0, W0 = (w).alloc (.cells #[Value.int .i64 b, Value.slice A cs.length c] 24) := ⟨_, rfl⟩
  have st0 : St w W0 [(w.heap.size, Obj.cells #[Value.int .i64 b, Value.slice A cs.length c] 24 (0, 0))] := by rw [hW0]; exact (St.start w).alloc _ _ (by simp)
  have hs0 : W0.heap.size = w.heap.size + 1 := by rw [hW0]; simp
  have hsz0 : w.heap.size + 1 ≤ W0.heap.size := by omega
  have HST0 := Lib.hid st0
  have HS0 := Lib.hid hs0
  have HC := Lib.hid (check_any b A cs.length c cs W0 (hr.old st0.below) hn)
  have HR := Lib.hid hr
  clear hr
  clear st0 hs0
  go_enter Tryd.func27, Tryd.ntmps27
  go_wp2_with fail
  rw [← hW0]
  clear hW0
  go_wp2_with fail
  refine HC.out.mono ?_
  rintro e w1 ⟨rfl, hb1⟩
  have HST1 := Lib.hid (HST0.out.call hb1)
  have hsz1 := hb1.size
  clear hb1
  have k0_0 : w1.cell? ⟨w.heap.size, 0, none⟩ = some (Value.int .i64 b) := HST1.out.cell 0 0 rfl rfl
  have k0_1 : w1.cell? ⟨w.heap.size, 1, none⟩ = some (Value.slice A cs.length c) := HST1.out.cell 0 1 rfl rfl
  have l0_ : w.heap.size < w1.heap.size := HST1.out.lt 0 rfl
  by_cases hch : codeH b cs = 0
  · have hch' : (codeH b cs != 0) = false := by simp [hch]
    have hg := codeH_zero hch
    have HG := Lib.hid hg
    obtain ⟨hb2, hb8, hlen, hcs, _, _⟩ := hg
    have hmx := maxB_bd b hb2 hb8
    have HCS := Lib.hid hcs
    have HCH := Lib.hid hch
    clear hch hcs
    obtain ⟨W1, hW1⟩ : ∃ W1, W1 = w1.alloc (.cells #[.int .u8 b] 5) := ⟨_, rfl⟩
    have HST2 := Lib.hid (show St w W1 [(w.heap.size, Obj.cells #[Value.int .i64 b, Value.slice A cs.length c] 24 (0, 0))] by rw [hW1]; exact HST1.out.more _)
    have hszW : W1.heap.size = w1.heap.size + 1 := by rw [hW1]; simp
    have hO1 : W1.ownsRow w1.heap.size 5 1 (.slice (some ⟨w1.heap.size, 0, none⟩) 1 1) [UInt8.ofNat b.toNat].length (Lib.byteCells [UInt8.ofNat b.toNat]) := by
      rw [hW1]; exact one_byte w1 b w1.heap.size rfl (UInt8.ofNat b.toNat) (by simp; omega)
    have HP0 := Lib.hid (putI_any w1.heap.size cs.length [UInt8.ofNat b.toNat] (.slice (some ⟨w1.heap.size, 0, none⟩) 1 1) W1 hO1 (by omega) (by omega) (by omega) (by simp))
    have HSZ := Lib.hid hszW
    clear hO1 hszW
    go_wp2_with fail
    rw [← hW1]
    clear hW1
    refine HP0.out.mono ?_
    rintro e w2 ⟨v2, rfl, ho2, hf2⟩
    have hb2' : Below w1.heap.size W1 w2 := hf2.below (by have := HSZ.out; omega)
    have hsz2 : W1.heap.size ≤ w2.heap.size := hf2.size
    have hl1 : w.heap.size < w1.heap.size := l0_
    have HST3 := Lib.hid (HST2.out.belowB hb2' (by simp; omega) (by omega))
    obtain ⟨hd, hhd⟩ : ∃ hd, hd = [UInt8.ofNat b.toNat] ++ vb (cs.length : Int).toNat := ⟨_, rfl⟩
    rw [← hhd] at ho2
    have hhl : hd.length ≤ 11 := by rw [hhd]; have := vb_length (cs.length : Int).toNat; simp only [List.length_append, List.length_singleton]; omega
    have HHD := Lib.hid hhd
    have HO2 := Lib.hid ho2
    have hszx : w1.heap.size + 1 ≤ w2.heap.size := by have := HSZ.out; omega
    clear hhd ho2 hf2 hb2' hsz2
    clear k0_0 k0_1 l0_
    have k0_0 : w2.cell? ⟨w.heap.size, 0, none⟩ = some (Value.int .i64 b) := HST3.out.cell 0 0 rfl rfl
    have k0_1 : w2.cell? ⟨w.heap.size, 1, none⟩ = some (Value.slice A cs.length c) := HST3.out.cell 0 1 rfl rfl
    have l0_ : w.heap.size < w2.heap.size := HST3.out.lt 0 rfl
    go_wp2
    go_loopw [5, 6, 8, 25] (fun v l _ i wr => ∃ (k : Nat) (v' : Value), v' = v ∧ i = .int .i64 k ∧ l = .int .i64 (encSt (cs.take k)).1 ∧ BRel w wr [(w.heap.size, Obj.cells #[Value.int .i64 b, Value.slice A cs.length c] 24 (0, 0))] w1.heap.size hd cs k v') (fun _ _ _ i _ => cs.length - (intOf i).toNat)
    case atStart => exact ⟨0, _, rfl, rfl, rfl, Nat.zero_le _, HST3.out, by omega, by simpa [encSt] using HO2.out⟩
    case round =>
      obtain ⟨k, v, rfl, rfl, rfl, hk, hst, hbs, hown⟩ := hrel
      have hel := encSt_length cs k
      have HSTr := Lib.hid hst
      have HOW := Lib.hid hown
      clear hst hown
      by_cases hlt : k < cs.length
      · obtain ⟨bk, o, x, m, rfl, _, hbk, hx, q0, q1⟩ := (HR.out.below HSTr.out.below (Nat.le_refl _)).at2 hlt
        have hcx := HCS.out (x, m) (List.mem_of_getElem? hx)
        obtain ⟨⟨hx0', hx1'⟩, hm1, hm2⟩ := hcx
        simp only at hx0' hx1' hm1 hm2
        obtain ⟨hla0, hla1⟩ := encSt_last HG.out hx
        have HSTEP := Lib.hid (encSt_take hx)
        obtain ⟨last, hlast⟩ : ∃ last, last = (encSt (cs.take k)).1 := ⟨_, rfl⟩
        obtain ⟨EB, hEB⟩ : ∃ EB, EB = (encSt (cs.take k)).2 := ⟨_, rfl⟩
        rw [← hlast, ← hEB] at HSTEP
        rw [← hlast] at hla0 hla1
        rw [← hEB] at HOW hel
        rw [← hlast]
        have hbl : bk < wr.heap.size := by have := HSTr.out.below.size; omega
        have hne : bk ≠ wr.heap.size := by omega
        have hva := vb_length (x - last).toNat
        have hvb := vb_length m.toNat
        clear hx hlast hEB
        clear k0_0 k0_1 l0_
        have k0_0 : wr.cell? ⟨w.heap.size, 0, none⟩ = some (Value.int .i64 b) := HSTr.out.cell 0 0 rfl rfl
        have k0_1 : wr.cell? ⟨w.heap.size, 1, none⟩ = some (Value.slice (some ⟨bk, o, none⟩) cs.length c) := HSTr.out.cell 0 1 rfl rfl
        have l0_ : w.heap.size < wr.heap.size := HSTr.out.lt 0 rfl
        obtain ⟨W2, hW2⟩ : ∃ W2, W2 = wr.alloc (.cells #[.int .i64 x, .int .i64 m] 63) := ⟨_, rfl⟩
        have hcb : W2.heap[wr.heap.size]? = some (.cells #[.int .i64 x, .int .i64 m] 63 (0, 0)) := by rw [hW2]; exact alloc_at _ _ _ rfl
        have hsW2 : W2.heap.size = wr.heap.size + 1 := by rw [hW2]; simp
        have HSTW := Lib.hid (show St w W2 [(w.heap.size, Obj.cells #[Value.int .i64 b, Value.slice (some ⟨bk, o, none⟩) cs.length c] 24 (0, 0))] by rw [hW2]; exact HSTr.out.more _)
        have HOW2 := Lib.hid (show W2.drew.ownsRow w1.heap.size 5 1 v (hd ++ EB).length (Lib.byteCells (hd ++ EB)) by rw [hW2]; exact (HOW.out.alloc _).drew)
        have HKS := Lib.hid (show ∀ w', U8Fr w1.heap.size W2 w' → w'.cell? ⟨wr.heap.size, 0, none⟩ = some (.int .i64 x) ∧ w'.cell? ⟨wr.heap.size, 1, none⟩ = some (.int .i64 m) ∧ U8Fr w1.heap.size W2 w' from fun w' h => by
          have hb := h.keep hcb (by decide)
          exact ⟨by rw [cellsAt hb]; rfl, by rw [cellsAt hb]; rfl, h⟩)
        have hwr : IntKind.i64.wrap (x - last) = x - last := IntWalk.i64_in _ (by omega)
        have d0 : W2.cell? ⟨wr.heap.size, 0, none⟩ = some (.int .i64 x) := by rw [cellsAt hcb]; rfl
        have d1 : W2.cell? ⟨wr.heap.size, 1, none⟩ = some (.int .i64 m) := by rw [cellsAt hcb]; rfl
        have HSW2 := Lib.hid hsW2
        have HP1 := Lib.hid (putI_any w1.heap.size (x - last) (hd ++ EB) v W2.drew HOW2.out (show w1.heap.size ≤ W2.heap.size by omega) (by omega) (by omega) (by simp only [List.length_append]; omega))
        clear hcb hsW2
        go_wp2
        rw [← hW2]
        clear hW2
        go_region_held3 (fun w' => w'.cell? ⟨wr.heap.size, 0, none⟩ = some (.int .i64 x) ∧ w'.cell? ⟨wr.heap.size, 1, none⟩ = some (.int .i64 m) ∧ U8Fr w1.heap.size W2 w')
          (first
            | exact HKS.out _ (Fr.refl _ W2).drew
            | (go_split_ands; refine HKS.out _ (U8Fr.trans ?_ hfA); assumption)
            | (go_split_ands; refine HKS.out _ (U8Fr.trans ?_ hfB); assumption))
          (first
            | (go_at_call_of 64 v; refine HP1.out.mono ?_; rintro e wA ⟨vA, rfl, hoA, hfA⟩)
            | (go_at_call_of 64 vA; refine (putI_any w1.heap.size m (hd ++ EB ++ vb (x - last).toNat) vA wA hoA ?_ ?_ ?_ ?_).mono ?_; (have : W2.heap.size ≤ wA.heap.size := hfA.size; have := HSW2.out; omega); omega; omega; (simp only [List.length_append]; omega); rintro e wB ⟨vB, rfl, hoB, hfB⟩))
        have hfW : U8Fr w1.heap.size W2 wB := by go_split_ands; assumption
        have hcB := (HKS.out wB hfW).1
        have hsB : W2.heap.size ≤ wB.heap.size := hfW.size
        have HN := Lib.hid (show BRel w wB [(w.heap.size, Obj.cells #[Value.int .i64 b, Value.slice (some ⟨bk, o, none⟩) cs.length c] 24 (0, 0))] w1.heap.size hd cs (k + 1) vB from by
          refine ⟨by omega, HSTW.out.belowB (hfW.below (by have := HSW2.out; omega)) (by simp; omega) (by omega), by have := HSW2.out; omega, ?_⟩
          rw [HSTEP.out]
          simp only [List.append_assoc] at hoB ⊢
          exact hoB)
        have HL := Lib.hid (show x = (encSt (cs.take (k + 1))).1 by rw [HSTEP.out])
        clear hoA hfA hoB hfB hfW HKS hwr d0 d1
        clear k0_0 k0_1 l0_
        go_wp2
        go_roundw
        case rel => exact ⟨k + 1, _, rfl, by go_num, by rw [← HL.out], HN.out⟩
        case measure => simp [intOf]; omega
      · have htk : cs.take k = cs := List.take_of_length_le (by omega)
        rw [htk] at HOW
        have hL : hd ++ (encSt cs).2 = encH b cs := by rw [HHD.out]; simp [encH]
        rw [hL] at HOW
        obtain ⟨A', cap', rfl, hnc, hcm, hA'⟩ := ownsRow_shape HOW.out
        have HRD := Lib.hid (Rd.of_own HOW.out)
        have HL0 := Lib.hid hL
        have HA' := Lib.hid hA'
        clear htk hL hA'
        clear k0_0 k0_1 l0_
        have k0_0 : wr.cell? ⟨w.heap.size, 0, none⟩ = some (Value.int .i64 b) := HSTr.out.cell 0 0 rfl rfl
        have k0_1 : wr.cell? ⟨w.heap.size, 1, none⟩ = some (Value.slice A cs.length c) := HSTr.out.cell 0 1 rfl rfl
        have l0_ : w.heap.size < wr.heap.size := HSTr.out.lt 0 rfl
        have HCL := Lib.hid (clip_byte A' (encH b cs).length cap' wr hnc hcm HA'.out)
        unfold maxLen at hcm
        go_wp2_with fail
        refine HCL.out.mono ?_
        rintro e w' ⟨rfl, rfl⟩
        go_wp2
        go_ret2
        refine ⟨A', (encH b cs).length, (encH b cs).length, by rw [HCH.out]; rfl, fun _ => ⟨rfl, HRD.out.more (by omega) (Nat.le_refl _)⟩, fun h => absurd HCH.out h, fun h => ⟨(HA'.out h).1, (HA'.out h).1⟩, Nat.le_refl _, by unfold maxLen; omega, HSTr.out.below⟩
  · have hch' : (codeH b cs != 0) = true := by simp [hch]
    have HCH := Lib.hid hch
    clear hch
    go_wp2
    go_ret2
    exact ⟨none, 0, 0, rfl, fun h => absurd h HCH.out, fun _ => ⟨rfl, rfl, rfl⟩, fun _ => ⟨rfl, rfl⟩, Nat.le_refl _, Nat.zero_le _, HST1.out.below⟩

set_option maxHeartbeats 2000000 in
set_option maxRecDepth 100000 in
theorem RBytes_any (b : Int) (A : Option Addr) (c : Nat) (cs : List (Int × Int)) (w : World) (hr : Rd w 0 w.heap.size 2 A cs.length (cells2 cs)) (hn : cs.length < 9223372036854775807) (hcx : ∀ c ∈ cs, c.1 ≤ 9223372036854775807) :
    Calls Tryd.prog 28 #[.agg #[.int .i64 b, .slice A cs.length c]] w (BytesPost (encH b cs) (codeH b cs) w) := by
  obtain ⟨W0, hW0⟩ : ∃ W0, W0 = (w).alloc (.cells #[Value.int .i64 b, Value.slice A cs.length c] 24) := ⟨_, rfl⟩
  have st0 : St w W0 [(w.heap.size, Obj.cells #[Value.int .i64 b, Value.slice A cs.length c] 24 (0, 0))] := by rw [hW0]; exact (St.start w).alloc _ _ (by simp)
  have hs0 : W0.heap.size = w.heap.size + 1 := by rw [hW0]; simp
  have hsz0 : w.heap.size + 1 ≤ W0.heap.size := by omega
  have HST0 := Lib.hid st0
  have HS0 := Lib.hid hs0
  have HC := Lib.hid (rcheck_any b A cs.length c cs W0 (hr.old st0.below) hn hcx)
  have HR := Lib.hid hr
  clear hr hcx
  clear st0 hs0
  go_enter Tryd.func28, Tryd.ntmps28
  go_wp2_with fail
  rw [← hW0]
  clear hW0
  go_wp2_with fail
  refine HC.out.mono ?_
  rintro e w1 ⟨rfl, hb1⟩
  have HST1 := Lib.hid (HST0.out.call hb1)
  have hsz1 := hb1.size
  clear hb1
  have k0_0 : w1.cell? ⟨w.heap.size, 0, none⟩ = some (Value.int .i64 b) := HST1.out.cell 0 0 rfl rfl
  have k0_1 : w1.cell? ⟨w.heap.size, 1, none⟩ = some (Value.slice A cs.length c) := HST1.out.cell 0 1 rfl rfl
  have l0_ : w.heap.size < w1.heap.size := HST1.out.lt 0 rfl
  by_cases hch : codeH b cs = 0
  · have hch' : (codeH b cs != 0) = false := by simp [hch]
    have hg := codeH_zero hch
    have HG := Lib.hid hg
    obtain ⟨hb2, hb8, hlen, hcs, _, _⟩ := hg
    have hmx := maxB_bd b hb2 hb8
    have HCS := Lib.hid hcs
    have HCH := Lib.hid hch
    clear hch hcs
    obtain ⟨W1, hW1⟩ : ∃ W1, W1 = w1.alloc (.cells #[.int .u8 b] 5) := ⟨_, rfl⟩
    have HST2 := Lib.hid (show St w W1 [(w.heap.size, Obj.cells #[Value.int .i64 b, Value.slice A cs.length c] 24 (0, 0))] by rw [hW1]; exact HST1.out.more _)
    have hszW : W1.heap.size = w1.heap.size + 1 := by rw [hW1]; simp
    have hO1 : W1.ownsRow w1.heap.size 5 1 (.slice (some ⟨w1.heap.size, 0, none⟩) 1 1) [UInt8.ofNat b.toNat].length (Lib.byteCells [UInt8.ofNat b.toNat]) := by
      rw [hW1]; exact one_byte w1 b w1.heap.size rfl (UInt8.ofNat b.toNat) (by simp; omega)
    have HP0 := Lib.hid (numberI_any w1.heap.size cs.length [UInt8.ofNat b.toNat] (.slice (some ⟨w1.heap.size, 0, none⟩) 1 1) W1 hO1 (by omega) (by omega) (by omega) (by simp))
    have HSZ := Lib.hid hszW
    clear hO1 hszW
    go_wp2_with fail
    rw [← hW1]
    clear hW1
    refine HP0.out.mono ?_
    rintro e w2 ⟨v2, rfl, ho2, hf2⟩
    have hb2' : Below w1.heap.size W1 w2 := hf2.below (by have := HSZ.out; omega)
    have hsz2 : W1.heap.size ≤ w2.heap.size := hf2.size
    have hl1 : w.heap.size < w1.heap.size := l0_
    have HST3 := Lib.hid (HST2.out.belowB hb2' (by simp; omega) (by omega))
    obtain ⟨hd, hhd⟩ : ∃ hd, hd = [UInt8.ofNat b.toNat] ++ vb (cs.length : Int).toNat := ⟨_, rfl⟩
    rw [← hhd] at ho2
    have hhl : hd.length ≤ 11 := by rw [hhd]; have := vb_length (cs.length : Int).toNat; simp only [List.length_append, List.length_singleton]; omega
    have HHD := Lib.hid hhd
    have HO2 := Lib.hid ho2
    have hszx : w1.heap.size + 1 ≤ w2.heap.size := by have := HSZ.out; omega
    clear hhd ho2 hf2 hb2' hsz2
    clear k0_0 k0_1 l0_
    have k0_0 : w2.cell? ⟨w.heap.size, 0, none⟩ = some (Value.int .i64 b) := HST3.out.cell 0 0 rfl rfl
    have k0_1 : w2.cell? ⟨w.heap.size, 1, none⟩ = some (Value.slice A cs.length c) := HST3.out.cell 0 1 rfl rfl
    have l0_ : w.heap.size < w2.heap.size := HST3.out.lt 0 rfl
    go_wp2
    go_loopw [5, 6, 7] (fun v l i wr => ∃ (k : Nat) (v' : Value), v' = v ∧ i = .int .i64 k ∧ l = .int .i64 (encSt (cs.take k)).1 ∧ BRel w wr [(w.heap.size, Obj.cells #[Value.int .i64 b, Value.slice A cs.length c] 24 (0, 0))] w1.heap.size hd cs k v') (fun _ _ i _ => cs.length - (intOf i).toNat)
    case atStart => exact ⟨0, _, rfl, rfl, rfl, Nat.zero_le _, HST3.out, by omega, by simpa [encSt] using HO2.out⟩
    case round =>
      obtain ⟨k, v, rfl, rfl, rfl, hk, hst, hbs, hown⟩ := hrel
      have hel := encSt_length cs k
      have HSTr := Lib.hid hst
      have HOW := Lib.hid hown
      clear hst hown
      by_cases hlt : k < cs.length
      · obtain ⟨bk, o, x, m, rfl, _, hbk, hx, q0, q1⟩ := (HR.out.below HSTr.out.below (Nat.le_refl _)).at2 hlt
        have hcx := HCS.out (x, m) (List.mem_of_getElem? hx)
        obtain ⟨⟨hx0', hx1'⟩, hm1, hm2⟩ := hcx
        simp only at hx0' hx1' hm1 hm2
        obtain ⟨hla0, hla1⟩ := encSt_last HG.out hx
        have HSTEP := Lib.hid (encSt_take hx)
        obtain ⟨last, hlast⟩ : ∃ last, last = (encSt (cs.take k)).1 := ⟨_, rfl⟩
        obtain ⟨EB, hEB⟩ : ∃ EB, EB = (encSt (cs.take k)).2 := ⟨_, rfl⟩
        rw [← hlast, ← hEB] at HSTEP
        rw [← hlast] at hla0 hla1
        rw [← hEB] at HOW hel
        rw [← hlast]
        have hbl : bk < wr.heap.size := by have := HSTr.out.below.size; omega
        have hne : bk ≠ wr.heap.size := by omega
        have hva := vb_length (x - last).toNat
        have hvb := vb_length m.toNat
        clear hx hlast hEB
        clear k0_0 k0_1 l0_
        have k0_0 : wr.cell? ⟨w.heap.size, 0, none⟩ = some (Value.int .i64 b) := HSTr.out.cell 0 0 rfl rfl
        have k0_1 : wr.cell? ⟨w.heap.size, 1, none⟩ = some (Value.slice (some ⟨bk, o, none⟩) cs.length c) := HSTr.out.cell 0 1 rfl rfl
        have l0_ : w.heap.size < wr.heap.size := HSTr.out.lt 0 rfl
        have HP1 := Lib.hid (numberI_any w1.heap.size (x - last) (hd ++ EB) v wr HOW.out hbs (by omega) (by omega) (by simp only [List.length_append]; omega))
        go_wp2_with fail
        refine HP1.out.mono ?_
        rintro e wA ⟨vA, rfl, hoA, hfA⟩
        have hbA := hfA.below hbs
        have hsA : wr.heap.size ≤ wA.heap.size := hfA.size
        have HSTA := Lib.hid (HSTr.out.belowB hbA (by simp; omega) (by omega))
        have qa0 : wA.cell? ⟨bk, o + k * 2, none⟩ = some (.int .i64 x) := (hbA.cell (p := ⟨bk, o + k * 2, none⟩) (by show bk < _; omega)).trans q0
        have qa1 : wA.cell? ⟨bk, o + k * 2 + 1, none⟩ = some (.int .i64 m) := (hbA.cell (p := ⟨bk, o + k * 2 + 1, none⟩) (by show bk < _; omega)).trans q1
        have HP2 := Lib.hid (numberI_any w1.heap.size m (hd ++ EB ++ vb (x - last).toNat) vA wA hoA (by omega) (by omega) (by omega) (by simp only [List.length_append]; omega))
        clear hoA hfA hbA q0 q1
        clear k0_0 k0_1 l0_
        have k0_0 : wA.cell? ⟨w.heap.size, 0, none⟩ = some (Value.int .i64 b) := HSTA.out.cell 0 0 rfl rfl
        have k0_1 : wA.cell? ⟨w.heap.size, 1, none⟩ = some (Value.slice (some ⟨bk, o, none⟩) cs.length c) := HSTA.out.cell 0 1 rfl rfl
        have l0_ : w.heap.size < wA.heap.size := HSTA.out.lt 0 rfl
        go_wp2_with fail
        refine HP2.out.mono ?_
        rintro e wB ⟨vB, rfl, hoB, hfB⟩
        have hbB := hfB.below (show w1.heap.size ≤ wA.heap.size by omega)
        have hsB : wA.heap.size ≤ wB.heap.size := hfB.size
        have HSTB := Lib.hid (HSTA.out.belowB hbB (by simp; omega) (by omega))
        have qb0 : wB.cell? ⟨bk, o + k * 2, none⟩ = some (.int .i64 x) := (hbB.cell (p := ⟨bk, o + k * 2, none⟩) (by show bk < _; omega)).trans qa0
        have HN := Lib.hid (show BRel w wB [(w.heap.size, Obj.cells #[Value.int .i64 b, Value.slice (some ⟨bk, o, none⟩) cs.length c] 24 (0, 0))] w1.heap.size hd cs (k + 1) vB from by
          refine ⟨by omega, HSTB.out, by omega, ?_⟩
          rw [HSTEP.out]
          simp only [List.append_assoc] at hoB ⊢
          exact hoB)
        have HL := Lib.hid (show x = (encSt (cs.take (k + 1))).1 by rw [HSTEP.out])
        clear hoB hfB hbB qa0 qa1
        clear k0_0 k0_1 l0_
        have k0_0 : wB.cell? ⟨w.heap.size, 0, none⟩ = some (Value.int .i64 b) := HSTB.out.cell 0 0 rfl rfl
        have k0_1 : wB.cell? ⟨w.heap.size, 1, none⟩ = some (Value.slice (some ⟨bk, o, none⟩) cs.length c) := HSTB.out.cell 0 1 rfl rfl
        have l0_ : w.heap.size < wB.heap.size := HSTB.out.lt 0 rfl
        go_wp2
        go_roundw
        case rel => exact ⟨k + 1, _, rfl, by go_num, by rw [← HL.out], HN.out⟩
        case measure => simp [intOf]; omega
      · have htk : cs.take k = cs := List.take_of_length_le (by omega)
        rw [htk] at HOW
        have hL : hd ++ (encSt cs).2 = encH b cs := by rw [HHD.out]; simp [encH]
        rw [hL] at HOW
        obtain ⟨A', cap', rfl, hnc, hcm, hA'⟩ := ownsRow_shape HOW.out
        have HRD := Lib.hid (Rd.of_own HOW.out)
        have HL0 := Lib.hid hL
        have HA' := Lib.hid hA'
        clear htk hL hA'
        clear k0_0 k0_1 l0_
        have k0_0 : wr.cell? ⟨w.heap.size, 0, none⟩ = some (Value.int .i64 b) := HSTr.out.cell 0 0 rfl rfl
        have k0_1 : wr.cell? ⟨w.heap.size, 1, none⟩ = some (Value.slice A cs.length c) := HSTr.out.cell 0 1 rfl rfl
        have l0_ : w.heap.size < wr.heap.size := HSTr.out.lt 0 rfl
        go_wp2
        go_ret2
        refine ⟨A', (encH b cs).length, cap', by rw [HCH.out]; rfl, fun _ => ⟨rfl, HRD.out.more (by omega) (Nat.le_refl _)⟩, fun h => absurd HCH.out h, HA'.out, hnc, hcm, HSTr.out.below⟩
  · have hch' : (codeH b cs != 0) = true := by simp [hch]
    have HCH := Lib.hid hch
    clear hch
    go_wp2
    go_ret2
    exact ⟨none, 0, 0, rfl, fun h => absurd h HCH.out, fun _ => ⟨rfl, rfl, rfl⟩, fun _ => ⟨rfl, rfl⟩, Nat.le_refl _, Nat.zero_le _, HST1.out.below⟩
end Go.Proofs.YtgmbgclhljobaaaDoor
