/- checkValues, of, Of. -/
import Derived.Test.YtjkoppdddaknlaaGreatDoorG13
import Derived.Test.YtjkoppdddaknlaaGreatDoorHist
namespace Go.Proofs.YtjkoppdddaknlaaGreatDoor
open Go Go.RowKit Go.Proofs Go.Maps

/-- f with one more at x -/
def upd (f : Int → Int) (x c : Int) : Int → Int := fun y => if y = x then c else f y
theorem mapII_made (w : World) : MapII (w.alloc (.map #[] 0)) w.heap.size 0 (fun _ => 0) :=
  ⟨.map [], World.ownsMap_made _ _ _ _, fun _x _ => rfl⟩
theorem mapII_put {_w w' : World} {m n : Nat} {f : Int → Int} {D : DataW Unit} {x c : Int} (h : ∀ y, (Lit.int .i64 y).wf = true → D.atKey (.int .i64 y) (.lit (.int .i64 0)) = .lit (.int .i64 (f y)))
    (hD : IsMap D) (hown : w'.ownsMap Tryz.prog 3 (plainElem Tryz.prog 3) m (n + 1) (D.put (.int .i64 x) (.lit (.int .i64 c)))) : MapII w' m (n + 1) (upd f x c) := by
  refine ⟨_, hown, fun y hy => ?_⟩
  unfold upd
  by_cases e : y = x
  · subst e
    rw [if_pos rfl, atKey_put_same (k := .int .i64 y) hD trivial]
  · rw [if_neg e, atKey_put_other (by simpa using e), h y hy]
theorem mapII_fr {may : Nat → Prop} {w w' : World} {m n : Nat} {f : Int → Int} (h : MapII w m n f) (hf : Fr may w w') (hm : ¬ may m) : MapII w' m n f := by
  obtain ⟨D, h1, h2⟩ := h; exact ⟨D, ownsMap_fr h1 hf hm, h2⟩
theorem isMap_of_owns {w : World} {m n : Nat} {D : DataW Unit} {R : Value → Option (DataW Unit × List MemPlace)} {P : Program} {k : TypeId} (h : w.ownsMap P k R m n D) : IsMap D := by
  obtain ⟨es, clock, _, _, _, hD⟩ := h; exact ⟨_, hD⟩

/-- a value that is none -/
def badV (v : Int) : Bool := !fineV v

/-- one of them is none -/
def anyBad (zs : List Int) : Bool := zs.any badV

theorem cv1_any (v : Int) (w : World) : Calls Tryz.prog 80 #[.int .i64 v] w fun e w' => e = .returned (.bool (badV v)) ∧ w = w' := by
  by_cases h1 : v < 0
  · have h1' : decide (v < 0) = true := by simpa using h1
    have hb : badV v = true := by simp [badV, fineV]; omega
    rw [hb]
    go_enter Tryz.func80, Tryz.ntmps80
    go_wp2
    go_ret
    exact ⟨rfl, rfl⟩
  · have h1' : decide (v < 0) = false := by simpa using h1
    by_cases h2 : 1125899906842623 < v
    · have hb : badV v = true := by simp [badV, fineV]; omega
      rw [hb]
      go_enter Tryz.func80, Tryz.ntmps80
      go_wp2
      go_ret
      exact ⟨by simp, rfl⟩
    · have hb : badV v = false := by simp [badV, fineV]; omega
      rw [hb]
      go_enter Tryz.func80, Tryz.ntmps80
      go_wp2
      go_ret
      exact ⟨by simp, rfl⟩

set_option maxHeartbeats 400000 in
theorem indexFunc_cv (A : Option Addr) (n c L B : Nat) (zs : List Int) (w : World) (hr : Rd w L B 1 A n (ints zs)) (hn : n < 9223372036854775807) :
    Calls Tryz.prog 93 #[.slice A n c, .func (.func 80) #[] #[]] w fun e w' => (∃ r : Int, e = .returned (.int .i64 r) ∧ (0 ≤ r ↔ anyBad zs = true)) ∧ w = w' := by
  have hl : zs.length = n := by have := hr.1; simpa [ints] using this
  have HR := Lib.hid hr
  have HL := Lib.hid hl
  clear hr hl
  go_enter Tryz.func93, Tryz.ntmps93
  go_wp2
  go_loop [5, 8] (fun _ i => ∃ k : Nat, k ≤ n ∧ i = .int .i64 k ∧ anyBad (zs.take k) = false) (fun _ i => n - (intOf i).toNat)
  case atStart => exact ⟨0, Nat.zero_le _, rfl, by simp [anyBad]⟩
  case round =>
    obtain ⟨k, hk, rfl, hno⟩ := hrel
    have HNO := Lib.hid hno
    clear hno
    by_cases hlt : k < n
    · obtain ⟨b, o, u, rfl, hb, hu, hcell⟩ := HR.out.at1 hlt
      obtain ⟨z, hz, rfl⟩ := ints_get hu
      have htk : zs.take (k + 1) = zs.take k ++ [z] := by rw [List.take_add_one, hz]; rfl
      have HTK := Lib.hid htk
      have HZ := Lib.hid (List.mem_of_getElem? hz)
      clear hu hz htk
      cases hbad : badV z with
      | true =>
        go_wp2_with (go_at_call 80; refine (cv1_any _ _).mono ?_; rintro e w' ⟨rfl, rfl⟩)
        go_ret
        exact ⟨⟨k, rfl, by constructor; intro _; exact List.any_eq_true.2 ⟨z, HZ.out, hbad⟩; intro _; omega⟩, rfl⟩
      | false =>
        go_wp2_with (go_at_call 80; refine (cv1_any _ _).mono ?_; rintro e w' ⟨rfl, rfl⟩)
        go_round
        case rel => exact ⟨k + 1, by omega, by go_num, by rw [HTK.out, anyBad, List.any_append]; have := HNO.out; unfold anyBad at this; simp [hbad, this]⟩
        case measure => simp [intOf]; omega
    · go_wp2
      go_ret
      refine ⟨⟨-1, rfl, ?_⟩, rfl⟩
      have h := HNO.out
      rw [List.take_of_length_le (by have := HL.out; omega)] at h
      rw [h]; simp

theorem containsFunc_cv (A : Option Addr) (n c L B : Nat) (zs : List Int) (w : World) (hr : Rd w L B 1 A n (ints zs)) (hn : n < 9223372036854775807) :
    Calls Tryz.prog 79 #[.slice A n c, .func (.func 80) #[] #[]] w fun e w' => e = .returned (.bool (anyBad zs)) ∧ w = w' := by
  have HR := Lib.hid hr
  clear hr
  go_enter Tryz.func79, Tryz.ntmps79
  go_wp2_with (go_at_call 93; refine (indexFunc_cv A n c L B zs _ HR.out hn).mono ?_; rintro e w' ⟨⟨r, rfl, hri⟩, rfl⟩)
  go_ret
  refine ⟨?_, rfl⟩
  cases h : anyBad zs with
  | true => have : 0 ≤ r := hri.2 h; simp
  | false => have : ¬ 0 ≤ r := fun h' => by rw [hri.1 h'] at h; cases h
             simp

/-- what checkValues returns -/
def codeV (b : Int) (n : Nat) (zs : List Int) : Int := if fineB b then (if 20000 < n then 3 else if anyBad zs then 9 else 0) else 9

set_option maxHeartbeats 400000 in
theorem checkValues_any' (b : Int) (A : Option Addr) (n c L B : Nat) (zs : List Int) (w : World) (hr : Rd w L B 1 A n (ints zs)) :
    Calls Tryz.prog 52 #[.int .i64 b, .slice A n c] w fun e w' => e = .returned (.int .i64 (codeV b n zs)) ∧ w = w' := by
  have HR := Lib.hid hr
  clear hr
  cases h1 : fineB b with
  | false =>
    have hc : codeV b n zs = 9 := by simp [codeV, h1]
    rw [hc]
    go_enter Tryz.func52, Tryz.ntmps52
    go_wp2_with (go_at_call 78; refine (bitsForm_any _ _).mono ?_; rintro e w' ⟨rfl, rfl⟩)
    go_ret
    exact ⟨rfl, rfl⟩
  | true =>
    by_cases h2 : 20000 < n
    · have hc : codeV b n zs = 3 := by simp [codeV, h1, h2]
      rw [hc]
      go_enter Tryz.func52, Tryz.ntmps52
      go_wp2_with (go_at_call 78; refine (bitsForm_any _ _).mono ?_; rintro e w' ⟨rfl, rfl⟩)
      go_ret
      exact ⟨rfl, rfl⟩
    · cases h3 : anyBad zs with
      | true =>
        have hc : codeV b n zs = 9 := by simp only [codeV, h1, if_true, if_neg h2, h3]
        rw [hc]
        go_enter Tryz.func52, Tryz.ntmps52
        go_wp2_with (first | (go_at_call 78; refine (bitsForm_any _ _).mono ?_; rintro e w' ⟨rfl, rfl⟩) | (go_at_call 79; refine (containsFunc_cv A n c L B zs _ HR.out (by omega)).mono ?_; rintro e w' ⟨rfl, rfl⟩))
        go_ret
        exact ⟨rfl, rfl⟩
      | false =>
        have hc : codeV b n zs = 0 := by simp only [codeV, h1, if_true, if_neg h2, h3, Bool.false_eq_true, if_false]
        rw [hc]
        go_enter Tryz.func52, Tryz.ntmps52
        go_wp2_with (first | (go_at_call 78; refine (bitsForm_any _ _).mono ?_; rintro e w' ⟨rfl, rfl⟩) | (go_at_call 79; refine (containsFunc_cv A n c L B zs _ HR.out (by omega)).mono ?_; rintro e w' ⟨rfl, rfl⟩))
        go_ret
        exact ⟨rfl, rfl⟩

/-- how many of the values are in a bucket -/
def cntB (b : Int) (zs : List Int) (x : Int) : Int := zs.countP (fun v => bkt b v == x)
theorem cntB_snoc (b : Int) (zs : List Int) (v : Int) : upd (cntB b zs) (bkt b v) (cntB b zs (bkt b v) + 1) = cntB b (zs ++ [v]) := by
  funext x
  unfold upd cntB
  rw [List.countP_append]
  by_cases h : x = bkt b v
  · subst h; simp
  · rw [if_neg h]
    have h' : (bkt b v == x) = false := by simpa using fun e => h e.symm
    simp [h']
theorem cntB_bd (b : Int) (zs : List Int) (x : Int) : 0 ≤ cntB b zs x ∧ cntB b zs x ≤ zs.length := by
  unfold cntB
  have := List.countP_le_length (p := fun v => bkt b v == x) (l := zs)
  omega
theorem cntB_wf (b : Int) (zs : List Int) (x : Int) (hb : 2 ≤ b) (hb' : b ≤ 8) (hz : ∀ v ∈ zs, fineV v = true) (h : cntB b zs x ≠ 0) : 0 ≤ x ∧ x ≤ maxB b := by
  unfold cntB at h
  have : 0 < zs.countP (fun v => bkt b v == x) := by omega
  rw [List.countP_pos_iff] at this
  obtain ⟨v, hv, hx⟩ := this
  have hf := hz v hv
  simp [fineV] at hf
  have := bkt_within b v hb hb' hf.1 (by omega)
  have hx : bkt b v = x := by simpa using hx
  omega
theorem wf_i64 {x : Int} (h0 : -9223372036854775808 ≤ x) (h1 : x ≤ 9223372036854775807) : (Lit.int .i64 x).wf = true := WalkArith.wf_i64 (by omega)

set_option maxHeartbeats 1000000 in
theorem of_any (b : Int) (A : Option Addr) (n c : Nat) (zs : List Int) (w : World) (hr : Rd w 0 w.heap.size 1 A n (ints zs)) (hn : n ≤ 1000000) (hb : 2 ≤ b) (hb' : b ≤ 8) (hz : ∀ v ∈ zs, fineV v = true) :
    Calls Tryz.prog 23 #[.int .i64 b, .slice A n c] w fun e w' => ∃ A' cs, e = .returned (.agg #[.int .i64 b, .slice A' cs.length cs.length]) ∧ IsHist (cntB b zs) cs ∧
      Rd w' w.heap.size w'.heap.size 2 A' cs.length (cells2 cs) ∧ cs.length ≤ n ∧ Below w.heap.size w w' := by
  have hl : zs.length = n := by have := hr.1; simpa [ints] using this
  have HR := Lib.hid hr
  have HL := Lib.hid hl
  have HZ := Lib.hid hz
  clear hr hl hz
  have hmm := @run_makeMap Tryz.prog
  go_enter Tryz.func23, Tryz.ntmps23
  go_wp2
  clear hmm
  go_loopw [7, 11] (fun _ i wr => ∃ k : Nat, k ≤ n ∧ i = .int .i64 k ∧ MapII wr (w.heap.size + 1) k (cntB b (zs.take k)) ∧ wr.heap[w.heap.size]? = some (.cells #[.int .i64 0, .slice none 0 0] 61 (0, 0)) ∧ Below w.heap.size w wr ∧ w.heap.size + 1 < wr.heap.size) (fun _ i _ => n - (intOf i).toNat)
  case atStart =>
    refine ⟨0, Nat.zero_le _, rfl, ?_, ?_, ?_, by simp⟩
    · have := mapII_made (w.alloc (.cells #[.int .i64 0, .slice none 0 0] 61))
      simp only [World.size_alloc] at this
      have e : cntB b (zs.take 0) = fun _ => 0 := by funext x; simp [cntB]
      rw [e]; exact this
    · exact (Below.heap_alloc _ _ _ (by simp)).trans (alloc_at _ _ _ rfl)
    · exact ((Below.refl _ w).alloc (Nat.le_refl _) _).alloc (by simp) _
  case round =>
    obtain ⟨k, hk, rfl, ⟨D, hown, hD⟩, hbx, hbw, hsz⟩ := hrel
    by_cases hlt : k < n
    · have hr' : Rd wr 0 w.heap.size 1 A n (ints zs) := HR.out.below hbw (Nat.le_refl _)
      obtain ⟨bk, o, u, rfl, hbk, hu, hcell⟩ := hr'.at1 hlt
      obtain ⟨z, hz, rfl⟩ := ints_get hu
      have htk : zs.take (k + 1) = zs.take k ++ [z] := by rw [List.take_add_one, hz]; rfl
      have HTK := Lib.hid htk
      have hfz := HZ.out z (List.mem_of_getElem? hz)
      simp [fineV] at hfz
      have hbw' := bkt_within b z hb hb' hfz.1 (by omega)
      have hmx := maxB_bd b hb hb'
      have hwf : (Lit.int .i64 (bkt b z)).wf = true := wf_i64 (by omega) (by omega)
      have hcb := cntB_bd b (zs.take k) (bkt b z)
      rw [List.length_take] at hcb
      have HD := Lib.hid hD
      have HO := Lib.hid hown
      have HB := Lib.hid hbx
      have HW := Lib.hid hbw
      clear hu hz htk hr' hD hown hbx hbw
      go_wp2_with (first
        | (go_at_call 45; refine (bucket_any _ _ _ hb hb' hfz.1 (by omega)).mono ?_; rintro e w' ⟨rfl, nq, rfl⟩)
        | (at_lookup; refine wpList_lookup_own_int _ rfl _ _ 91 rfl 3 3 .i64 law3 Tryz.underlying91 Tryz.underlying3 (zero3 _) (w.heap.size + 1) k D rfl HO.out _ _ rfl (keyOf_int_mk Tryz.underlying3 hwf) ?_; intro cc hat hwc; obtain rfl : cc = cntB b (zs.take k) (bkt b z) := lit_inj (hat.symm.trans (HD.out _ hwf)); clear hat)
        | (at_mapUpdate; refine wpList_mapUpdate_own _ rfl _ _ _ 91 rfl 3 3 law3 Tryz.underlying91 _ (w.heap.size + 1) k D rfl HO.out (by unfold maxLen; omega) _ _ _ rfl rfl (keyOf_int_mk Tryz.underlying3 hwf) _ [] (plainElem_int Tryz.underlying3 (wf_i64 (by omega) (by omega))) ?_; intro w1 hown1 hgrow1))
      have hf1 := Fr.of_grown hgrow1
      go_roundw
      case rel =>
        refine ⟨k + 1, by omega, by go_num, ?_, ?_, ?_, ?_⟩
        · rw [HTK.out, ← cntB_snoc]
          exact mapII_put (_w := wr) HD.out (isMap_of_owns HO.out) hown1
        · exact (hf1.block _ (by simp; omega) (by simp)).trans HB.out
        · exact (below_drewN HW.out _).grown hgrow1 (by simp; omega) (fun j hj => by cases hj; omega)
        · have := hgrow1.size; simp at this; omega
      case measure => simp [intOf]; omega
    · have hke : k = n := by omega
      have htk : zs.take k = zs := List.take_of_length_le (by have := HL.out; omega)
      rw [htk] at hD
      have hm : MapII wr (w.heap.size + 1) k (cntB b zs) := ⟨D, hown, hD⟩
      have HH := Lib.hid (histogram_any (w.heap.size + 1) k b (cntB b zs) wr hm (by omega) (fun x hx => by
        have := cntB_wf b zs x hb hb' HZ.out hx
        have := maxB_bd b hb hb'
        exact wf_i64 (by omega) (by omega)))
      have HB := Lib.hid hbx
      have HW := Lib.hid hbw
      clear hm hke htk hD hown hbx hbw
      go_wp2_with fail
      refine HH.out.mono ?_
      rintro e w' ⟨A', cs, rfl, hh, hrd, hcl, hb'⟩
      have hbx' : w'.heap[w.heap.size]? = some (.cells #[.int .i64 0, .slice none 0 0] 61 (0, 0)) := (hb'.block _ (by omega)).trans HB.out
      have c0 : w'.cell? ⟨w.heap.size, 0, none⟩ = some (.int .i64 0) := by rw [cellsAt hbx']; rfl
      have c1 : w'.cell? ⟨w.heap.size, 1, none⟩ = some (.slice none 0 0) := by rw [cellsAt hbx']; rfl
      have z0 : w'.frozen? ⟨w.heap.size, 0, none⟩ = false := frozenAt hbx' 0
      have z1 : w'.frozen? ⟨w.heap.size, 1, none⟩ = false := frozenAt hbx' 1
      have HHI := Lib.hid hh
      have HRD := Lib.hid hrd
      have HBW := Lib.hid hb'
      clear hh hrd hb' hbx'
      go_wp2
      have fin : ∀ W : World, Fr (fun i => i = w.heap.size) w' W → ∃ A'' cs', Ending.returned (Value.agg #[Value.int .i64 b, .slice A' cs.length cs.length]) = .returned (.agg #[.int .i64 b, .slice A'' cs'.length cs'.length]) ∧ IsHist (cntB b zs) cs' ∧ Rd W w.heap.size W.heap.size 2 A'' cs'.length (cells2 cs') ∧ cs'.length ≤ n ∧ Below w.heap.size w W := by
        intro W hW
        have hs2 := HBW.out.size
        refine ⟨A', cs, rfl, HHI.out, ?_, by omega, ?_⟩
        · exact (HRD.out.fr hW (Nat.le_refl _) (fun i hi _ => by omega)).more (by omega) hW.size
        · exact HW.out.trans ((HBW.out.mono (by omega)).trans (hW.below (by omega) (fun i hi => by omega)))
      refine bodyPost_ret (v := .agg #[.int .i64 b, .slice A' cs.length cs.length]) (by simp [results, Tryz.results23, go_sem, c0, c1]) rfl (fin _ ?_)
      repeat (first | exact Fr.refl _ _ | (refine Fr.setCell ?_ (fun _ => by simp) _))
/-- the value v is a histogram: its bits and its counts, in blocks from L on -/
def HistV (w : World) (L : Nat) (v : Value) (b : Int) (cs : List (Int × Int)) : Prop :=
  ∃ A c, v = .agg #[.int .i64 b, .slice A cs.length c] ∧ cs.length ≤ c ∧ c ≤ maxLen ∧ (A = none → cs.length = 0 ∧ c = 0) ∧ Rd w L w.heap.size 2 A cs.length (cells2 cs)
theorem codeV_zero {b : Int} {n : Nat} {zs : List Int} (h : codeV b n zs = 0) : 2 ≤ b ∧ b ≤ 8 ∧ n ≤ 20000 ∧ ∀ v ∈ zs, fineV v = true := by
  unfold codeV at h
  split at h
  · rename_i hb
    simp [fineB] at hb
    split at h
    · omega
    · split at h
      · omega
      · rename_i h1 h2
        refine ⟨hb.1, hb.2, by omega, fun v hv => ?_⟩
        simp only [anyBad, List.any_eq_true, not_exists, not_and, badV] at h2
        have := h2 v hv
        simpa using this
  · omega
set_option maxHeartbeats 1000000 in
theorem Of_any' (b : Int) (A : Option Addr) (n c : Nat) (zs : List Int) (w : World) (hr : Rd w 0 w.heap.size 1 A n (ints zs)) :
    Calls Tryz.prog 40 #[.int .i64 b, .slice A n c] w fun e w' => ∃ v, e = .returned (.tuple #[v, .int .i64 (codeV b n zs)]) ∧
      (codeV b n zs = 0 → ∃ cs, IsHist (cntB b zs) cs ∧ HistV w' w.heap.size v b cs ∧ cs.length ≤ n) ∧ (codeV b n zs ≠ 0 → v = .agg #[.int .i64 0, .slice none 0 0]) ∧ Below w.heap.size w w' := by
  have hr1 : ∀ o, Rd (w.alloc o) 0 (w.alloc o).heap.size 1 A n (ints zs) := fun o => (hr.alloc (Nat.le_refl _) o).more (Nat.le_refl _) (by simp)
  have HR := Lib.hid hr1
  clear hr hr1
  by_cases h0 : codeV b n zs = 0
  · obtain ⟨hb, hb', hn2, hz⟩ := codeV_zero h0
    have H0 := Lib.hid h0
    have HZ := Lib.hid hz
    have h0' : (codeV b n zs != 0) = false := by simp [h0]
    clear h0 hz
    go_enter Tryz.func40, Tryz.ntmps40
    go_wp2_with fail
    refine (checkValues_any' b A n c 0 _ zs _ (HR.out _)).mono ?_
    rintro e w' ⟨rfl, rfl⟩
    go_wp2_with fail
    refine (of_any b A n c zs _ (HR.out _) (by omega) hb hb' HZ.out).mono ?_
    rintro e w' ⟨A', cs, rfl, hh, hrd, hcl, hbw⟩
    have hbx' : w'.heap[w.heap.size]? = some (.cells #[.int .i64 0, .slice none 0 0] 61 (0, 0)) := (hbw.block _ (by simp)).trans (alloc_at _ _ _ rfl)
    have c0 : w'.cell? ⟨w.heap.size, 0, none⟩ = some (.int .i64 0) := by rw [cellsAt hbx']; rfl
    have c1 : w'.cell? ⟨w.heap.size, 1, none⟩ = some (.slice none 0 0) := by rw [cellsAt hbx']; rfl
    have z0 : w'.frozen? ⟨w.heap.size, 0, none⟩ = false := frozenAt hbx' 0
    have z1 : w'.frozen? ⟨w.heap.size, 1, none⟩ = false := frozenAt hbx' 1
    have HHI := Lib.hid hh
    have HRD := Lib.hid hrd
    have HBW := Lib.hid hbw
    clear hh hrd hbw hbx'
    go_wp2
    have fin : ∀ W : World, Fr (fun i => i = w.heap.size) w' W → ∃ v, Ending.returned (Value.tuple #[Value.agg #[Value.int .i64 b, .slice A' cs.length cs.length], .int .i64 0]) = .returned (.tuple #[v, .int .i64 (codeV b n zs)]) ∧
        (codeV b n zs = 0 → ∃ cs, IsHist (cntB b zs) cs ∧ HistV W w.heap.size v b cs ∧ cs.length ≤ n) ∧ (codeV b n zs ≠ 0 → v = .agg #[.int .i64 0, .slice none 0 0]) ∧ Below w.heap.size w W := by
      intro W hW
      have hs2 := HBW.out.size
      simp only [World.size_alloc] at hs2
      refine ⟨_, by rw [H0.out], fun _ => ⟨cs, HHI.out, ⟨A', cs.length, rfl, Nat.le_refl _, by unfold maxLen; omega, ?_, ?_⟩, hcl⟩, fun h => absurd H0.out h, ?_⟩
      · intro hA
        have : ¬ 0 < cs.length := by
          intro hp
          obtain ⟨_, _, e, _⟩ := HRD.out.2 hp
          rw [hA] at e; cases e
        omega
      · exact (HRD.out.fr hW (Nat.le_refl _) (fun i hi _ => by simp at hi; omega)).more (by simp) hW.size
      · exact ((Below.refl _ w).alloc (Nat.le_refl _) _).trans ((HBW.out.mono (by simp)).trans (hW.below (by omega) (fun i hi => by omega)))
    refine bodyPost_ret (v := .tuple #[.agg #[.int .i64 b, .slice A' cs.length cs.length], .int .i64 0]) (by simp [results, Tryz.results40, go_sem, c0, c1]) rfl (fin _ ?_)
    repeat (first | exact Fr.refl _ _ | (refine Fr.setCell ?_ (fun _ => by simp) _))
  · have h0' : (codeV b n zs != 0) = true := by simp [h0]
    have H0 := Lib.hid h0
    clear h0
    go_enter Tryz.func40, Tryz.ntmps40
    go_wp2_with fail
    refine (checkValues_any' b A n c 0 _ zs _ (HR.out _)).mono ?_
    rintro e w' ⟨rfl, rfl⟩
    go_wp2
    refine bodyPost_ret (v := .tuple #[.agg #[.int .i64 0, .slice none 0 0], .int .i64 (codeV b n zs)]) (by simp [results, Tryz.results40, go_sem]) rfl ?_
    exact ⟨_, rfl, fun h => absurd h H0.out, fun _ => rfl, (Below.refl _ w).alloc (Nat.le_refl _) _⟩
theorem Of_any (b : Int) (A : Option Addr) (n c : Nat) (zs : List Int) (w : World) (hr : Rd w 0 w.heap.size 1 A n (ints zs)) (_ : n < 9223372036854775807) :
    Calls Tryz.prog 40 #[.int .i64 b, .slice A n c] w fun e w' => ∃ v, e = .returned (.tuple #[v, .int .i64 (codeV b n zs)]) ∧
      (codeV b n zs = 0 → ∃ cs, IsHist (cntB b zs) cs ∧ HistV w' w.heap.size v b cs ∧ cs.length ≤ n) ∧ (codeV b n zs ≠ 0 → v = .agg #[.int .i64 0, .slice none 0 0]) ∧ Below w.heap.size w w' := Of_any' b A n c zs w hr
end Go.Proofs.YtjkoppdddaknlaaGreatDoor
