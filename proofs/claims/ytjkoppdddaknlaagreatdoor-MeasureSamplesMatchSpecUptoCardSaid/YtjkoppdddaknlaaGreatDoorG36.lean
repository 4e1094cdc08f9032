import Derived.Test.YtjkoppdddaknlaaGreatDoorG35
import Derived.Sort.Row
import Derived.Sort.Grow
import Derived.Sort.Statements
import Derived.Shelf.GgSortFunc.RowK
import Derived.Shelf.SlSortCmp.WholeK
import Derived.Shelf.SlSortCmp.NoneTotal
import Derived.Test.YtjkoppdddaknlaaGreatDoorShelf
import Derived.Test.YtjkoppdddaknlaaGreatDoorG17
/- Group: the closure, the sort of the order; a row that the sort leaves, at elements of k cells. -/
namespace Go.Proofs.YtjkoppdddaknlaaGreatDoor
open Go Go.RowKit Go.Proofs Go.Sort

theorem putRow_blockK {w : World} {g : Nat} {cur F : Array Value} {t : TypeId} {fr : Nat × Nat} (h : w.heap[g]? = some (.cells cur t fr)) : (putRow id w g 0 F).heap[g]? = some (.cells (putCells id 0 F cur) t fr) := by
  simp [putRow, mapBlock, Array.getElem?_modify, h, onCells]
theorem putCells_takeK {cur F : Array Value} (h : F.size ≤ cur.size) : (putCells id 0 F cur).size = cur.size ∧ (putCells id 0 F cur).toList.take F.size = F.toList := by
  refine ⟨by simp [putCells], ?_⟩
  apply List.ext_getElem?
  intro i
  rw [List.getElem?_take]
  split
  · rename_i hi
    have h1 : i < cur.size := by omega
    simp [putCells, h1, hi]
  · rename_i hi
    rw [List.getElem?_eq_none (by simpa using hi)]
theorem fr_sortedK (w : World) (n g : Nat) (F : Array Value) (os : Array Obj) : Fr (fun i => i = g) w (grow (putRow id (Sort.ahead w n) g 0 F) os) := by
  refine ⟨rfl, rfl, rfl, ?_, fun i hi hm => ?_⟩
  · simp [grow, putRow, mapBlock, Sort.ahead]
  · have : ¬ g = i := fun h => hm h.symm
    show ((w.heap.modify g _) ++ os)[i]? = w.heap[i]?
    rw [Array.getElem?_append_left (by simpa using hi), Array.getElem?_modify, if_neg this]
section
variable {α : Type} [Inhabited α] {enc : α → List Value} {k : Nat} (hk : ∀ x, (enc x).length = k) (hkp : 0 < k)
include hk hkp
theorem flatK_cellsK (d : Array α) : (flatK enc k d).toList = d.toList.flatMap enc := by
  apply List.ext_getElem?
  intro i
  by_cases hi : i < d.size * k
  · have hq : i / k < d.size := Nat.div_lt_of_lt_mul (by rw [Nat.mul_comm]; exact hi)
    have hr : i % k < k := Nat.mod_lt _ hkp
    have h1 := flat_get enc k hk d.toList (i / k) (i % k) hr (d[i / k]) (by simp [hq])
    rw [Nat.mul_comm, Nat.div_add_mod] at h1
    rw [h1]
    have h2 : (flatK enc k d)[i]? = some ((enc d[i / k]!)[i % k]!) := by simp [flatK, hi]
    rw [Array.getElem?_toList, h2, getElem!_pos d _ hq]
    have h3 : i % k < (enc d[i / k]).length := by rw [hk]; exact hr
    rw [getElem!_pos (enc d[i / k]) (i % k) h3, List.getElem?_eq_getElem h3]
  · rw [List.getElem?_eq_none (by simp [flatK]; omega), List.getElem?_eq_none (by rw [flat_length enc k hk]; simp; omega)]
theorem own_sortedK {w : World} {base n g cap : Nat} {t : TypeId} {l l' : List α} (h : w.ownsRow base t k (.slice (some ⟨g, 0, none⟩) n cap) n (l.flatMap enc)) (hln : l.length = n) (hl : l'.length = l.length) (q : Nat) (os : Array Obj) :
    (grow (putRowK enc k (Sort.ahead w q) g 0 l'.toArray) os).ownsRow base t k (.slice (some ⟨g, 0, none⟩) n cap) n (l'.flatMap enc) := by
  refine ⟨by rw [flat_length enc k hk, hl, hln], ?_⟩
  rcases h.2 with ⟨h0, _⟩ | ⟨g', cap', cur, hv, hb, hh, h1, h2, h3, h4⟩
  · cases h0
  · cases hv
    have hsz : (flatK enc k l'.toArray).size = n * k := by simp [flatK, hl, hln]
    have hcur : (flatK enc k l'.toArray).size ≤ cur.size := by rw [hsz, h3]; exact Nat.mul_le_mul_right k h1
    obtain ⟨p1, p2⟩ := putCells_takeK hcur
    have hblk := putRow_blockK (w := Sort.ahead w q) (F := flatK enc k l'.toArray) hh
    have hlt := heap_lt hblk
    refine .inr ⟨g, cap, putCells id 0 (flatK enc k l'.toArray) cur, rfl, hb, ?_, h1, h2, by rw [p1]; exact h3, ?_⟩
    · unfold putRowK grow
      rw [Array.getElem?_append_left hlt]
      exact hblk
    · rw [← hsz, p2, flatK_cellsK hk hkp]
theorem holds_ownK {w : World} {base n g cap : Nat} {t : TypeId} {l : List α} (h : w.ownsRow base t k (.slice (some ⟨g, 0, none⟩) n cap) n (l.flatMap enc)) (hln : l.length = n) : HoldsK enc k w g 0 l.toArray := by
  intro j hj
  rcases h.2 with ⟨h0, _⟩ | ⟨g', cap', cur, hv, hb, hh, h1, h2, h3, h4⟩
  · cases h0
  · cases hv
    have hsz : (flatK enc k l.toArray).size = l.length * k := by simp [flatK]
    refine ⟨?_, frozenAt hh _⟩
    rw [cellsAt hh, Nat.zero_add]
    have hf := flatK_cellsK hk hkp l.toArray
    have hj2 : (flatK enc k l.toArray)[j]? = (l.flatMap enc)[j]? := by rw [← Array.getElem?_toList, hf]
    have hc : (l.flatMap enc)[j]? = cur[j]? := by
      rw [← h4, List.getElem?_take_of_lt (by rw [hsz, hln] at hj; exact hj), Array.getElem?_toList]
    rw [← hc, ← hj2, Array.getElem?_eq_getElem hj, getElem!_pos (flatK enc k l.toArray) j hj]
    rfl
end
/-- five texts -/
abbrev K5 := ByteArray × ByteArray × ByteArray × ByteArray × ByteArray
def toL (x : K5) : List ByteArray := [x.1, x.2.1, x.2.2.1, x.2.2.2.1, x.2.2.2.2]
def ofL : List ByteArray → K5
  | [a, b, c, d, e] => (a, b, c, d, e)
  | _ => default
theorem toL_ofL {l : List ByteArray} (h : l.length = 5) : toL (ofL l) = l := by
  match l, h with
  | [a, b, c, d, e], _ => rfl
def encK (x : K5) : List Value := strC (toL x)
def cmpK (x y : K5) : Int := cmpT (toL x) (toL y)
theorem lt_cmpK (x y : K5) : ltOf cmpK x y = decide (ky (toL x) < ky (toL y)) := by
  unfold ltOf cmpK
  by_cases h : ky (toL x) < ky (toL y)
  · simp [h, (cmpT_lt _ _).2 h]
  · have : ¬ cmpT (toL x) (toL y) < 0 := fun h2 => h ((cmpT_lt _ _).1 h2)
    simp [h]; omega
theorem swoK : SWO (ltOf cmpK) where
  irrefl x := by rw [lt_cmpK]; simp
  trans x y z h1 h2 := by
    rw [lt_cmpK] at *
    simp only [decide_eq_true_eq] at *
    exact ky_trans h1 h2
  ntrans x y z h1 h2 := by
    rw [lt_cmpK] at *
    simp only [decide_eq_false_iff_not] at *
    intro h3
    rcases ky_total (ky (toL x)) (ky (toL y)) with h | h | h
    · exact h1 h
    · rw [h] at h3; exact h2 h3
    · exact h2 (ky_trans h h3)
set_option maxHeartbeats 2000000 in
set_option maxRecDepth 100000 in
theorem grpCmp_any (x y : K5) (W : World) : Calls Tryz.prog 20 #[.agg (encK x).toArray, .agg (encK y).toArray] W fun e w' => e = .returned (.int .i64 (cmpK x y)) ∧ ∃ q os', w' = grow (W.drewN q) os' := by
  obtain ⟨x0, x1, x2, x3, x4⟩ := x
  obtain ⟨y0, y1, y2, y3, y4⟩ := y
  obtain ⟨W0, hW0⟩ : ∃ W0, W0 = (W.alloc (.cells #[.string x0, .string x1, .string x2, .string x3, .string x4] 53)).alloc (.cells #[.string y0, .string y1, .string y2, .string y3, .string y4] 53) := ⟨_, rfl⟩
  have hst0 : St W W0 [(W.heap.size, .cells #[.string x0, .string x1, .string x2, .string x3, .string x4] 53 (0, 0)), (W.heap.size + 1, .cells #[.string y0, .string y1, .string y2, .string y3, .string y4] 53 (0, 0))] := by rw [hW0]; exact ((St.start W).alloc _ _ rfl).alloc _ _ (by simp)
  have HG0 := Lib.hid (show ∃ os, W0 = grow W os by rw [hW0, alloc_eq_grow, alloc_eq_grow, grow_grow]; exact ⟨_, rfl⟩)
  have hrd : ∀ (b : Nat) (l : List ByteArray), b < W0.heap.size → W0.heap[b]? = some (.cells (strC l).toArray 53 (0, 0)) → l.length = 5 → Rd W0 0 W0.heap.size 1 (some ⟨b, 0, none⟩) l.length (strC l) := fun b l hb hh hl => ⟨by simp [strC], fun _ => ⟨b, 0, rfl, Nat.zero_le _, hb, fun j u hj => by rw [Nat.zero_add, cellsAt hh]; simpa using hj⟩⟩
  have HC := Lib.hid (compareT_w (some ⟨W.heap.size, 0, none⟩) (some ⟨W.heap.size + 1, 0, none⟩) 5 5 (toL (x0, x1, x2, x3, x4)) (toL (y0, y1, y2, y3, y4)) W0 (hrd _ _ (hst0.lt 0 rfl) (hst0.at 0 rfl) rfl) (hrd _ _ (hst0.lt 1 rfl) (hst0.at 1 rfl) rfl) rfl (by show 5 ≤ 1000000; omega))
  have HCd := Lib.hid (compareT_w (some ⟨W.heap.size, 0, none⟩) (some ⟨W.heap.size + 1, 0, none⟩) 5 5 (toL (x0, x1, x2, x3, x4)) (toL (y0, y1, y2, y3, y4)) W0.drew (hrd _ _ (hst0.lt 0 rfl) (hst0.at 0 rfl) rfl) (hrd _ _ (hst0.lt 1 rfl) (hst0.at 1 rfl) rfl) rfl (by show 5 ≤ 1000000; omega))
  obtain ⟨cv, hcv⟩ : ∃ cv, cv = cmpK (x0, x1, x2, x3, x4) (y0, y1, y2, y3, y4) := ⟨_, rfl⟩
  have hcv2 : cmpT (toL (x0, x1, x2, x3, x4)) (toL (y0, y1, y2, y3, y4)) = cv := hcv.symm
  rw [hcv2] at HC HCd
  rw [← hcv]
  have e0 : (toL (x0, x1, x2, x3, x4)).length = 5 := rfl
  have e1 : (toL (y0, y1, y2, y3, y4)).length = 5 := rfl
  rw [e0, e1] at HC HCd
  clear hcv hcv2 hst0 hrd e0 e1
  show Calls Tryz.prog 20 #[.agg #[.string x0, .string x1, .string x2, .string x3, .string x4], .agg #[.string y0, .string y1, .string y2, .string y3, .string y4]] W _
  go_enter Tryz.func20, Tryz.ntmps20
  go_wp2_with fail
  rw [← hW0]
  clear hW0
  go_region_law (go_simp; go_at_call 21; (first | (with_reducible refine (HC.out).mono ?_) | (with_reducible refine (HCd.out).mono ?_)); rintro e wA ⟨rfl, rfl⟩; try go_simp)
  all_goals go_wp2
  all_goals go_ret
  all_goals obtain ⟨os, hos⟩ := HG0.out
  all_goals exact ⟨rfl, 1, os, by rw [hos]; rfl⟩
/-- no later one is less than an earlier one -/
def SrtK (l : List K5) : Prop := ∀ (i j : Nat) a b, i < j → l[i]? = some a → l[j]? = some b → ¬ ky (toL b) < ky (toL a)
theorem encK_length (x : K5) : (encK x).length = 5 := rfl
theorem encK_one (x : K5) : ∀ v ∈ encK x, v.oneCell' = true := fun v hv => by
  unfold encK strC at hv
  obtain ⟨s, _, rfl⟩ := List.mem_map.1 hv
  rfl
set_option maxHeartbeats 1000000 in
set_option maxRecDepth 100000 in
theorem keySort_any {w : World} {base g n cap : Nat} {l : List K5} (h : w.ownsRow base 53 5 (.slice (some ⟨g, 0, none⟩) n cap) n (l.flatMap encK)) (hln : l.length = n) (hn : n ≤ 1000000000000) :
    Calls Tryz.prog 19 #[.slice (some ⟨g, 0, none⟩) n cap, .func (.func 20) #[] #[]] w fun e w' => e = .returned (.tuple #[]) ∧ ∃ l', l'.Perm l ∧ SrtK l' ∧ w'.ownsRow base 53 5 (.slice (some ⟨g, 0, none⟩) n cap) n (l'.flatMap encK) ∧ Fr (fun i => i = g) w w' := by
  have eg : ∀ args w, (callFunc 20 args).run Tryz.prog w = .ok (.enter 20 args) w := enters_of Tryz.func20 (by kernel_rfl) rfl
  have hg : g < w.heap.size := by
    rcases h.2 with ⟨h0, _⟩ | ⟨g', cap', cur, hv, hb, hh, _⟩
    · cases h0
    · cases hv; exact heap_lt hh
  have hcon := AnyQ.slices_SortFunc Tryz.sortKeys 5 Tryz.isAgg53 Tryz.sizeOf53 encK encK_length encK_one cmpK swoK 20 #[] g 0 cap l.toArray w eg (fun _ _ _ _ x y => grpCmp_any x y _) (holds_ownK encK_length (by decide) h hln) hg (by simp; omega)
  rw [show l.toArray.size = n by simpa using hln] at hcon
  refine Calls.mono hcon ?_
  rintro e w' ⟨he, d', q, os, hp, hs, rfl⟩
  obtain ⟨p1, p2, p3⟩ := hp
  have hsz : d'.size = l.length := by simpa using p1
  refine ⟨he, d'.toList, ?_, ?_, ?_, ?_⟩
  · rw [← hln, ← hsz] at p3
    have e1 : d'.extract 0 d'.size = d' := by simp
    have e2 : l.toArray.extract 0 d'.size = l.toArray := by rw [hsz]; simp
    rw [e1, e2] at p3
    simpa using p3
  · intro i j a b hij ha hb
    have hjl : j < d'.size := by have := (List.getElem?_eq_some_iff.1 hb).1; simpa using this
    have := hs i j (Nat.zero_le _) hij (by omega)
    rw [lt_cmpK] at this
    have ea : d'[i]! = a := by rw [getElem!_pos d' i (by omega)]; have := (List.getElem?_eq_some_iff.1 ha).2; simpa using this
    have eb : d'[j]! = b := by rw [getElem!_pos d' j hjl]; have := (List.getElem?_eq_some_iff.1 hb).2; simpa using this
    rw [ea, eb] at this
    simpa using this
  · have := own_sortedK encK_length (by decide) h hln (l' := d'.toList) (by simpa using hsz) q os
    simpa [sortWorldK] using this
  · exact fr_sortedK w q g _ os
theorem keySortV_any {w : World} {base n : Nat} {v : Value} {l : List K5} (h : w.ownsRow base 53 5 v n (l.flatMap encK)) (hln : l.length = n) (hn : n ≤ 1000000000000) :
    Calls Tryz.prog 19 #[v, .func (.func 20) #[] #[]] w fun e w' => e = .returned (.tuple #[]) ∧ ∃ l', l'.Perm l ∧ SrtK l' ∧ w'.ownsRow base 53 5 v n (l'.flatMap encK) ∧ Fr (fun i => some i = v.ownBlock) w w' := by
  rcases Nat.eq_zero_or_pos n with rfl | hp
  · obtain ⟨A, cap, rfl, _, _, _⟩ := ownsRow_shape h
    obtain rfl : l = [] := List.eq_nil_of_length_eq_zero hln
    refine Calls.mono (AnyF.slices_SortFunc_none Tryz.sortKeys A cap (.func (.func 20) #[] #[]) w) ?_
    rintro e w' ⟨he, rfl⟩
    exact ⟨he, [], List.Perm.refl _, fun i j a b _ ha => by simp at ha, h, Fr.refl _ _⟩
  · obtain ⟨g, cap, R, rfl, _⟩ := own_block h hp
    refine Calls.mono (keySort_any h hln hn) ?_
    rintro e w' ⟨he, l', h1, h2, h3, h4⟩
    exact ⟨he, l', h1, h2, h3, h4.mono (fun i _ hi => by subst hi; rfl)⟩
end Go.Proofs.YtjkoppdddaknlaaGreatDoor

/- measure's label and the reference's: the value of a label. -/
namespace Go.Proofs.YtjkoppdddaknlaaGreatDoor
open Go Go.RowKit Go.Proofs

/-- the value of a label, by its name -/
def labV : List (ByteArray × ByteArray) → ByteArray → ByteArray
  | [], _ => ⟨#[]⟩
  | p :: l, nm => if (p.1.toList == nm.toList) = true then p.2 else labV l nm
theorem labV_drop {lab : List (ByteArray × ByteArray)} {i : Nat} {x y nm : ByteArray} (h : lab[i]? = some (x, y)) : labV (lab.drop i) nm = if (x.toList == nm.toList) = true then y else labV (lab.drop (i + 1)) nm := by
  have hlt := (List.getElem?_eq_some_iff.1 h).1
  rw [List.drop_eq_getElem_cons hlt, (List.getElem?_eq_some_iff.1 h).2]
  rfl
theorem labV_size {lab : List (ByteArray × ByteArray)} {nm : ByteArray} {M : Nat} (h : ∀ p ∈ lab, p.2.size ≤ M) : (labV lab nm).size ≤ M := by
  induction lab with
  | nil => exact Nat.zero_le _
  | cons p l ih =>
    unfold labV
    split
    · exact h p (by simp)
    · exact ih (fun q hq => h q (by simp [hq]))
set_option maxHeartbeats 2000000 in
set_option maxRecDepth 100000 in
theorem label_any (a d : Int) (A : Option Addr) (n c : Nat) (lab : List (ByteArray × ByteArray)) (f : Bool) (nm : ByteArray) (w : World) (hr : Rd w 0 w.heap.size 2 A n (strs2 lab)) (hn : n ≤ maxLen) :
    Calls Tryz.prog 18 #[.agg #[.int .i64 a, .int .i64 d, .slice A n c, .bool f], .string nm] w fun e w' => e = .returned (.string (labV lab nm)) ∧ Below w.heap.size w w' := by
  have hl : lab.length = n := by have := hr.1; rw [strs2_length] at this; omega
  unfold maxLen at hn
  have HL := Lib.hid hl
  have HR := Lib.hid hr
  clear hr hl
  obtain ⟨W2, hW2⟩ : ∃ W2, W2 = w.alloc (.cells #[.int .i64 a, .int .i64 d, .slice A n c, .bool f] 52) := ⟨_, rfl⟩
  have HST := Lib.hid (show St w W2 [(w.heap.size, .cells #[.int .i64 a, .int .i64 d, .slice A n c, .bool f] 52 (0, 0))] by rw [hW2]; exact (St.start w).alloc _ _ rfl)
  have k2 : W2.cell? ⟨w.heap.size, 2, none⟩ = some (.slice A n c) := HST.out.cell 0 2 rfl rfl
  have hz2 := HST.out.lt 0 rfl
  go_enter Tryz.func18, Tryz.ntmps18
  go_wp2_with fail
  rw [← hW2]
  clear hW2
  go_wp2
  go_loopw [6, 10] (fun _ i wr => ∃ k : Nat, k ≤ n ∧ i = .int .i64 k ∧ labV (lab.drop k) nm = labV lab nm ∧ Below W2.heap.size W2 wr) (fun _ i _ => n - (intOf i).toNat)
  case atStart => exact ⟨0, Nat.zero_le _, rfl, rfl, Below.refl _ _⟩
  case round =>
    obtain ⟨k, hk, rfl, hv, hb⟩ := hrel
    have HV := Lib.hid hv
    have HB := Lib.hid hb
    have hsb := hb.size
    have HBW := Lib.hid (show Below w.heap.size w wr from HST.out.below.trans (hb.mono HST.out.below.size))
    clear hv hb k2
    by_cases hlt : k < n
    · obtain ⟨bk, o, x, y, rfl, hbk, hxy, c0, c1⟩ := rd_strs (HR.out.below HBW.out (Nat.le_refl _)) hlt
      have hbl : bk < wr.heap.size := by omega
      have hne : bk ≠ wr.heap.size := by omega
      have hd := labV_drop (nm := nm) hxy
      rw [HV.out] at hd
      have HD := Lib.hid hd
      clear hd hxy
      cases he : (x.toList == nm.toList) with
      | true =>
        have HE := Lib.hid (show labV lab nm = y by rw [HD.out, he, if_pos rfl])
        go_wp2
        go_ret
        exact ⟨by rw [HE.out]; rfl, HBW.out.alloc (HBW.out.size) _⟩
      | false =>
        have HE := Lib.hid (show labV (lab.drop (k + 1)) nm = labV lab nm by rw [HD.out, he]; simp)
        have HA := Lib.hid (HB.out.alloc hsb (.cells #[.string x, .string y] 85))
        go_wp2
        go_roundw
        case rel => exact ⟨k + 1, by omega, by go_num, HE.out, HA.out⟩
        case measure => simp [intOf]; omega
    · have HE := Lib.hid (show labV lab nm = ⟨#[]⟩ by rw [← HV.out, List.drop_of_length_le (by have := HL.out; omega)]; rfl)
      go_wp2
      go_ret
      exact ⟨by rw [HE.out]; rfl, HBW.out⟩
set_option maxHeartbeats 2000000 in
set_option maxRecDepth 100000 in
theorem rlabel_any (a d : Int) (A : Option Addr) (n c : Nat) (lab : List (ByteArray × ByteArray)) (f : Bool) (nm : ByteArray) (w : World) (hr : Rd w 0 w.heap.size 2 A n (strs2 lab)) (hn : n ≤ maxLen) :
    Calls Tryz.prog 26 #[.agg #[.int .i64 a, .int .i64 d, .slice A n c, .bool f], .string nm] w fun e w' => e = .returned (.string (labV lab nm)) ∧ Below w.heap.size w w' := by
  have hl : lab.length = n := by have := hr.1; rw [strs2_length] at this; omega
  unfold maxLen at hn
  have HL := Lib.hid hl
  have HR := Lib.hid hr
  clear hr hl
  obtain ⟨W2, hW2⟩ : ∃ W2, W2 = w.alloc (.cells #[.int .i64 a, .int .i64 d, .slice A n c, .bool f] 52) := ⟨_, rfl⟩
  have HST := Lib.hid (show St w W2 [(w.heap.size, .cells #[.int .i64 a, .int .i64 d, .slice A n c, .bool f] 52 (0, 0))] by rw [hW2]; exact (St.start w).alloc _ _ rfl)
  go_enter Tryz.func26, Tryz.ntmps26
  go_wp2_with fail
  rw [← hW2]
  clear hW2
  go_loopw [5] (fun i wr => ∃ k : Nat, k ≤ n ∧ i = .int .i64 k ∧ labV (lab.drop k) nm = labV lab nm ∧ Below W2.heap.size W2 wr) (fun i _ => n - (intOf i).toNat)
  case atStart => exact ⟨0, Nat.zero_le _, rfl, rfl, Below.refl _ _⟩
  case round =>
    obtain ⟨k, hk, rfl, hv, hb⟩ := hrel
    have HV := Lib.hid hv
    have HB := Lib.hid hb
    have hsb := hb.size
    have HBW := Lib.hid (show Below w.heap.size w wr from HST.out.below.trans (hb.mono HST.out.below.size))
    have k2 : wr.cell? ⟨w.heap.size, 2, none⟩ = some (.slice A n c) := (HST.out.call hb).cell 0 2 rfl rfl
    have hz2 : w.heap.size < wr.heap.size := (HST.out.call hb).lt 0 rfl
    clear hv hb
    by_cases hlt : k < n
    · obtain ⟨bk, o, x, y, rfl, hbk, hxy, c0, c1⟩ := rd_strs (HR.out.below HBW.out (Nat.le_refl _)) hlt
      have hbl : bk < wr.heap.size := by omega
      have hd := labV_drop (nm := nm) hxy
      rw [HV.out] at hd
      have HD := Lib.hid hd
      clear hd hxy
      cases he : (x.toList == nm.toList) with
      | true =>
        have HE := Lib.hid (show labV lab nm = y by rw [HD.out, he, if_pos rfl])
        go_wp2
        go_ret
        exact ⟨by rw [HE.out]; rfl, HBW.out⟩
      | false =>
        have HE := Lib.hid (show labV (lab.drop (k + 1)) nm = labV lab nm by rw [HD.out, he]; simp)
        go_wp2
        go_roundw
        case rel => exact ⟨k + 1, by omega, by go_num, HE.out, HB.out⟩
        case measure => simp [intOf]; omega
    · have HE := Lib.hid (show labV lab nm = ⟨#[]⟩ by rw [← HV.out, List.drop_of_length_le (by have := HL.out; omega)]; rfl)
      go_wp2
      go_ret
      exact ⟨by rw [HE.out]; rfl, HBW.out⟩
end Go.Proofs.YtjkoppdddaknlaaGreatDoor
