import Derived.Test.YtepfmoaihhonlaaGreatDoorG28
import Derived.Test.YtepfmoaihhonlaaGreatDoorNatDivK
/- nat.Int; package load: product, stageAt. -/
namespace Go.Proofs.YtepfmoaihhonlaaGreatDoor
open Go Go.RowKit Go.Proofs

set_option maxHeartbeats 1000000 in
set_option maxRecDepth 100000 in
theorem natInt_any (A : Option Addr) (c : Nat) (l : List Nat) (x : Nat) (w : World) (h : NatR w A c l x) (hs : l.length ≤ 1000000) (hx : x < 9223372036854775808) :
    Calls Tryz.prog 178 #[.slice A l.length c] w fun e w' => e = .returned (.tuple #[.int .i64 (x : Int), .bool true]) ∧ w = w' := by
  match l, h, hs with
  | [], h, _ =>
    have HX := Lib.hid (show x = 0 by have := h.val; simp [val] at this; exact this.symm)
    clear h
    go_enter Tryz.func178, Tryz.ntmps178
    go_wp2
    go_ret2
    exact ⟨by rw [HX.out]; rfl, rfl⟩
  | [d], h, _ =>
    obtain rfl : x = d := by have := h.val; simp [val] at this; exact this.symm
    obtain ⟨b, o, u, rfl, hb, hu, qd⟩ := h.rd.at1 (show 0 < [x].length by simp)
    obtain ⟨d', hd', rfl⟩ := u64s_get hu
    obtain rfl : x = d' := by simpa using hd'
    rw [Nat.add_zero] at qd
    have t1 : decide (9223372036854775808 ≤ (x : Int)) = false := by simp; omega
    clear h hu hd'
    go_enter Tryz.func178, Tryz.ntmps178
    go_wp2
    go_ret2
    exact ⟨rfl, rfl⟩
  | a :: b :: r, h, _ =>
    exfalso
    have h1 := val_ge W64_pos h.norm (by simp)
    rw [h.val] at h1
    have h2 : W64 ^ 1 ≤ W64 ^ ((a :: b :: r).length - 1) := Nat.pow_le_pow_right (by unfold W64; omega) (by simp)
    rw [Nat.pow_one] at h2
    unfold W64 at h1 h2
    omega

/-- the product -/
def prodN : List Int → Nat
  | [] => 1
  | z :: r => z.toNat * prodN r
theorem prodN_append : ∀ a b : List Int, prodN (a ++ b) = prodN a * prodN b
  | [], b => by simp [prodN]
  | z :: a, b => by simp [prodN, prodN_append a b, Nat.mul_assoc]
theorem prodN_take {zs : List Int} {k : Nat} {z : Int} (h : zs[k]? = some z) : prodN (zs.take (k + 1)) = prodN (zs.take k) * z.toNat := by
  rw [List.take_add_one, h, prodN_append]; simp [prodN]
theorem prodN_le : ∀ {zs : List Int}, (∀ z ∈ zs, z ≤ 9223372036854775807) → prodN zs ≤ W64 ^ zs.length
  | [], _ => by simp [prodN]
  | z :: r, h => by
    have ih := prodN_le (zs := r) (fun x hx => h x (by simp [hx]))
    have hz := h z (by simp)
    simp only [prodN, List.length_cons, Nat.pow_succ]
    rw [Nat.mul_comm]
    exact Nat.mul_le_mul ih (by unfold W64; omega)

set_option maxHeartbeats 1000000 in
set_option maxRecDepth 100000 in
theorem product_any (A : Option Addr) (c : Nat) (zs : List Int) (w : World) (hr : Rd w 0 w.heap.size 1 A zs.length (ints zs)) (hn : zs.length ≤ 1000) (hz : ∀ z ∈ zs, z ≤ 9223372036854775807) :
    Calls Tryz.prog 60 #[.slice A zs.length c] w (NatPost (prodN zs) w) := by
  have HR := Lib.hid hr
  have HZ := Lib.hid hz
  have HO1 := Lib.hid (fun W => natOf_any 1 W (by omega))
  clear hr hz
  go_enter Tryz.func60, Tryz.ntmps60
  go_wp2_with fail
  refine (HO1.out _).mono ?_
  rintro e w1 ⟨A1, c1, l1, rfl, hn1, hb1⟩
  have HN1 := Lib.hid hn1
  have HB1 := Lib.hid hb1
  clear hn1 hb1
  go_wp2_with fail
  go_loopw [3, 5, 9] (fun out _ i wr => ∃ (k : Nat) (A1 : Option Addr) (c1 : Nat) (l1 : List Nat), k ≤ zs.length ∧ i = .int .i64 k ∧ out = .slice A1 l1.length c1 ∧ NatR wr A1 c1 l1 (prodN (zs.take k)) ∧ Below w.heap.size w wr) (fun _ _ i _ => zs.length - (intOf i).toNat)
  case atStart => exact ⟨0, A1, c1, l1, Nat.zero_le _, rfl, rfl, HN1.out, HB1.out⟩
  case round =>
    obtain ⟨k, A2, c2, l2, hk, rfl, rfl, hn2, hbw⟩ := hrel
    by_cases hlt : k < zs.length
    · obtain ⟨b, o, u, rfl, hb, hu, q⟩ := (HR.out.below hbw (Nat.le_refl _)).at1 hlt
      obtain ⟨z, hz, rfl⟩ := ints_get hu
      have hzb := HZ.out z (List.mem_of_getElem? hz)
      have hl2 : l2.length ≤ k + 1 := by
        refine len_of_lt hn2.norm hn2.val ?_
        have h1 := prodN_le (zs := zs.take k) (fun x hx => HZ.out x (List.mem_of_mem_take hx))
        have h2 : (zs.take k).length = k := by simp; omega
        rw [h2] at h1
        have h3 : W64 ^ k < W64 ^ (k + 1) := Nat.pow_lt_pow_right W64_pos (by omega)
        omega
      have HP := Lib.hid (prodN_take hz)
      have HN2 := Lib.hid hn2
      have HBW := Lib.hid hbw
      have HOF := Lib.hid (fun W => natOf_any z W hzb)
      have HMU := Lib.hid (fun W (hb : Below wr.heap.size wr W) A3 c3 l3 (h3 : NatR W A3 c3 l3 z.toNat) => natMul_any A2 A3 c2 c3 l2 l3 (prodN (zs.take k)) z.toNat W (HN2.out.on hb) h3 (by omega) (by
        have := len_of_lt (n := 1) h3.norm h3.val (by rw [Nat.pow_one]; unfold W64; omega)
        omega))
      clear hu hz hn2 hbw
      go_wp2_with fail
      refine (HOF.out _).mono ?_
      rintro e w2 ⟨A3, c3, l3, rfl, hn3, hb3⟩
      have HM := Lib.hid (HMU.out w2 hb3 A3 c3 l3 hn3)
      have HB3 := Lib.hid hb3
      clear hn3 hb3
      go_wp2_with fail
      refine HM.out.mono ?_
      rintro e w3 ⟨A4, c4, l4, rfl, hn4, hb4⟩
      have HN4 := Lib.hid hn4
      have HB4 := Lib.hid (HBW.out.trans ((below_next HB3.out hb4).mono HBW.out.size))
      clear hn4 hb4
      go_wp2
      go_roundw
      case rel => exact ⟨k + 1, A4, c4, l4, by omega, by go_num, rfl, by rw [HP.out]; exact HN4.out, HB4.out⟩
      case measure => simp [intOf]; omega
    · have hE : zs.take k = zs := List.take_of_length_le (by omega)
      rw [hE] at hn2
      have HN2 := Lib.hid hn2
      have HBW := Lib.hid hbw
      clear hn2 hbw hE
      go_wp2
      go_ret
      exact ⟨_, _, _, rfl, HN2.out, HBW.out⟩

/-- as a stage -/
def toStg (s : Int × Int × Int) : Stg := ⟨s.1.toNat, s.2.1.toNat, s.2.2.toNat⟩
def stgs (l : List (Int × Int × Int)) : List Stg := l.map toStg
/-- the number of the stage at a time, and how far the time is in it -/
def stIx : List Stg → Nat → Nat × Nat
  | [], t => (0, t)
  | [_], t => (0, t)
  | s :: s' :: r, t => if t < s.F then (0, t) else ((stIx (s' :: r) (t - s.F)).1 + 1, (stIx (s' :: r) (t - s.F)).2)
def sumP (l : List Stg) : Nat := (l.map Stg.parts).sum
theorem loc_stIx : ∀ (l : List Stg) (ah t : Nat), l ≠ [] → ∃ s, l[(stIx l t).1]? = some s ∧ loc ah l t = (ah + sumP (l.take (stIx l t).1), s, min (stIx l t).2 s.F)
  | [], _, _, h => absurd rfl h
  | [s], ah, t, _ => ⟨s, rfl, by simp [stIx, loc, sumP]⟩
  | s :: s' :: r, ah, t, _ => by
    unfold stIx loc
    split
    · rename_i h
      exact ⟨s, rfl, by simp [sumP]; omega⟩
    · obtain ⟨s2, h1, h2⟩ := loc_stIx (s' :: r) (ah + s.parts) (t - s.F) (by simp)
      refine ⟨s2, by simpa using h1, ?_⟩
      rw [h2]
      simp [sumP, Nat.add_assoc]
theorem stIx_step {s s' : Stg} {r : List Stg} {t : Nat} (h : s.F ≤ t) : stIx (s :: s' :: r) t = ((stIx (s' :: r) (t - s.F)).1 + 1, (stIx (s' :: r) (t - s.F)).2) := by
  rw [stIx, if_neg (by omega)]

set_option maxHeartbeats 1000000 in
set_option maxRecDepth 100000 in
theorem stageAt_any (A : Option Addr) (c : Nat) (l : List (Int × Int × Int)) (t : Nat) (w : World) (hr : Rd w 0 w.heap.size 3 A l.length (cells3 l)) (hl : OkL l) (ht : t ≤ 9223372036854775807) :
    Calls Tryz.prog 59 #[.slice A l.length c, .int .i64 t] w fun e w' => e = .returned (.tuple #[.int .i64 (((stIx (stgs l) t).1 : Nat) : Int), .int .i64 (((stIx (stgs l) t).2 : Nat) : Int)]) ∧ w = w' := by
  have HR := Lib.hid hr
  have HOK := Lib.hid hl.ok
  have hne := hl.ne
  have hle := hl.le
  have hsl : (stgs l).length = l.length := by simp [stgs]
  have HSL := Lib.hid hsl
  clear hr hl hsl
  go_enter Tryz.func59, Tryz.ntmps59
  go_wp2_with fail
  go_loop [1, 4] (fun tv iv => ∃ i t' : Nat, tv = .int .i64 t' ∧ iv = .int .i64 i ∧ i < l.length ∧ t' ≤ t ∧ stIx (stgs l) t = (i + (stIx ((stgs l).drop i) t').1, (stIx ((stgs l).drop i) t').2)) (fun _ iv => l.length - (intOf iv).toNat)
  case atStart => exact ⟨0, t, rfl, rfl, hne, Nat.le_refl _, by simp⟩
  case round =>
    obtain ⟨i, t', rfl, rfl, hi, ht', heq⟩ := hrel
    have HEQ := Lib.hid heq
    clear heq
    obtain ⟨b, o, F, x, y, rfl, _, hb, hx, c0, c1, c2⟩ := HR.out.at3 hi
    have hF := HOK.out _ (List.mem_of_getElem? hx)
    unfold OkS at hF
    simp only at hF
    obtain ⟨f1, f2, _, _, _, _⟩ := hF
    have HD := Lib.hid (show (stgs l).drop i = toStg (F, x, y) :: (stgs l).drop (i + 1) by
      have h1 : (stgs l)[i]? = some (toStg (F, x, y)) := by unfold stgs; rw [List.getElem?_map, hx]; rfl
      have e := List.getElem?_eq_some_iff.1 h1
      rw [List.drop_eq_getElem_cons e.1, e.2])
    clear hx
    by_cases hlast : i + 1 < l.length
    · have t1 : decide ((i : Int) < (l.length : Int) - 1) = true := by simp; omega
      obtain ⟨s', r', HD'⟩ : ∃ s' r', Hid ((stgs l).drop (i + 1) = s' :: r') := by
        have h1 : i + 1 < (stgs l).length := by rw [HSL.out]; exact hlast
        exact ⟨_, _, Lib.hid (List.drop_eq_getElem_cons h1)⟩
      by_cases hge : F ≤ (t' : Int)
      · have HN := Lib.hid (show stIx (stgs l) t = (i + 1 + (stIx ((stgs l).drop (i + 1)) (t' - F.toNat)).1, (stIx ((stgs l).drop (i + 1)) (t' - F.toNat)).2) by
          rw [HEQ.out, HD.out, HD'.out, stIx_step (by simp [toStg]; omega)]
          simp only [toStg]
          congr 1
          omega)
        go_wp2
        go_round
        case rel => exact ⟨i + 1, t' - F.toNat, by go_num, by go_num, by omega, by omega, HN.out⟩
        case measure => simp [intOf]; omega
      · have HN := Lib.hid (show stIx (stgs l) t = (i, t') by
          rw [HEQ.out, HD.out, HD'.out, stIx, if_pos (by simp [toStg]; omega)]; rfl)
        go_wp2
        go_ret2
        exact ⟨by rw [HN.out]; rfl, rfl⟩
    · have t1 : decide ((i : Int) < (l.length : Int) - 1) = false := by simp; omega
      have HN := Lib.hid (show stIx (stgs l) t = (i, t') by
        rw [HEQ.out, HD.out, List.drop_eq_nil_of_le (by rw [HSL.out]; omega)]; rfl)
      go_wp2
      go_ret2
      exact ⟨by rw [HN.out]; rfl, rfl⟩
end Go.Proofs.YtepfmoaihhonlaaGreatDoor

/- Package load: a line in memory. -/
namespace Go.Proofs.YtepfmoaihhonlaaGreatDoor
open Go Go.RowKit Go.Proofs

theorem NatR.keep {w w' : World} {A : Option Addr} {c : Nat} {l : List Nat} {x : Nat} (h : NatR w A c l x) (hs : w.heap.size ≤ w'.heap.size) (hk : ∀ b o, A = some ⟨b, o, none⟩ → b < w.heap.size → 0 < l.length → w'.heap[b]? = w.heap[b]?) : NatR w' A c l x :=
  ⟨⟨h.rd.1, fun hn => by
    obtain ⟨b, o, e, h1, h2, h3⟩ := h.rd.2 hn
    exact ⟨b, o, e, h1, by omega, fun j u hu => (World.cell?_of_block (hk b o e h2 hn)).trans (h3 j u hu)⟩⟩, h.norm, h.val, h.cap, h.max, h.nil⟩
/-- where a number lies -/
def Apart (P : Nat) (v1 v2 : Value) (A : Option Addr) (l : List Nat) : Prop := ∀ b o, A = some ⟨b, o, none⟩ → 0 < l.length → b ≠ P ∧ some b ≠ v1.ownBlock ∧ some b ≠ v2.ownBlock
/-- a line that is being made: its box P, the row v1 of beginnings, the row v2 of numbers -/
structure NL (w wr : World) (P : Nat) (v0 v1 v2 : Value) (bg : List Int) (vals : List Value) (xs : List Nat) : Prop where
  below : Below w.heap.size w wr
  hP : w.heap.size ≤ P
  box : wr.heap[P]? = some (.cells #[v0, v1, v2] 176 (0, 0))
  own1 : wr.ownsRow w.heap.size 3 1 v1 bg.length (ints bg)
  own2 : wr.ownsRow w.heap.size 93 1 v2 vals.length vals
  p1 : some P ≠ v1.ownBlock
  p2 : some P ≠ v2.ownBlock
  dis : ∀ b, some b = v1.ownBlock → some b ≠ v2.ownBlock
  len : vals.length = xs.length
  nat : ∀ (i : Nat) x, xs[i]? = some x → ∃ A c l, vals[i]? = some (.slice A l.length c) ∧ NatR wr A c l x ∧ Apart P v1 v2 A l
section
variable {w wr w' : World} {P : Nat} {v0 v1 v2 : Value} {bg : List Int} {vals : List Value} {xs : List Nat}
theorem NL.call (h : NL w wr P v0 v1 v2 bg vals xs) (hb : Below wr.heap.size wr w') : NL w w' P v0 v1 v2 bg vals xs where
  below := h.below.trans (hb.mono h.below.size)
  hP := h.hP
  box := (hb.block P (heap_lt h.box)).trans h.box
  own1 := ownsRow_fr h.own1 (Fr.of_below hb) (fun i hi hm => by have := (ownsRow_block h.own1 hi).2; omega)
  own2 := ownsRow_fr h.own2 (Fr.of_below hb) (fun i hi hm => by have := (ownsRow_block h.own2 hi).2; omega)
  p1 := h.p1
  p2 := h.p2
  dis := h.dis
  len := h.len
  nat := fun i x hx => by
    obtain ⟨A, c, l, h1, h2, h3⟩ := h.nat i x hx
    exact ⟨A, c, l, h1, h2.on hb, h3⟩
/-- a beginning is appended -/
theorem NL.app1 {g cap : Nat} {z : Int} (h : NL w wr P v0 v1 v2 bg vals xs) (hown : w'.ownsRow w.heap.size 3 1 (.slice (some ⟨g, 0, none⟩) (bg.length + 1) cap) (bg.length + 1) (ints bg ++ [.int .i64 z])) (hg : wr.grownBy w' v1.ownBlock) (hat : v1.ownBlock = some g ∨ g = wr.heap.size) :
    NL w (w'.setCell ⟨P, 1, none⟩ (.slice (some ⟨g, 0, none⟩) (bg.length + 1) cap)) P v0 (.slice (some ⟨g, 0, none⟩) (bg.length + 1) cap) v2 (bg ++ [z]) vals xs := by
  have hf := Fr.of_grown hg
  have hP := heap_lt h.box
  have hbox : w'.heap[P]? = some (.cells #[v0, v1, v2] 176 (0, 0)) := (hf.block P hP (fun e => h.p1 e)).trans h.box
  have hPg : P ≠ g := by
    rintro rfl
    rcases hat with e | e
    · exact h.p1 e.symm
    · omega
  have hg2 : ∀ b, some b = v2.ownBlock → b ≠ g := by
    rintro b hb rfl
    rcases hat with e | e
    · exact h.dis b e.symm hb
    · have := (ownsRow_block h.own2 hb).2; omega
  have hfs : Fr (fun i => i = P) w' (w'.setCell ⟨P, 1, none⟩ (.slice (some ⟨g, 0, none⟩) (bg.length + 1) cap)) := (Fr.refl (fun i => i = P) w').setCell (fun _ => rfl) _
  refine ⟨?_, h.hP, ?_, ?_, ?_, ?_, h.p2, ?_, h.len, ?_⟩
  · refine (h.below.trans (hf.below (B := w.heap.size) h.below.size (fun i hi hm => ?_))).setCell h.hP _
    have := (ownsRow_block h.own1 hm).1; omega
  · simp [World.setCell, Array.getElem?_modify, hbox]
  · have := ownsRow_fr hown hfs (fun i hi hm => by cases hi; exact hPg hm.symm)
    simpa [ints] using this
  · refine ownsRow_fr (ownsRow_fr h.own2 hf (fun i hi hm => h.dis i hm hi)) hfs (fun i hi hm => ?_)
    subst hm; exact h.p2 hi
  · intro e; cases e; exact hPg rfl
  · intro b hb hb2
    cases hb
    exact hg2 g hb2 rfl
  · intro i x hx
    obtain ⟨A, c, l, h1, h2, h3⟩ := h.nat i x hx
    refine ⟨A, c, l, h1, h2.keep (by have := hf.size; simpa [World.setCell] using this) (fun b o e hb hl => ?_), fun b o e hl => ?_⟩
    · obtain ⟨a1, a2, a3⟩ := h3 b o e hl
      exact (hfs.block b (by have := hf.size; omega) a1).trans (hf.block b hb (fun e => a2 e))
    · obtain ⟨a1, a2, a3⟩ := h3 b o e hl
      refine ⟨a1, ?_, a3⟩
      rcases hat with e' | e'
      · rw [show (Value.slice (some ⟨g, 0, none⟩) (bg.length + 1) cap).ownBlock = some g from rfl, ← e']; exact a2
      · intro e2
        cases e2
        obtain ⟨b', o', e3, _, hlt, _⟩ := h2.rd.2 hl
        rw [e] at e3; cases e3
        have hlt' : g < wr.heap.size := hlt
        omega
/-- a number is appended -/
theorem NL.app2 {g cap : Nat} {A : Option Addr} {c : Nat} {l : List Nat} {x : Nat} (h : NL w wr P v0 v1 v2 bg vals xs) (hx : NatR wr A c l x) (hap : Apart P v1 v2 A l)
    (hown : w'.ownsRow w.heap.size 93 1 (.slice (some ⟨g, 0, none⟩) (vals.length + 1) cap) (vals.length + 1) (vals ++ [.slice A l.length c])) (hg : wr.grownBy w' v2.ownBlock) (hat : v2.ownBlock = some g ∨ g = wr.heap.size) :
    NL w (w'.setCell ⟨P, 2, none⟩ (.slice (some ⟨g, 0, none⟩) (vals.length + 1) cap)) P v0 v1 (.slice (some ⟨g, 0, none⟩) (vals.length + 1) cap) bg (vals ++ [.slice A l.length c]) (xs ++ [x]) := by
  have hf := Fr.of_grown hg
  have hP := heap_lt h.box
  have hbox : w'.heap[P]? = some (.cells #[v0, v1, v2] 176 (0, 0)) := (hf.block P hP (fun e => h.p2 e)).trans h.box
  have hPg : P ≠ g := by
    rintro rfl
    rcases hat with e | e
    · exact h.p2 e.symm
    · omega
  have hg1 : ∀ b, some b = v1.ownBlock → b ≠ g := by
    rintro b hb rfl
    rcases hat with e | e
    · exact h.dis b hb e.symm
    · have := (ownsRow_block h.own1 hb).2; omega
  have hfs : Fr (fun i => i = P) w' (w'.setCell ⟨P, 2, none⟩ (.slice (some ⟨g, 0, none⟩) (vals.length + 1) cap)) := (Fr.refl (fun i => i = P) w').setCell (fun _ => rfl) _
  have key : ∀ (A : Option Addr) (c : Nat) (l : List Nat) (x : Nat), NatR wr A c l x → Apart P v1 v2 A l → NatR (w'.setCell ⟨P, 2, none⟩ (.slice (some ⟨g, 0, none⟩) (vals.length + 1) cap)) A c l x ∧ Apart P v1 (.slice (some ⟨g, 0, none⟩) (vals.length + 1) cap) A l := by
    intro A c l x h2 h3
    refine ⟨h2.keep (by have := hf.size; simpa [World.setCell] using this) (fun b o e hb hl => ?_), fun b o e hl => ?_⟩
    · obtain ⟨a1, a2, a3⟩ := h3 b o e hl
      exact (hfs.block b (by have := hf.size; omega) a1).trans (hf.block b hb (fun e => a3 e))
    · obtain ⟨a1, a2, a3⟩ := h3 b o e hl
      refine ⟨a1, a2, ?_⟩
      rcases hat with e' | e'
      · rw [show (Value.slice (some ⟨g, 0, none⟩) (vals.length + 1) cap).ownBlock = some g from rfl, ← e']; exact a3
      · intro e2
        cases e2
        obtain ⟨b', o', e3, _, hlt, _⟩ := h2.rd.2 hl
        rw [e] at e3; cases e3
        have hlt' : g < wr.heap.size := hlt
        omega
  refine ⟨?_, h.hP, ?_, ?_, ?_, h.p1, ?_, ?_, ?_, ?_⟩
  · refine (h.below.trans (hf.below (B := w.heap.size) h.below.size (fun i hi hm => ?_))).setCell h.hP _
    have := (ownsRow_block h.own2 hm).1; omega
  · simp [World.setCell, Array.getElem?_modify, hbox]
  · refine ownsRow_fr (ownsRow_fr h.own1 hf (fun i hi hm => h.dis i hi hm)) hfs (fun i hi hm => ?_)
    subst hm; exact h.p1 hi
  · have := ownsRow_fr hown hfs (fun i hi hm => by cases hi; exact hPg hm.symm)
    simpa using this
  · intro e; cases e; exact hPg rfl
  · intro b hb hb2
    cases hb2
    exact hg1 g hb rfl
  · simp [h.len]
  · intro i y hy
    rw [List.getElem?_append] at hy
    split at hy
    · rename_i hi
      obtain ⟨A', c', l', h1, h2, h3⟩ := h.nat i y hy
      exact ⟨A', c', l', by rw [List.getElem?_append_left (by rw [h.len]; exact hi)]; exact h1, key A' c' l' y h2 h3⟩
    · rename_i hi
      rw [List.getElem?_singleton] at hy
      split at hy
      · rename_i hz
        have hy := Option.some.inj hy
        subst hy
        refine ⟨A, c, l, ?_, key A c l x hx hap⟩
        rw [List.getElem?_append_right (by rw [h.len]; omega), h.len, hz]
        rfl
      · cases hy
end
/-- a line in memory -/
structure LineR (w : World) (P : Nat) (A : Option Addr) (c : Nat) (l : List (Int × Int × Int)) : Prop where
  lt : P < w.heap.size
  ex : ∃ v1 v2 A1 c1 A2 c2, v1 = .slice A1 l.length c1 ∧ v2 = .slice A2 (l.length + 1) c2 ∧ w.heap[P]? = some (.cells #[.slice A l.length c, v1, v2] 176 (0, 0)) ∧
    Rd w 0 w.heap.size 1 A1 l.length (ints ((List.range l.length).map fun i => lenS (l.take i))) ∧
    ∃ b o, A2 = some ⟨b, o, none⟩ ∧ b < w.heap.size ∧ ∀ i, i ≤ l.length → ∃ A3 c3 l3, w.cell? ⟨b, o + i, none⟩ = some (.slice A3 l3.length c3) ∧ NatR w A3 c3 l3 (sumP ((stgs l).take i))
  st : Rd w 0 w.heap.size 3 A l.length (cells3 l)
theorem LineR.on {w w' : World} {P : Nat} {A : Option Addr} {c : Nat} {l : List (Int × Int × Int)} (h : LineR w P A c l) (hb : Below w.heap.size w w') : LineR w' P A c l := by
  refine ⟨by have := h.lt; have := hb.size; omega, ?_, h.st.old hb⟩
  obtain ⟨v1, v2, A1, c1, A2, c2, e1, e2, hx, h1, b, o, e3, hlt, h2⟩ := h.ex
  refine ⟨v1, v2, A1, c1, A2, c2, e1, e2, (hb.block P h.lt).trans hx, h1.old hb, b, o, e3, by have := hb.size; omega, fun i hi => ?_⟩
  obtain ⟨A3, c3, l3, q1, q2⟩ := h2 i hi
  exact ⟨A3, c3, l3, (hb.cell hlt).trans q1, q2.on hb⟩
end Go.Proofs.YtepfmoaihhonlaaGreatDoor
