import Derived.Test.YthfloagpmmohkaaGreatDoorHedG
import Derived.Test.YthfloagpmmohkaaGreatDoorG38
import Derived.Test.YthfloagpmmohkaaGreatDoorG41
import Derived.Test.YthfloagpmmohkaaGreatDoorRows
import Derived.WalkKit
import Derived.ProofKit
import Derived.OpenShut
import Derived.JoinedCond
/- WireHeadsMatchSpec: the law's walk. -/
namespace Go.Proofs.YthfloagpmmohkaaGreatDoor
open Go Go.RowKit Go.Proofs

def zsOf (xs : List (List UInt8)) : List ByteArray := xs.map fun l => ⟨l.toArray⟩
theorem zsOf_len (xs : List (List UInt8)) : (zsOf xs).length = xs.length := by simp [zsOf]
theorem zsOf_txs (xs : List (List UInt8)) : strC (zsOf xs) = txs xs := by simp [strC, zsOf, txs]
theorem headFault_all {h : List Pr} (e : headFault h = 0) : ∀ p ∈ h, headK p = 0 := by
  unfold headFault at e
  split at e
  · omega
  · split at e
    · rename_i hf
      intro p hp
      have := List.find?_eq_none.1 hf p hp
      simpa using this
    · rename_i p hf
      have := List.find?_some hf
      simp [e] at this
theorem valsRes_bd (h : List Pr) (name : List UInt8) : (valsRes h name).length ≤ 100 ∧ ∀ y ∈ valsRes h name, y.length ≤ 8000 := by
  unfold valsRes
  split
  · rename_i hq
    refine ⟨Nat.le_trans (valuesP_len h name) (headFault_len hq.1), fun y hy => ?_⟩
    unfold valuesP at hy
    obtain ⟨p, hp, rfl⟩ := List.mem_map.1 hy
    have hk := headFault_all hq.1 p (List.mem_filter.1 hp).1
    unfold headK at hk
    split at hk
    · split at hk
      · rename_i hv
        unfold valueOk at hv
        simp only [Bool.and_eq_true, decide_eq_true_eq] at hv
        exact hv.2.1
      · omega
    · omega
  · exact ⟨Nat.zero_le _, fun y hy => by cases hy⟩
theorem vals_val {w w' : World} {h : List Pr} {name : List UInt8} {e : Ending} (hv : ValsP w h name e w') :
    ∃ A c, e = .returned (.tuple #[.slice A (zsOf (valsRes h name)).length c, .int .i64 (valsCode h name)]) ∧ Rd w' 0 w'.heap.size 1 A (zsOf (valsRes h name)).length (strC (zsOf (valsRes h name))) ∧ TyB w' 9 A (zsOf (valsRes h name)).length ∧ Below w.heap.size w w' := by
  obtain ⟨hb, V, rfl, hO⟩ := hv
  rw [zsOf_len, zsOf_txs]
  rcases hO.2 with ⟨rfl, h0⟩ | ⟨g, o, cap, cur, rfl, h1, h2, h3, h4, h5, h6⟩
  · rw [h0]
    have : txs (valsRes h name) = [] := List.eq_nil_of_length_eq_zero (by have := hO.1; omega)
    rw [this]
    exact ⟨none, 0, rfl, Rd.nil, (fun q => absurd q (by omega)), hb⟩
  · refine ⟨some ⟨g, o, none⟩, cap, rfl, ⟨hO.1, fun hp => ⟨g, o, rfl, Nat.zero_le _, heap_lt h2, fun j u hj => ?_⟩⟩, fun hp => ⟨g, o, cur, _, rfl, h2⟩, hb⟩
    rw [cellsAt h2, ← Array.getElem?_toList]
    rw [← h6] at hj
    have hlt : j < (valsRes h name).length * 1 := by
      have := (List.getElem?_eq_some_iff.1 hj).1
      simp only [List.length_take] at this
      omega
    rw [List.getElem?_take_of_lt hlt, List.getElem?_drop] at hj
    exact hj
/-- what Proper returns -/
def prpV (name : List UInt8) : List UInt8 := if nameOk name then proper name else []
def prpC (name : List UInt8) : Int := if nameOk name then 0 else 8
theorem prp_eq (name : List UInt8) : (if nameOk name = true then Value.tuple #[tx (proper name), .int .i64 0] else .tuple #[tx [], .int .i64 8]) = .tuple #[tx (prpV name), .int .i64 (prpC name)] := by
  unfold prpV prpC
  split <;> rfl
set_option maxHeartbeats 8000000 in
set_option maxRecDepth 100000 in
theorem lawHds_any (A : Option Addr) (n c : Nat) (h : List Pr) (name : List UInt8) (w : World) (htab : Tab w.heap.size w) (hr : Rd w 0 w.heap.size 2 A n (prC h)) (hb : PrBd h) (hn : n ≤ 140737488355328) (hnm : name.length ≤ 140737488355328) :
    Calls Tryz.prog 3 #[.slice A n c, tx name] w fun e w' => e = .returned (.bool true) ∧ Below w.heap.size w w' := by
  have HP := Lib.hid (fun W => proper_any name W hnm)
  have HRP := Lib.hid (fun W => rproper_any name W hnm)
  rw [prp_eq] at HP HRP
  have HG := Lib.hid (fun W (hW : Below w.heap.size w W) => (values_any A n c h name W ((hr.below hW (Nat.le_refl _)).more (Nat.le_refl _) hW.size) hb hn hnm).mono fun e w' hh => vals_val hh)
  have HRG := Lib.hid (fun W (hW : Below w.heap.size w W) => (rvalues_any A n c h name W ((hr.below hW (Nat.le_refl _)).more (Nat.le_refl _) hW.size) hb hn hnm).mono fun e w' hh => vals_val hh)
  have HTB := Lib.hid htab
  have hbd := valsRes_bd h name
  obtain ⟨zs, hzs⟩ : ∃ z, z = zsOf (valsRes h name) := ⟨_, rfl⟩
  have HZ := Lib.hid (show zs.length ≤ 100 ∧ ∀ z ∈ zs, z.size ≤ 10000000 by
    rw [hzs]
    refine ⟨by rw [zsOf_len]; exact hbd.1, fun z hz => ?_⟩
    obtain ⟨y, hy, rfl⟩ := List.mem_map.1 hz
    have := hbd.2 y hy
    show y.toArray.size ≤ _
    simp
    omega)
  rw [← hzs] at HG HRG
  obtain ⟨cv, hcv⟩ : ∃ z, z = valsCode h name := ⟨_, rfl⟩
  rw [← hcv] at HG HRG
  obtain ⟨pv, hpv⟩ : ∃ z, z = prpV name := ⟨_, rfl⟩
  obtain ⟨pc, hpc⟩ : ∃ z, z = prpC name := ⟨_, rfl⟩
  rw [← hpv, ← hpc] at HP HRP
  have HP := Lib.hid HP.out
  have HRP := Lib.hid HRP.out
  have HG := Lib.hid HG.out
  have HRG := Lib.hid HRG.out
  have hqv : (pv == pv) = true := by simp
  have hqc : (pc == pc) = true := by simp
  have hqd : (cv == cv) = true := by simp
  clear htab hr hb hn hnm hbd hzs hcv hpv hpc
  go_enter Tryz.func3, Tryz.ntmps3
  go_wp2_with fail
  (with_reducible refine (HP.out _).mono ?_)
  rintro e wa ⟨rfl, hba⟩
  go_wp2_with fail
  (with_reducible refine (HRP.out _).mono ?_)
  rintro e w0 ⟨rfl, hbb⟩
  have HB0 := Lib.hid (hba.trans (hbb.mono hba.size))
  clear hba hbb
  go_wp2_with fail
  obtain ⟨w1, hw1⟩ : ∃ W, W = (w0.alloc (.cells #[.slice none 0 0] 29)).alloc (.cells #[.slice none 0 0] 29) := ⟨_, rfl⟩
  obtain ⟨K, hK⟩ : ∃ K, K = w0.heap.size := ⟨_, rfl⟩
  have hs0 := HB0.out.size
  have hb1 : Below w.heap.size w w1 := by rw [hw1]; exact (HB0.out.alloc hs0 _).alloc (by simp; omega) _
  have hb01 : Below w0.heap.size w0 w1 := by rw [hw1]; exact ((Below.refl _ w0).alloc (Nat.le_refl _) _).alloc (by simp) _
  have hs1 : w1.heap.size = K + 1 + 1 := by rw [hw1, hK]; simp
  have hk1 : w1.heap[K]? = some (.cells #[.slice none 0 0] 29 (0, 0)) := by
    rw [hw1, hK, Below.heap_alloc _ _ _ (by simp)]
    exact alloc_at _ _ _ rfl
  have hk2 : w1.heap[K + 1]? = some (.cells #[.slice none 0 0] 29 (0, 0)) := by
    have e : w0.heap.size + 1 = (w0.alloc (.cells #[.slice none 0 0] 29)).heap.size := by simp
    rw [hw1, hK, e]
    exact alloc_at _ _ _ rfl
  have htb : Tab K w1 := by
    rw [hK]
    exact ((HTB.out.on HB0.out).mono hs0).on hb01
  rw [← hw1, ← hK]
  have hKw : w.heap.size ≤ K := by rw [hK]; exact hs0
  clear hw1 hb01 hs0 hK HB0
  have HB1 := Lib.hid hb1
  have HS1 := Lib.hid hs1
  have HK1 := Lib.hid hk1
  have HK2 := Lib.hid hk2
  have HTK := Lib.hid htb
  clear hb1 hs1 hk1 hk2 htb
  (with_reducible refine (HG.out _ HB1.out).mono ?_)
  rintro e w2 ⟨A1, c1, rfl, hr1, ht1, hb2⟩
  have HB2 := Lib.hid (HB1.out.trans (hb2.mono HB1.out.size))
  have HR1 := Lib.hid hr1
  have HT1 := Lib.hid ht1
  have HB12 := Lib.hid hb2
  clear hr1 ht1 hb2
  go_wp2_with fail
  (with_reducible refine (HRG.out _ HB2.out).mono ?_)
  rintro e w3 ⟨A2, c2, rfl, hr2, ht2, hb3⟩
  have hsz : K + 1 < w3.heap.size := by have := HS1.out; have := HB12.out.size; have := hb3.size; omega
  have hb13 : Below w1.heap.size w1 w3 := HB12.out.trans (hb3.mono HB12.out.size)
  have HB3 := Lib.hid (show Below w.heap.size w w3 from HB2.out.trans (hb3.mono HB2.out.size))
  have hd3 : Duo w3 K w3.heap.size [] [] := Duo.start (HTK.out.on (hb13.mono (by have := HS1.out; omega))) ((hb13.block K (by have := HS1.out; omega)).trans HK1.out) ((hb13.block (K + 1) (by have := HS1.out; omega)).trans HK2.out) hsz (Nat.le_refl _)
  have HP3 := Lib.hid ((HR1.out.below hb3 (Nat.le_refl _)).more (Nat.le_refl _) hb3.size)
  have HPT3 := Lib.hid (HT1.out.on hb3)
  have HQ3 := Lib.hid hr2
  have HQT3 := Lib.hid ht2
  obtain ⟨base, hbase⟩ : ∃ z, z = w3.heap.size := ⟨_, rfl⟩
  rw [← hbase] at hd3 hsz
  have HD3 := Lib.hid hd3
  have HSZ := Lib.hid hsz
  clear hr2 ht2 hb3 hb13 hd3 hsz hbase HR1 HT1 HB12 HK1 HK2 HTB HTK HG HRG HS1
  go_wp2_with fail
  refine (inkTexts_genC K base [] A1 c1 zs w3 HD3.out.fst (by simp) HZ.out.2 (by have := HZ.out.1; omega) (fun w' hf => (rd_fst HD3.out HP3.out HPT3.out (by decide) (by decide) hf).1)).mono ?_
  rintro e w4 ⟨rfl, hi4, hf4⟩
  have HB4 := Lib.hid (show Below w.heap.size w w4 from hf4.belowN HB3.out (by have := HD3.out.lt; omega) hKw (by have := HSZ.out; omega))
  have HD4 := Lib.hid (HD3.out.one hi4 hf4)
  have HQ4 := Lib.hid (rd_fst HD3.out HQ3.out HQT3.out (by decide) (by decide) hf4)
  clear hi4 hf4
  go_wp2_with fail
  refine (inkTexts_genC (K + 1) base [] A2 c2 zs w4 HD4.out.snd (by simp) HZ.out.2 (by have := HZ.out.1; omega) (fun w' hf => (rd_snd HD4.out HQ4.out.1 HQ4.out.2 (by decide) (by decide) hf).1)).mono ?_
  rintro e w5 ⟨rfl, hi5, hf5⟩
  have HB5 := Lib.hid (show Below w.heap.size w w5 from hf5.belowN HB4.out (by have := HD4.out.lt; omega) (by omega) (by have := HSZ.out; omega))
  have HD5 := Lib.hid (HD4.out.two hi5 hf5)
  clear hi5 hf5
  have hlen5 : (([] : List UInt8) ++ inkTexts zs).length < 100000000000000 := by
    have h1 := inkTs_length zs HZ.out.2
    have h2 := HZ.out.1
    have h3 := inkInt_length (zs.length : Int) (by omega) (by omega)
    unfold inkTexts
    simp only [List.length_append, List.length_nil]
    omega
  have HTA := Lib.hid (told_any0 _ _ _ _ HD5.out.fst hlen5)
  have HTC := Lib.hid (told_any0 _ _ _ _ HD5.out.snd hlen5)
  obtain ⟨ts, hts⟩ : ∃ b : ByteArray, b = ⟨(([] : List UInt8) ++ inkTexts zs).toArray⟩ := ⟨_, rfl⟩
  rw [← hts] at HTA HTC
  have HTA := Lib.hid HTA.out
  have HTC := Lib.hid HTC.out
  clear hlen5 hts
  go_wp2_with fail
  (with_reducible refine (HTA.out).mono ?_)
  rintro e w6 ⟨rfl, rfl⟩
  go_wp2_with fail
  (with_reducible refine (HTC.out).mono ?_)
  rintro e w6 ⟨rfl, rfl⟩
  have HSM := Lib.hid (small_ok w5 (HD5.out.fst.2.2.1.mono (by have := HD5.out.lt; omega)))
  go_wp2_with fail
  (with_reducible refine (HSM.out).mono ?_)
  rintro e w7 ⟨rfl, hb7⟩
  have HB7 := Lib.hid (HB5.out.trans (hb7.mono HB5.out.size))
  clear hb7
  go_wp2
  go_ret
  exact ⟨by rfl, HB7.out⟩
end Go.Proofs.YthfloagpmmohkaaGreatDoor

/- The last step of every law: what was read before the call reads the same behind it, because nothing that was there has turned. -/
namespace Go.Proofs.YthfloagpmmohkaaGreatDoor
open Go Go.ChangeShapes Go.WideShapes Go.ChangeAt Go.RowKit

theorem own : ownKnob Tryz.prog.godebug = none := by kernel_rfl
theorem laidOut : laidOutB Tryz.prog = true := by kernel_rfl

theorem trodAll_below {H : Type} {enc : TypeId × Value → H} {P : Program} (hl : laidOutB P = true) {W W' : World} (hb : Below W.heap.size W W') :
    ∀ (ts : List TypeId) (vs : List Value) (ds : List (DataW H)) (ps : List MemPlace), (∀ t ∈ ts, P.readableRec t = true ∧ t < P.types.size) → (∀ x ∈ ps, x.block < W.heap.size) →
    DataW.TrodAll enc P W 0 (fun _ => true) true ts vs ds ps → DataW.TrodAll enc P W' 0 (fun b => decide (b < W.heap.size)) true ts vs ds ps := by
  intro ts
  induction ts with
  | nil =>
    intro vs ds ps _ _ h
    obtain ⟨rfl, rfl, rfl⟩ := trodAll_nil h
    exact trodAll_mk0
  | cons t ts ih =>
    intro vs ds ps ht hp h
    obtain ⟨v, vs', d, ds', p, q, rfl, rfl, rfl, h1, h2⟩ := trodAll_cons h
    have ht1 := ht t (by simp)
    exact trodAll_cons_mk (Below.trod hl ht1.1 ht1.2 h1 hb (fun x hx => hp x (by simp [hx]))) (ih vs' ds' q (fun t' h' => ht t' (by simp [h'])) (fun x hx => hp x (by simp [hx])) h2)

/-- a law's post, out of 'nothing that was there has turned' -/
theorem law_post {H : Type} {enc : TypeId × Value → H} {P : Program} (hl : laidOutB P = true) {f : Func} {s : ChangeSpec} {W W' : World} {args : Array Value} {ds gs : List (DataW H)} {before : List MemPlace} {tb : TypeId}
    (hW : DataW.Whole enc P f.params.toList s.vars false W args.toList ds gs before) (hv : s.vars = []) (hfn : s.fn H (ds ++ gs) = { results := [.lit (.bool true)], args := ds })
    (hts : ∀ t ∈ f.params.toList, P.readableRec t = true ∧ t < P.types.size) (hres : f.resultTypes = #[tb]) (htb : P.underlying tb = some .bool) (hb : Below W.heap.size W W') :
    s.post enc P f false true false false W args (.bool true) W' := by
  have hlt : ∀ p ∈ before, p.block < W.heap.size := fun p hp => hW.lt p hp
  obtain ⟨p, q, hA, hV, rfl, hfz, hnd⟩ := id hW
  have hV0 := hV
  rw [hv] at hV
  obtain ⟨rfl, rfl⟩ := trodVars_none hV
  refine ⟨ds, [], p ++ [], [], p, [], hW, ?_, ?_, ?_, hb.frame _, fun h => by cases h⟩
  · rw [hfn, hres]
    exact trodAll_mk1 (shut_bool htb true)
  · rw [hfn]
    exact trodAll_below hl hb _ _ _ _ hts (fun x hx => hlt x (by simp [hx])) hA
  · rw [hfn, hv]
    rfl
end Go.Proofs.YthfloagpmmohkaaGreatDoor
