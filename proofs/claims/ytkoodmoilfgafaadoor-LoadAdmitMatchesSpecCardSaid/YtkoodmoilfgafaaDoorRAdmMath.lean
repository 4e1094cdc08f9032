/- Admit over fractions: plain. -/
import Derived.Test.YtkoodmoilfgafaaDoorR7Math
import Derived.Test.YtkoodmoilfgafaaDoorGPlain
namespace Go.Proofs.YtkoodmoilfgafaaDoor

theorem fill_min {R r h a t : Int} (hr : 0 ≤ r) (hh : h ≤ R) : fillS R r (h, a) t = (min R (h + r * (max a t - a)), max a t) := by
  unfold fillS
  simp only
  congr 1
  by_cases h1 : 0 < r ∧ a < t
  · rw [if_pos h1]
    obtain ⟨h1, h2⟩ := h1
    have hm : max a t = t := by omega
    rw [hm]
    obtain ⟨e1, e2⟩ := ediv_lo (a := R - h) h1
    by_cases h3 : (R - h) / r < t - a
    · rw [if_pos h3]
      have : r * ((R - h) / r + 1) ≤ r * (t - a) := Int.mul_le_mul_of_nonneg_left (by omega) (by omega)
      rw [Int.mul_add] at this
      omega
    · rw [if_neg h3]
      have h4 : r * (t - a) ≤ r * ((R - h) / r) := Int.mul_le_mul_of_nonneg_left (by omega) (by omega)
      omega
  · rw [if_neg h1]
    have h0 : r * (max a t - a) = 0 := by
      by_cases h2 : 0 < r
      · rw [show max a t - a = 0 by omega, Int.mul_zero]
      · rw [show r = 0 by omega, Int.zero_mul]
    omega
/-- what is there, in parts, at a time -/
def nowS (R r : Int) (s : Int × Int) (t : Int) : Int := min R (s.1 + r * (t - s.2))
theorem now_le (R r : Int) (s : Int × Int) (t : Int) : nowS R r s t ≤ R := by unfold nowS; omega
theorem now_ge {R r : Int} {s : Int × Int} {t : Int} (hr : 0 ≤ r) (h0 : s.1 ≤ R) (ht : s.2 ≤ t) : s.1 ≤ nowS R r s t := by
  unfold nowS
  have : 0 ≤ r * (t - s.2) := Int.mul_nonneg hr (by omega)
  omega
/-- how long until there is a token -/
def moreS (R r : Int) (s : Int × Int) (t : Int) : Int := (1000000000 - nowS R r s t + r - 1) / r
theorem take_now {R r : Int} {s : Int × Int} {t : Int} (hr : 0 ≤ r) (hh : s.1 ≤ R) (h : 1000000000 ≤ nowS R r s (max t s.2)) : takeS R r s t = some (nowS R r s (max t s.2) - 1000000000, max t s.2) := by
  obtain ⟨x, a⟩ := s
  unfold takeS
  rw [fill_min hr hh]
  have e : nowS R r (x, a) (max t a) = min R (x + r * (max a t - a)) := by unfold nowS; simp only; rw [Int.max_comm]
  simp only at h ⊢
  rw [e] at h ⊢
  rw [if_neg (by omega), Int.max_comm]
theorem take_none {R : Int} {s : Int × Int} {t : Int} (hh : s.1 ≤ R) (h : nowS R 0 s (max t s.2) < 1000000000) : takeS R 0 s t = none := by
  obtain ⟨x, a⟩ := s
  unfold takeS
  rw [fill_min (Int.le_refl 0) hh]
  have e : nowS R 0 (x, a) (max t a) = min R (x + 0 * (max a t - a)) := by unfold nowS; simp only; rw [Int.max_comm]
  simp only at h ⊢
  rw [e] at h
  rw [if_pos (by omega)]
  exact if_pos trivial
theorem more_pos {R r : Int} {s : Int × Int} {t : Int} (hr : 0 < r) (h : nowS R r s t < 1000000000) : 0 ≤ moreS R r s t := Int.ediv_nonneg (by omega) (by omega)
theorem take_more {R r : Int} {s : Int × Int} {t : Int} (hr : 0 < r) (hh : s.1 ≤ R) (h : nowS R r s (max t s.2) < 1000000000) :
    takeS R r s t = some (nowS R r s (max t s.2 + moreS R r s (max t s.2)) - 1000000000, max t s.2 + moreS R r s (max t s.2)) := by
  obtain ⟨x, a⟩ := s
  have hm0 := more_pos hr h
  simp only at h hm0 ⊢
  have f := fill_min (R := R) (r := r) (h := x) (a := a) (t := t) (Int.le_of_lt hr) hh
  have e : nowS R r (x, a) (max t a) = min R (x + r * (max a t - a)) := by unfold nowS; simp only; rw [Int.max_comm]
  have em : moreS R r (x, a) (max t a) = (1000000000 - min R (x + r * (max a t - a)) + r - 1) / r := by unfold moreS; rw [e]
  have hT : max t a = max a t := Int.max_comm _ _
  rw [hT] at e em h hm0 ⊢
  obtain ⟨T, hTe⟩ : ∃ T, T = max a t := ⟨_, rfl⟩
  obtain ⟨y, hy⟩ : ∃ y, y = min R (x + r * (T - a)) := ⟨_, rfl⟩
  obtain ⟨m, hm⟩ : ∃ m, m = moreS R r (x, a) T := ⟨_, rfl⟩
  rw [← hTe] at f e em h hm0 ⊢
  rw [← hy] at f e em
  rw [← hm] at em hm0 ⊢
  rw [e] at h
  unfold takeS
  rw [f]
  simp only
  rw [if_pos (by omega), if_neg (by omega), ← em]
  have f2 := fill_min (R := R) (r := r) (h := y) (a := T) (t := T + m) (Int.le_of_lt hr) (by omega)
  rw [f2, show max T (T + m) = T + m by omega]
  have k : nowS R r (x, a) (T + m) = min R (y + r * (T + m - T)) := by
    unfold nowS
    simp only
    have h1 : 0 ≤ r * m := Int.mul_nonneg (by omega) hm0
    have h2 : r * (T + m - a) = r * (T - a) + r * m := by rw [← Int.mul_add]; congr 1; omega
    have h3 : r * (T + m - T) = r * m := by congr 1; omega
    rw [h2, h3]
    omega
  rw [k]
theorem more_le {R r : Int} {s : Int × Int} {t : Int} (hr : 0 < r) (h0 : 0 ≤ nowS R r s t) : moreS R r s t ≤ 1000000000 := by
  unfold moreS
  apply Int.ediv_le_of_le_mul hr
  have : 1000000000 * 1 ≤ 1000000000 * r := Int.mul_le_mul_of_nonneg_left (by omega) (by omega)
  have h3 : (1000000000 - 1) * 1 ≤ (1000000000 - 1) * r := Int.mul_le_mul_of_nonneg_left (by omega) (by omega)
  omega
/-- without a rate no one is late -/
theorem st_zero {R : Int} {ts : List Int} (hts : ∀ t ∈ ts, t ≤ 1000000000000) : ∀ k s, stS R 0 ts k = some s → s.2 ≤ 1000000000000
  | 0, s, e => by simp [stS] at e; subst e; simp
  | k + 1, s, e => by
    obtain ⟨⟨h0, a0⟩, hs⟩ := stS_some e (k := k) (by omega)
    have ht : ∃ t, ts[k]? = some t := by
      cases hx : ts[k]? with
      | some t => exact ⟨t, rfl⟩
      | none => rw [stS, hs, hx] at e; cases e
    obtain ⟨t, ht⟩ := ht
    rw [stS_succ hs ht] at e
    have ih := st_zero hts k _ hs
    have := hts t (List.mem_of_getElem? ht)
    unfold takeS at e
    have f6 : (fillS R 0 (h0, a0) t).2 = max a0 t := rfl
    split at e
    · rw [if_pos rfl] at e; cases e
    · simp only [Option.some.injEq] at e
      subst e
      simp only [f6] at ih ⊢
      omega
theorem st_pos {R r : Int} {ts : List Int} (hr : 0 < r) (hR : 1000000000 ≤ R) : ∀ k, k ≤ ts.length → ∃ s, stS R r ts k = some s
  | 0, _ => ⟨_, rfl⟩
  | k + 1, hk => by
    obtain ⟨s, hs⟩ := st_pos (ts := ts) hr hR k (by omega)
    obtain ⟨t, ht⟩ : ∃ t, ts[k]? = some t := ⟨ts[k]'(by omega), List.getElem?_eq_getElem (by omega)⟩
    rw [stS_succ hs ht]
    have b := st_bd (Int.le_of_lt hr) hR k s.1 s.2 hs
    by_cases h : 1000000000 ≤ nowS R r s (max t s.2)
    · exact ⟨_, take_now (Int.le_of_lt hr) b.2.1 h⟩
    · exact ⟨_, take_more hr b.2.1 (by omega)⟩
theorem admC_ok {ts : List Int} {rate burst : Int} (hc : codeT ts = 0) (ho : admOk rate burst) (s : Int × Int) (hs : stS (burst * 1000000000) rate ts ts.length = some s) (hl : ∀ t ∈ outsS (burst * 1000000000) rate ts ts.length, t ≤ 1000000000000) :
    admC ts rate burst = 0 ∧ admL ts rate burst = outsS (burst * 1000000000) rate ts ts.length := by
  have e : admC ts rate burst = 0 := by
    unfold admC
    rw [if_neg (by omega), if_neg (by simpa using ho), if_neg (by rw [hs]; simp), if_neg]
    simp only [List.any_eq_true, decide_eq_true_eq, not_exists, not_and]
    intro x hx; have := hl x hx; omega
  exact ⟨e, by unfold admL; rw [if_pos e]⟩
theorem admC_none {ts : List Int} {rate burst : Int} (hc : codeT ts = 0) (ho : admOk rate burst) {k : Nat} (hk : k ≤ ts.length) (hs : stS (burst * 1000000000) rate ts k = none) :
    admC ts rate burst = 4 ∧ admL ts rate burst = [] := by
  have e : admC ts rate burst = 4 := by
    unfold admC
    rw [if_neg (by omega), if_neg (by simpa using ho), if_pos (stS_none hs _ hk)]
  exact ⟨e, by unfold admL; rw [if_neg (by omega)]⟩
theorem admC_late {ts : List Int} {rate burst : Int} (hc : codeT ts = 0) (ho : admOk rate burst) (hr : 0 < rate) {k : Nat} (hk : k < ts.length) {s : Int × Int} (hs : stS (burst * 1000000000) rate ts (k + 1) = some s) (hl : 1000000000000 < s.2) :
    admC ts rate burst = 3 ∧ admL ts rate burst = [] := by
  obtain ⟨x, hx⟩ := st_pos (R := burst * 1000000000) (ts := ts) hr (by unfold admOk at ho; omega) ts.length (Nat.le_refl _)
  have e : admC ts rate burst = 3 := by
    unfold admC
    rw [if_neg (by omega), if_neg (by simpa using ho), if_neg (by rw [hx]; simp), if_pos]
    simp only [List.any_eq_true, decide_eq_true_eq]
    exact ⟨s.2, List.mem_of_getElem? (outsS_get hk hs), hl⟩
  exact ⟨e, by unfold admL; rw [if_neg (by omega)]⟩
/-- parts of a thousand million -/
def bil (x : Int) : Rat := mkRat x 1000000000
theorem bil_eq (x : Int) : bil x = (x : Rat) / 1000000000 := by unfold bil; rw [Rat.mkRat_eq_div]; rfl
theorem bil_plus (h r d : Int) : bil h + (r : Rat) * mkRat d 1000000000 = bil (h + r * d) := by
  rw [show mkRat d 1000000000 = bil d from rfl]
  simp only [bil_eq, Rat.intCast_add, Rat.intCast_mul]
  grind
theorem bil_whole (b : Int) : (b : Rat) = bil (b * 1000000000) := by
  simp only [bil_eq, Rat.intCast_mul]
  have : ((1000000000 : Int) : Rat) = 1000000000 := rfl
  grind
theorem bil_lt {x y : Int} : bil x < bil y ↔ x < y := by
  rw [← Rat.intCast_lt_intCast]
  simp only [bil_eq]
  constructor
  · intro h; grind
  · intro h; grind
theorem bil_inj {x y : Int} (h : bil x = bil y) : x = y := by
  apply Rat.intCast_inj.1
  simp only [bil_eq] at h
  grind
theorem bil_ord (x y : Int) : ordQ (bil x) (bil y) = if x < y then -1 else if x = y then 0 else 1 := by
  unfold ordQ
  by_cases h : x < y
  · rw [if_pos h, if_pos (bil_lt.2 h)]
  · rw [if_neg h, if_neg (fun h' => h (bil_lt.1 h'))]
    by_cases e : x = y
    · rw [if_pos e, if_pos (by rw [e])]
    · rw [if_neg e, if_neg (fun h' => e (bil_inj h'))]
theorem bil_less (x : Int) : bil x - ((1 : Int) : Rat) = bil (x - 1000000000) := by
  simp only [bil_eq, Rat.intCast_sub]
  have : ((1000000000 : Int) : Rat) = 1000000000 := rfl
  have : ((1 : Int) : Rat) = 1 := rfl
  grind
theorem bil_lack (x r : Int) (hr : 0 < r) : (((1 : Int) : Rat) - bil x) * mkRat 1000000000 r.toNat = mkRat (1000000000 - x) r.toNat := by
  have hR := natR_ne (show 0 < r.toNat by omega)
  simp only [bil_eq, Rat.mkRat_eq_div, Rat.intCast_sub]
  have : ((1000000000 : Int) : Rat) = 1000000000 := rfl
  have : ((1 : Int) : Rat) = 1 := rfl
  generalize ((r.toNat : Nat) : Rat) = f at *
  grind
theorem frac_one {d : Nat} (hd : 0 < d) : frS (mkRat 1 d) = false ∧ frN (mkRat 1 d) = 1 ∧ (mkRat 1 d).den = d := by
  have := low_pos (b := false) (n := 1) (d := d) (by omega) hd
  simpa [sg] using this
/-- rounded up -/
theorem round_up {z r : Int} (hz : 0 < z) (hr : 0 < r) : frN (mkRat z r.toNat + ((1 : Int) : Rat) - mkRat 1 (mkRat z r.toNat).den) / (mkRat z r.toNat + ((1 : Int) : Rat) - mkRat 1 (mkRat z r.toNat).den).den = ((z + r - 1) / r).toNat := by
  obtain ⟨q, hq⟩ : ∃ q, q = mkRat z r.toNat := ⟨_, rfl⟩
  have h := low_pos (b := false) (n := z.toNat) (d := r.toNat) (by omega) (by omega)
  have hzz : sg false z.toNat = z := by simp [sg]; omega
  rw [hzz, ← hq] at h
  obtain ⟨h1, h2, h3⟩ := h
  rw [← hq]
  have hg : 0 < Nat.gcd z.toNat r.toNat := Nat.gcd_pos_of_pos_left _ (by omega)
  obtain ⟨g, hge⟩ : ∃ g, g = Nat.gcd z.toNat r.toNat := ⟨_, rfl⟩
  have d1 : g ∣ z.toNat := by rw [hge]; exact Nat.gcd_dvd_left _ _
  have d2 : g ∣ r.toNat := by rw [hge]; exact Nat.gcd_dvd_right _ _
  rw [← hge] at h2 h3 hg
  obtain ⟨p, hp⟩ := d1
  obtain ⟨k, hk⟩ := d2
  rw [hp, Nat.mul_div_cancel_left _ hg] at h2
  rw [hk, Nat.mul_div_cancel_left _ hg] at h3
  have hk0 : 0 < k := Nat.pos_of_ne_zero (fun h => by rw [h] at hk; simp at hk; omega)
  have hp0 : 0 < p := Nat.pos_of_ne_zero (fun h => by rw [h] at hp; simp at hp; omega)
  have e : q + ((1 : Int) : Rat) - mkRat 1 q.den = ((p + k - 1 : Nat) : Rat) / ((k : Nat) : Rat) := by
    have eq : q = ((p : Nat) : Rat) / ((k : Nat) : Rat) := by
      have := Rat.mkRat_self q
      rw [h3, show q.num = (p : Int) from by unfold frS at h1; unfold frN at h2; have := of_decide_eq_false h1; omega, Rat.mkRat_eq_div] at this
      exact this.symm
    have hK := natR_ne hk0
    have hs : ((p + k - 1 : Nat) : Rat) + ((1 : Nat) : Rat) = (p : Rat) + (k : Rat) := by
      rw [← Rat.natCast_add, ← Rat.natCast_add]; congr 1; omega
    rw [h3, eq, Rat.mkRat_eq_div]
    generalize ((k : Nat) : Rat) = f at *
    have : ((1 : Int) : Rat) = 1 := rfl
    have : ((1 : Nat) : Rat) = 1 := rfl
    grind
  rw [e, frN_div _ _ hk0]
  have ez : z = (p : Int) * g := by have : (z.toNat : Int) = ((g * p : Nat) : Int) := by rw [hp]
                                    rw [Int.natCast_mul] at this; rw [Int.mul_comm]; omega
  have er : r = (k : Int) * g := by have : (r.toNat : Int) = ((g * k : Nat) : Int) := by rw [hk]
                                    rw [Int.natCast_mul] at this; rw [Int.mul_comm]; omega
  have key : (z + r - 1) / r = (((p + k - 1) / k : Nat) : Int) := by
    rw [Int.natCast_ediv]
    have hgi : (0 : Int) < g := by omega
    have hki : (0 : Int) < k := by omega
    have hb1 := Int.mul_ediv_add_emod ((p + k - 1 : Nat) : Int) (k : Int)
    have hb2 := Int.emod_nonneg ((p + k - 1 : Nat) : Int) (show (k : Int) ≠ 0 by omega)
    have hb3 := Int.emod_lt_of_pos ((p + k - 1 : Nat) : Int) hki
    generalize hc : ((p + k - 1 : Nat) : Int) / (k : Int) = c at *
    generalize ((p + k - 1 : Nat) : Int) % (k : Int) = m at *
    have hpk : ((p + k - 1 : Nat) : Int) = (p : Int) + k - 1 := by omega
    rw [hpk] at hb1
    have q1 : (p : Int) = k * c + m - k + 1 := by omega
    have q2 : z + r - 1 = r * c + ((m + 1) * g - 1) := by
      have g1 : (p : Int) * g = (k * c + m - k + 1) * g := by rw [← q1]
      have g2 : (k * c + m - k + 1) * (g : Int) = k * g * c + (m + 1) * g - k * g := by grind
      rw [ez, er, g1, g2]; omega
    have q3 : 0 ≤ (m + 1) * (g : Int) - 1 := by
      have : 1 * 1 ≤ (m + 1) * (g : Int) := Int.mul_le_mul (by omega) (by omega) (by omega) (by omega)
      omega
    have q4 : (m + 1) * (g : Int) - 1 < r := by
      have : (m + 1) * (g : Int) ≤ k * g := Int.mul_le_mul_of_nonneg_right (by omega) (by omega)
      omega
    rw [q2, Int.add_comm, Int.add_mul_ediv_left _ _ (by omega), Int.ediv_eq_zero_of_lt q3 q4, Int.zero_add]
  rw [key, Int.toNat_natCast]
end Go.Proofs.YtkoodmoilfgafaaDoor
