/-
  A law of numbers over the contracts. No condition.
-/
import Derived.Test.YtppjhnepmolboaaNum
import Derived.Laws.FloatBits

section
open Go Go.Vc
namespace Go.Proofs
open Ieee

/-! ### Bounds -/

theorem word_rung {f : Format} {neg : Bool} {r : Nat} (h : r < f.signWeight) : frung f (f.word neg r) = r ∧ fneg f (f.word neg r) = neg := by
  have hp : 0 < f.signWeight := Nat.two_pow_pos _
  unfold frung fneg Format.word
  cases neg
  · simp only [Bool.false_eq_true, if_false]
    rw [Nat.mod_eq_of_lt h, Nat.div_eq_of_lt h]
    exact ⟨rfl, rfl⟩
  · simp only [if_true]
    rw [Nat.add_mod_left, Nat.mod_eq_of_lt h, Nat.add_div_left _ hp, Nat.div_eq_of_lt h]
    exact ⟨rfl, rfl⟩

theorem inf_sign (f : Format) : f.infRung < f.signWeight := by
  have h : 0 < 2 ^ f.exponentBits := Nat.two_pow_pos _
  have hb := binade_pos f
  unfold Format.infRung Format.signWeight Format.binade at *
  rw [Nat.pow_add, Nat.sub_mul, Nat.one_mul]
  have : 2 ^ f.fractionBits ≤ 2 ^ f.exponentBits * 2 ^ f.fractionBits := Nat.le_mul_of_pos_left _ h
  omega

theorem cut_le (way : Toward) (neg : Bool) (n drop B : Nat) (h : n ≤ B * 2 ^ drop) : way.cut neg n drop ≤ B + 1 := by
  unfold Toward.cut
  have hb : ∀ b : Bool, b.toNat ≤ 1 := by intro b; cases b <;> decide
  have key : n / (1 <<< min drop (n.log2 + 2)) ≤ B := by
    rw [Nat.one_shiftLeft]
    rcases Nat.le_total drop (n.log2 + 2) with hd | hd
    · rw [Nat.min_eq_left hd]
      exact Nat.div_le_of_le_mul (by rw [Nat.mul_comm]; exact h)
    · rw [Nat.min_eq_right hd]
      have : n < 2 ^ (n.log2 + 2) := Nat.lt_of_lt_of_le (Nat.lt_log2_self) (Nat.pow_le_pow_right (by decide) (by omega))
      rw [Nat.div_eq_of_lt this]; omega
  exact Nat.add_le_add key (hb _)

/-- How high the nearest word stands at most, of a number below 2 ^ (T + 1). -/
theorem nearest_le {f : Format} {neg : Bool} {mag : Nat} {place T : Int} (hT : place + mag.log2 ≤ T) (h0 : f.leastPlace ≤ T - f.fractionBits) :
    frung f (f.nearest neg mag place) ≤ (T - f.fractionBits - f.leastPlace).toNat * f.binade + 2 * f.binade + 1 ∧ frung f (f.nearest neg mag place) ≤ f.infRung ∧ fneg f (f.nearest neg mag place) = neg := by
  unfold Format.nearest
  dsimp only
  split
  · obtain ⟨e1, e2⟩ := word_rung (f := f) (neg := neg) (r := 0) (Nat.two_pow_pos _)
    rw [e1, e2]; exact ⟨by omega, by omega, rfl⟩
  · rename_i hm
    generalize hlast : max (place + mag.log2 - f.fractionBits) f.leastPlace = last
    have hk : Toward.even.cut neg (mag <<< (place - last).toNat) (last - place).toNat ≤ 2 * f.binade + 1 := by
      apply cut_le
      have hlt : mag < 2 ^ (mag.log2 + 1) := Nat.lt_log2_self
      rw [Nat.shiftLeft_eq]
      have : 2 * f.binade = 2 ^ (f.fractionBits + 1) := by unfold Format.binade; rw [Nat.pow_succ, Nat.mul_comm]
      rw [this, ← Nat.pow_add]
      calc mag * 2 ^ (place - last).toNat ≤ 2 ^ (mag.log2 + 1) * 2 ^ (place - last).toNat := Nat.mul_le_mul_right _ (Nat.le_of_lt hlt)
        _ = 2 ^ (mag.log2 + 1 + (place - last).toNat) := by rw [← Nat.pow_add]
        _ ≤ 2 ^ (f.fractionBits + 1 + (last - place).toNat) := Nat.pow_le_pow_right (by decide) (by omega)
    have hl : (last - f.leastPlace).toNat ≤ (T - f.fractionBits - f.leastPlace).toNat := by omega
    have hl' := Nat.mul_le_mul_right f.binade hl
    generalize Toward.even.cut neg (mag <<< (place - last).toNat) (last - place).toNat = kept at *
    obtain ⟨e1, e2⟩ := word_rung (f := f) (neg := neg) (r := min ((last - f.leastPlace).toNat * f.binade + kept) f.infRung) (Nat.lt_of_le_of_lt (Nat.min_le_right _ _) (inf_sign f))
    rw [e1, e2]
    exact ⟨Nat.le_trans (Nat.min_le_left _ _) (by omega), Nat.min_le_right _ _, rfl⟩

theorem fval_binade (f : Format) (q : Nat) (hq : 1 ≤ q) : fval f (q * f.binade) = f.binade * 2 ^ (q - 1) := by
  have hb := binade_pos f
  unfold fval
  rw [if_neg (by have := Nat.mul_le_mul_right f.binade hq; omega), Nat.mul_mod_left, Nat.mul_div_cancel _ hb, Nat.add_zero]

/-! ### Double -/
theorem d_least : Ieee.double.leastPlace = -1074 := by decide +kernel
theorem d_frac : Ieee.double.fractionBits = 52 := rfl

/-- A number that is not high is a number, and whole it is not great. -/
theorem low_num {w q : Nat} (h : frung Ieee.double w ≤ q * Ieee.double.binade) (hq : 1 ≤ q) (hq2 : q ≤ 2046) (U : Nat) (hU : 51 + q ≤ U + 1074) :
    ∃ (m : Nat) (i : Int), Ieee.double.read w = .number (fneg Ieee.double w) m i ∧ m * 2 ^ i.toNat ≤ 2 ^ U * 2 ^ (-i).toNat ∧ i + 1074 ≥ 0 ∧ m * 2 ^ (i + 1074).toNat = fval Ieee.double (frung Ieee.double w) := by
  have hlt : frung Ieee.double w < Ieee.double.infRung := by
    rw [d_inf]; rw [d_bin] at h
    omega
  obtain ⟨m, k, e, v⟩ := read_fin hlt
  have hv := (fval_le Ieee.double).2 h
  rw [fval_binade _ _ hq, ← v] at hv
  have e52 : Ieee.double.binade * 2 ^ (q - 1) = 2 ^ (51 + q) := by
    show 2 ^ 52 * 2 ^ (q - 1) = _
    rw [← Nat.pow_add]; congr 1; omega
  rw [e52] at hv
  refine ⟨m, _, e, ?_, ?_, ?_⟩
  · rw [d_least]
    have hv2 : m * 2 ^ k ≤ 2 ^ (U + 1074) := Nat.le_trans hv (Nat.pow_le_pow_right (by decide) (by omega))
    obtain ⟨c, hc⟩ : ∃ c : Nat, c = 1074 := ⟨_, rfl⟩
    rw [← hc] at hv2
    by_cases hk : 1074 ≤ k
    · have e1 : (-1074 + (k : Int)).toNat = k - 1074 := by omega
      have e2 : (-(-1074 + (k : Int))).toNat = 0 := by omega
      rw [e1, e2, Nat.pow_zero, Nat.mul_one]
      have : m * 2 ^ (k - 1074) * 2 ^ c ≤ 2 ^ U * 2 ^ c := by
        rw [Nat.mul_assoc, ← Nat.pow_add, ← Nat.pow_add, show k - 1074 + c = k by omega]; exact hv2
      exact Nat.le_of_mul_le_mul_right this (Nat.two_pow_pos _)
    · have e1 : (-1074 + (k : Int)).toNat = 0 := by omega
      have e2 : (-(-1074 + (k : Int))).toNat = 1074 - k := by omega
      rw [e1, e2, Nat.pow_zero, Nat.mul_one]
      have : m * 2 ^ k ≤ 2 ^ U * 2 ^ (1074 - k) * 2 ^ k := by
        rw [Nat.mul_assoc, ← Nat.pow_add, ← Nat.pow_add, show U + (1074 - k + k) = U + c by omega]; exact hv2
      exact Nat.le_of_mul_le_mul_right this (Nat.two_pow_pos _)
  · rw [d_least]; omega
  · rw [d_least, ← v, show (-1074 + (k : Int) + 1074).toNat = k by omega]
end Go.Proofs
end

section
open Go Go.Vc
namespace Go.Proofs
open Ieee

/-- The share, by words: what is not a number is told by 'none'. -/
def floorW (r : Nat) : Nat := FloatKind.f64.encode ((Ieee.double.read r).integral .down)

theorem enc_num (s : Bool) (g : Nat) (i : Int) : FloatKind.f64.encode (.number s g i) = Ieee.double.nearest s g i := rfl

/-- A low word, made whole, is a whole number that is not great. -/
theorem floor_low {r q : Nat} (h : frung Ieee.double r ≤ q * Ieee.double.binade) (hq : 1 ≤ q) (hq2 : q ≤ 1060) : ¬ FNan r ∧ ∃ n : Int, (Ieee.double.read (floorW r)).toInt .zero = some n ∧ In64 n := by
  obtain ⟨m, i, e, hm, _, _⟩ := low_num h hq (by omega) 37 (by omega)
  refine ⟨by unfold FNan; rw [e]; simp [Datum.isNaN], ?_⟩
  unfold floorW
  rw [e]
  simp only [Datum.integral, enc_num]
  have hg : Toward.down.cut (fneg Ieee.double r) (m <<< i.toNat) (-i).toNat ≤ 2 ^ 37 + 1 := cut_le _ _ _ _ _ (by rw [Nat.shiftLeft_eq]; exact hm)
  generalize Toward.down.cut (fneg Ieee.double r) (m <<< i.toNat) (-i).toNat = g at *
  have hlog : (0 : Int) + g.log2 ≤ 37 := by
    have : g < 2 ^ 38 := by omega
    rcases Nat.eq_zero_or_pos g with h0 | h0
    · subst h0; decide
    · have := (Nat.log2_lt (by omega)).2 this
      omega
  obtain ⟨l1, _, _⟩ := nearest_le (f := Ieee.double) (neg := fneg Ieee.double r) (mag := g) (place := 0) (T := 37) hlog (by rw [d_least, d_frac]; omega)
  rw [d_least, d_frac] at l1
  have hb := binade_pos Ieee.double
  have l2 : frung Ieee.double (Ieee.double.nearest (fneg Ieee.double r) g 0) ≤ 1062 * Ieee.double.binade := by
    have e1 : ((37 : Int) - ((52 : Nat) : Int) - -1074).toNat = 1059 := by decide
    rw [e1] at l1
    omega
  obtain ⟨m2, i2, e2, hm2, _, _⟩ := low_num l2 (by decide) (by decide) 40 (by decide)
  rw [e2]
  have hg2 : Toward.zero.cut (fneg Ieee.double (Ieee.double.nearest (fneg Ieee.double r) g 0)) (m2 <<< i2.toNat) (-i2).toNat ≤ 2 ^ 40 + 1 := cut_le _ _ _ _ _ (by rw [Nat.shiftLeft_eq]; exact hm2)
  refine ⟨_, rfl, ?_⟩
  generalize Toward.zero.cut (fneg Ieee.double (Ieee.double.nearest (fneg Ieee.double r) g 0)) (m2 <<< i2.toNat) (-i2).toNat = g2 at *
  unfold signed
  rw [Nat.shiftLeft_zero]
  split <;> (constructor <;> omega)

/-- The word of a whole number that is not great. -/
theorem int_low (n : Nat) (hn : n < 2 ^ 31) : frung Ieee.double (FloatKind.f64.nearest n) ≤ 1055 * Ieee.double.binade ∧ fneg Ieee.double (FloatKind.f64.nearest n) = false := by
  have hlog : (0 : Int) + n.log2 ≤ 30 := by
    rcases Nat.eq_zero_or_pos n with h0 | h0
    · subst h0; decide
    · have := (Nat.log2_lt (by omega)).2 hn
      omega
  have e0 : FloatKind.f64.nearest n = Ieee.double.nearest false n 0 := by
    show Ieee.double.nearest (decide ((n : Int) < 0)) (n : Int).natAbs 0 = _
    rw [decide_eq_false (by omega), Int.natAbs_natCast]
  rw [e0]
  obtain ⟨l1, _, l3⟩ := nearest_le (f := Ieee.double) (neg := false) (mag := n) (place := 0) (T := 30) hlog (by rw [d_least, d_frac]; omega)
  rw [d_least, d_frac] at l1
  have e1 : ((30 : Int) - ((52 : Nat) : Int) - -1074).toNat = 1052 := by decide
  rw [e1] at l1
  have hb := binade_pos Ieee.double
  exact ⟨by omega, l3⟩

/-- A product of low numbers is low. -/
theorem mul_low {p n : Nat} (hp : frung Ieee.double p ≤ 1023 * Ieee.double.binade) (hn : frung Ieee.double n ≤ 1055 * Ieee.double.binade) : ∃ r, Ieee.double.mul p n = some r ∧ frung Ieee.double r ≤ 1060 * Ieee.double.binade := by
  obtain ⟨m, i, e, hm, hi, _⟩ := low_num hp (by decide) (by decide) 0 (by decide)
  obtain ⟨m2, i2, e2, hm2, hi2, _⟩ := low_num hn (by decide) (by decide) 32 (by decide)
  refine ⟨_, by unfold Format.mul; rw [e, e2]; rfl, ?_⟩
  show frung Ieee.double (Ieee.double.nearest _ (m * m2) (i + i2)) ≤ _
  have hb := binade_pos Ieee.double
  by_cases hz : m * m2 = 0
  · unfold Format.nearest
    dsimp only
    rw [if_pos hz, (word_rung (Nat.two_pow_pos _)).1]
    omega
  have hlog : i + i2 + ((m * m2).log2 : Int) ≤ 33 := by
    have h1 : m * m2 * 2 ^ (i.toNat + i2.toNat) ≤ 2 ^ 32 * 2 ^ ((-i).toNat + (-i2).toNat) := by
      have := Nat.mul_le_mul hm hm2
      rw [Nat.pow_add, Nat.pow_add]
      calc m * m2 * (2 ^ i.toNat * 2 ^ i2.toNat) = m * 2 ^ i.toNat * (m2 * 2 ^ i2.toNat) := by ac_rfl
        _ ≤ _ := this
        _ = _ := by ac_rfl
    have h2 : 2 ^ (m * m2).log2 ≤ m * m2 := Nat.log2_self_le hz
    have h3 : 2 ^ ((m * m2).log2 + (i.toNat + i2.toNat)) ≤ 2 ^ (32 + ((-i).toNat + (-i2).toNat)) := by
      rw [Nat.pow_add 2 (m * m2).log2, Nat.pow_add 2 32]
      exact Nat.le_trans (Nat.mul_le_mul_right _ h2) h1
    have h4 := (Nat.pow_le_pow_iff_right (by decide)).1 h3
    omega
  obtain ⟨l1, _, _⟩ := nearest_le (f := Ieee.double) (neg := fneg Ieee.double p ^^ fneg Ieee.double n) (mag := m * m2) (place := i + i2) (T := 33) hlog (by rw [d_least, d_frac]; omega)
  rw [d_least, d_frac] at l1
  have e1 : ((33 : Int) - ((52 : Nat) : Int) - -1074).toNat = 1055 := by decide
  rw [e1] at l1
  omega
end Go.Proofs
end

section
open Go Go.Vc
namespace Go.Proofs
open Ieee

def oneF : Nat := 4607182418800017408
theorem one_low : oneF = 1023 * Ieee.double.binade := by rw [d_bin]; rfl

/-- Not more than one. -/
def pin (x : Nat) : Nat := if Ieee.double.order x oneF = some .gt then oneF else x

theorem pin_min {x : Nat} (hx : x < 18446744073709551616) (nx : nanW x = false) : fMin x oneF = pin x := by
  obtain ⟨h1, h2, h3⟩ := order_w hx (b := oneF) (by decide) nx (by decide)
  have hk : keyW oneF = oneF := rfl
  unfold FLt FEq FGt at *
  unfold fMin pin
  by_cases c1 : Ieee.double.order x oneF = some .lt
  · rw [if_pos c1, if_neg (by rw [c1]; simp)]
  · rw [if_neg c1]
    by_cases c2 : Ieee.double.order x oneF = some .gt
    · rw [if_pos c2, if_pos c2]
    · rw [if_neg c2, if_neg c2]
      have c3 : keyW x = oneF := by
        rw [h1] at c1; rw [h3] at c2; rw [hk] at c1 c2; omega
      have : x = oneF := by
        unfold keyW at c3; split at c3 <;> (unfold oneF at *; omega)
      subst this
      split <;> rfl

theorem pin_low {x : Nat} (hx : x < 18446744073709551616) (nx : nanW x = false) (h0 : ¬ FLt x 0) : frung Ieee.double (pin x) ≤ 1023 * Ieee.double.binade := by
  obtain ⟨_, _, h3⟩ := order_w hx (b := oneF) (by decide) nx (by decide)
  have h4 := (order_w hx (b := 0) (by decide) nx (by decide)).1
  rw [← one_low, frung_w]
  unfold pin
  split
  · decide
  · rename_i c
    have c1 : ¬ keyW oneF < keyW x := fun h => c (h3.2 h)
    have c2 : ¬ keyW x < keyW 0 := fun h => h0 (h4.2 h)
    rw [show keyW oneF = oneF from rfl] at c1
    rw [show keyW 0 = 0 from rfl] at c2
    unfold keyW at c1 c2
    unfold oneF at *
    split at c1 <;> split at c2 <;> omega

def Sharable (x : Nat) (n : Int) : Prop := nanW x = false ∧ ¬ FLt x 0 ∧ 0 ≤ n ∧ n ≤ 2147483647
/-- The share's word, whole. -/
def shareF (x : Nat) (n : Int) : Nat := floorW ((Ieee.double.mul (pin x) (FloatKind.f64.nearest n)).getD 0)
def shareN (x : Nat) (n : Int) : Int := ((Ieee.double.read (shareF x n)).toInt .zero).getD 0

theorem share_fits {x : Nat} {n : Int} (hx : x < 18446744073709551616) (h : Sharable x n) : ∃ r, Ieee.double.mul (pin x) (FloatKind.f64.nearest n) = some r ∧ ¬ FNan r ∧ floorW r = shareF x n ∧ (Ieee.double.read (floorW r)).toInt .zero = some (shareN x n) ∧ In64 (shareN x n) := by
  obtain ⟨nx, h0, n0, n1⟩ := h
  have hp := pin_low hx nx h0
  obtain ⟨k, rfl⟩ : ∃ k : Nat, n = k := ⟨n.toNat, by omega⟩
  obtain ⟨hi, _⟩ := int_low k (by omega)
  obtain ⟨r, e, hr⟩ := mul_low hp hi
  obtain ⟨hn, z, hz, hz64⟩ := floor_low hr (by decide) (by decide)
  have e1 : shareF x k = floorW r := by unfold shareF; rw [e]; rfl
  have e2 : shareN x k = z := by unfold shareN; rw [e1, hz]; rfl
  exact ⟨r, e, hn, e1.symm, by rw [e2]; exact hz, by rw [e2]; exact hz64⟩

theorem floor_ok {r : Nat} (h : ¬ FNan r) (H : Heap) : Does Try.prog 60 [.float .f64 r] H fun v H' => v = .float .f64 (floorW r) ∧ H = H' := by
  refine Fn_of_vc Try.mixed (vc_floor _ _ _) ?_
  refine ⟨h, ?_⟩
  rintro _ rfl
  exact ⟨rfl, rfl⟩

theorem share_ok {x : Nat} (hx : x < 18446744073709551616) (n : Int) (H : Heap) : Does Try.prog 24 [.float .f64 x, .int .i64 n] H fun v H' => H = H' ∧ ((Sharable x n ∧ v = .tuple #[.int .i64 (shareN x n), .bool true]) ∨ (¬ Sharable x n ∧ v = .tuple #[.int .i64 0, .bool false])) := by
  refine Fn_of_vc Try.mixed (vc_share _ _ _ _) ?_
  refine (isnan_ok hx H).mono ?_
  rintro _ _ ⟨rfl, rfl⟩
  refine ⟨_, rfl, fun hn => ⟨rfl, .inr ⟨fun h => ?_, rfl⟩⟩, fun hn => ⟨fun h1 => ⟨rfl, .inr ⟨fun h => h.2.1 h1, rfl⟩⟩, fun h1 => ⟨fun h2 => ⟨rfl, .inr ⟨fun h => by have := h.2.2.1; omega, rfl⟩⟩, fun h2 => ⟨fun h3 => ⟨rfl, .inr ⟨fun h => by have := h.2.2.2; omega, rfl⟩⟩, fun h3 => ?_⟩⟩⟩⟩
  · rw [h.1] at hn; cases hn
  · have hsh : Sharable x n := ⟨hn, h1, by omega, by omega⟩
    obtain ⟨r, e, hr, e1, e2, e3⟩ := share_fits hx hsh
    refine ⟨by rw [fnan_w, hn]; simp, by rw [fnan_w]; decide, ?_⟩
    rintro _ rfl _ rfl
    have em : fMin x 4607182418800017408 = pin x := pin_min hx hn
    rw [em]
    refine ⟨r, e, (floor_ok hr H).mono ?_⟩
    rintro _ _ ⟨rfl, rfl⟩
    exact ⟨_, rfl, _, e2, e3, rfl, .inl ⟨hsh, rfl⟩⟩

theorem rshare_ok {x : Nat} (hx : x < 18446744073709551616) (n : Int) (H : Heap) : Does Try.prog 25 [.float .f64 x, .int .i64 n] H fun v H' => H = H' ∧ ((Sharable x n ∧ v = .tuple #[.int .i64 (shareN x n), .bool true]) ∨ (¬ Sharable x n ∧ v = .tuple #[.int .i64 0, .bool false])) := by
  refine Fn_of_vc Try.mixed (vc_rshare _ _ _ _) ?_
  have hf := feq_self hx
  refine ⟨fun h2 => ⟨rfl, .inr ⟨fun h => by have := h.2.2.1; omega, rfl⟩⟩, fun h2 => ⟨fun h3 => ⟨rfl, .inr ⟨fun h => by have := h.2.2.2; omega, rfl⟩⟩, fun h3 => ⟨fun hn => ⟨rfl, .inr ⟨fun h => hn (hf.2 h.1), rfl⟩⟩, fun hn => ⟨fun h1 => ⟨rfl, .inr ⟨fun h => h.2.1 h1, rfl⟩⟩, fun h1 => ?_⟩⟩⟩⟩
  have hn' : nanW x = false := by cases hn' : nanW x <;> simp_all
  have hsh : Sharable x n := ⟨hn', h1, by omega, by omega⟩
  obtain ⟨r, e, hr, e1, e2, e3⟩ := share_fits hx hsh
  refine ⟨fun h4 => ?_, fun h4 => ?_⟩
  · rintro _ rfl
    have ep : pin x = 4607182418800017408 := by exact if_pos h4
    rw [ep] at e
    refine ⟨r, e, (floor_ok hr H).mono ?_⟩
    rintro _ _ ⟨rfl, rfl⟩
    exact ⟨_, rfl, _, e2, e3, rfl, .inl ⟨hsh, rfl⟩⟩
  · rintro _ rfl
    have ep : pin x = x := by exact if_neg h4
    rw [ep] at e
    refine ⟨r, e, (floor_ok hr H).mono ?_⟩
    rintro _ _ ⟨rfl, rfl⟩
    exact ⟨_, rfl, _, e2, e3, rfl, .inl ⟨hsh, rfl⟩⟩

theorem thousand (k : Nat) (hk : k < 1001) : ∃ r, Ieee.double.div (FloatKind.f64.nearest k) 4652007308841189376 = some r ∧ r < 18446744073709551616 := by
  obtain ⟨hi, _⟩ := int_low k (by omega)
  obtain ⟨m, i, e, _⟩ := low_num hi (by decide) (by decide) 32 (by decide)
  have e2 : Ieee.double.read 4652007308841189376 = .number false 8796093022208000 (-43) := by decide +kernel
  have : ∃ d, Datum.quotient (Ieee.double.fractionBits + 2) (Ieee.double.read (FloatKind.f64.nearest k)) (Ieee.double.read 4652007308841189376) = some d := by
    rw [e, e2]
    exact ⟨_, rfl⟩
  obtain ⟨d, hd⟩ := this
  have e3 : Ieee.double.div (FloatKind.f64.nearest k) 4652007308841189376 = some (Ieee.double.write d) := by unfold Format.div; rw [hd]; rfl
  exact ⟨_, e3, Ieee.double.div_lt e3⟩

theorem nshares_law (H : Heap) (n0 : Int) (_ : (Lit.int .i64 n0).wf = true) (x : Nat) (wx : (Lit.float .f64 x).wf = true) (n1 : Int) (_ : (Lit.int .i64 n1).wf = true) (near : Bool) :
    Does Try.prog 5 [.int .i64 n0, .float .f64 x, .int .i64 n1, .bool near] H fun v H' => v = .bool true ∧ Ext [] H H' := by
  have hx : x < 18446744073709551616 := by simpa [Lit.wf] using wx
  refine Fn_of_vc Try.mixed (vc_nshares _ _ _ _ _ _) ?_
  refine (time_ok n0 hx H).mono ?_
  rintro _ H2 ⟨p, rfl, hp, hx2⟩
  refine ⟨_, rfl, fun _ f H' => f < 18446744073709551616 ∧ Ext [] H H', ⟨fun _ => (pick_ok n0 1001 H2 (by decide) (by decide)).mono ?_, fun _ => ⟨hp, hx2⟩⟩, ?_⟩
  · rintro _ _ ⟨rfl, rfl⟩
    have p0 := Int.emod_nonneg n0 (show (1001 : Int) ≠ 0 by decide)
    have p1 := Int.emod_lt_of_pos n0 (show (0 : Int) < 1001 by decide)
    obtain ⟨k, hk⟩ : ∃ k : Nat, n0 % 1001 = k := ⟨(n0 % 1001).toNat, by omega⟩
    rw [hk]
    refine ⟨_, rfl, ?_⟩
    rintro _ rfl
    obtain ⟨r, e, hr⟩ := thousand k (by omega)
    refine ⟨r, e, (pick_ok n1 5000 H2 (by decide) (by decide)).mono ?_⟩
    rintro _ _ ⟨rfl, rfl⟩
    exact ⟨_, rfl, hr, hx2⟩
  · rintro n f H15 ⟨hf, hx15⟩
    refine (share_ok hf n H15).mono ?_
    rintro _ _ ⟨rfl, h1⟩
    rcases h1 with ⟨h1, rfl⟩ | ⟨h1, rfl⟩
    · refine ⟨_, _, rfl, (rshare_ok hf n H15).mono ?_⟩
      rintro _ _ ⟨rfl, ⟨_, rfl⟩ | ⟨h2, _⟩⟩
      · refine ⟨_, _, rfl, (known2_ok H15).mono ?_⟩
        rintro _ H25 ⟨rfl, hx25⟩
        exact ⟨_, rfl, fun _ => ⟨fun _ => ⟨yes Iff.rfl, hx15.trans hx25⟩, fun h => absurd rfl h⟩, fun h => by cases h⟩
      · exact absurd h1 h2
    · refine ⟨_, _, rfl, (rshare_ok hf n H15).mono ?_⟩
      rintro _ _ ⟨rfl, ⟨h2, _⟩ | ⟨_, rfl⟩⟩
      · exact absurd h2 h1
      · refine ⟨_, _, rfl, (known2_ok H15).mono ?_⟩
        rintro _ H25 ⟨rfl, hx25⟩
        exact ⟨_, rfl, fun _ => ⟨fun _ => ⟨yes Iff.rfl, hx15.trans hx25⟩, fun h => absurd rfl h⟩, fun h => by cases h⟩
end Go.Proofs
end

