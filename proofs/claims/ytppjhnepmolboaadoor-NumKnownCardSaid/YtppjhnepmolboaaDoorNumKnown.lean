/-
  The law NumKnown, with the listed variables tied to the program's text, is true and changes nothing that was there, whatever the input. No condition.
-/
import Derived.Test.YtppjhnepmolboaaDoorNum
import Derived.Laws.FloatBits
import Derived.Test.YtppjhnepmolboaaDoorProg
import Derived.Test.YtppjhnepmolboaaDoorVd
import Derived.Test.YtppjhnepmolboaaDoorLaid

section
open Go Go.Vc
namespace Go.Proofs
open Ieee

/-! ### Bounds -/

theorem word_rung {f : Format} {neg : Bool} {r : Nat} (h : r < f.signWeight) : frung f (f.word neg r) = r ∧ fneg f (f.word neg r) = neg := by
  have hp : 0 < f.signWeight := Nat.two_pow_pos _
  unfold frung fneg Format.word
  cases neg
  · simp only [Bool.false_eq_true, if_false]
    rw [Nat.mod_eq_of_lt h, Nat.div_eq_of_lt h]
    exact ⟨rfl, rfl⟩
  · simp only [if_true]
    rw [Nat.add_mod_left, Nat.mod_eq_of_lt h, Nat.add_div_left _ hp, Nat.div_eq_of_lt h]
    exact ⟨rfl, rfl⟩

theorem inf_sign (f : Format) : f.infRung < f.signWeight := by
  have h : 0 < 2 ^ f.exponentBits := Nat.two_pow_pos _
  have hb := binade_pos f
  unfold Format.infRung Format.signWeight Format.binade at *
  rw [Nat.pow_add, Nat.sub_mul, Nat.one_mul]
  have : 2 ^ f.fractionBits ≤ 2 ^ f.exponentBits * 2 ^ f.fractionBits := Nat.le_mul_of_pos_left _ h
  omega

theorem cut_le (way : Toward) (neg : Bool) (n drop B : Nat) (h : n ≤ B * 2 ^ drop) : way.cut neg n drop ≤ B + 1 := by
  unfold Toward.cut
  have hb : ∀ b : Bool, b.toNat ≤ 1 := by intro b; cases b <;> decide
  have key : n / (1 <<< min drop (n.log2 + 2)) ≤ B := by
    rw [Nat.one_shiftLeft]
    rcases Nat.le_total drop (n.log2 + 2) with hd | hd
    · rw [Nat.min_eq_left hd]
      exact Nat.div_le_of_le_mul (by rw [Nat.mul_comm]; exact h)
    · rw [Nat.min_eq_right hd]
      have : n < 2 ^ (n.log2 + 2) := Nat.lt_of_lt_of_le (Nat.lt_log2_self) (Nat.pow_le_pow_right (by decide) (by omega))
      rw [Nat.div_eq_of_lt this]; omega
  exact Nat.add_le_add key (hb _)

/-- How high the nearest word stands at most, of a number below 2 ^ (T + 1). -/
theorem nearest_le {f : Format} {neg : Bool} {mag : Nat} {place T : Int} (hT : place + mag.log2 ≤ T) (h0 : f.leastPlace ≤ T - f.fractionBits) :
    frung f (f.nearest neg mag place) ≤ (T - f.fractionBits - f.leastPlace).toNat * f.binade + 2 * f.binade + 1 ∧ frung f (f.nearest neg mag place) ≤ f.infRung ∧ fneg f (f.nearest neg mag place) = neg := by
  unfold Format.nearest
  dsimp only
  split
  · obtain ⟨e1, e2⟩ := word_rung (f := f) (neg := neg) (r := 0) (Nat.two_pow_pos _)
    rw [e1, e2]; exact ⟨by omega, by omega, rfl⟩
  · rename_i hm
    generalize hlast : max (place + mag.log2 - f.fractionBits) f.leastPlace = last
    have hk : Toward.even.cut neg (mag <<< (place - last).toNat) (last - place).toNat ≤ 2 * f.binade + 1 := by
      apply cut_le
      have hlt : mag < 2 ^ (mag.log2 + 1) := Nat.lt_log2_self
      rw [Nat.shiftLeft_eq]
      have : 2 * f.binade = 2 ^ (f.fractionBits + 1) := by unfold Format.binade; rw [Nat.pow_succ, Nat.mul_comm]
      rw [this, ← Nat.pow_add]
      calc mag * 2 ^ (place - last).toNat ≤ 2 ^ (mag.log2 + 1) * 2 ^ (place - last).toNat := Nat.mul_le_mul_right _ (Nat.le_of_lt hlt)
        _ = 2 ^ (mag.log2 + 1 + (place - last).toNat) := by rw [← Nat.pow_add]
        _ ≤ 2 ^ (f.fractionBits + 1 + (last - place).toNat) := Nat.pow_le_pow_right (by decide) (by omega)
    have hl : (last - f.leastPlace).toNat ≤ (T - f.fractionBits - f.leastPlace).toNat := by omega
    have hl' := Nat.mul_le_mul_right f.binade hl
    generalize Toward.even.cut neg (mag <<< (place - last).toNat) (last - place).toNat = kept at *
    obtain ⟨e1, e2⟩ := word_rung (f := f) (neg := neg) (r := min ((last - f.leastPlace).toNat * f.binade + kept) f.infRung) (Nat.lt_of_le_of_lt (Nat.min_le_right _ _) (inf_sign f))
    rw [e1, e2]
    exact ⟨Nat.le_trans (Nat.min_le_left _ _) (by omega), Nat.min_le_right _ _, rfl⟩

theorem fval_binade (f : Format) (q : Nat) (hq : 1 ≤ q) : fval f (q * f.binade) = f.binade * 2 ^ (q - 1) := by
  have hb := binade_pos f
  unfold fval
  rw [if_neg (by have := Nat.mul_le_mul_right f.binade hq; omega), Nat.mul_mod_left, Nat.mul_div_cancel _ hb, Nat.add_zero]

/-! ### Double -/
theorem d_least : Ieee.double.leastPlace = -1074 := by decide +kernel
theorem d_frac : Ieee.double.fractionBits = 52 := rfl

/-- A number that is not high is a number, and whole it is not great. -/
theorem low_num {w q : Nat} (h : frung Ieee.double w ≤ q * Ieee.double.binade) (hq : 1 ≤ q) (hq2 : q ≤ 2046) (U : Nat) (hU : 51 + q ≤ U + 1074) :
    ∃ (m : Nat) (i : Int), Ieee.double.read w = .number (fneg Ieee.double w) m i ∧ m * 2 ^ i.toNat ≤ 2 ^ U * 2 ^ (-i).toNat ∧ i + 1074 ≥ 0 ∧ m * 2 ^ (i + 1074).toNat = fval Ieee.double (frung Ieee.double w) := by
  have hlt : frung Ieee.double w < Ieee.double.infRung := by
    rw [d_inf]; rw [d_bin] at h
    omega
  obtain ⟨m, k, e, v⟩ := read_fin hlt
  have hv := (fval_le Ieee.double).2 h
  rw [fval_binade _ _ hq, ← v] at hv
  have e52 : Ieee.double.binade * 2 ^ (q - 1) = 2 ^ (51 + q) := by
    show 2 ^ 52 * 2 ^ (q - 1) = _
    rw [← Nat.pow_add]; congr 1; omega
  rw [e52] at hv
  refine ⟨m, _, e, ?_, ?_, ?_⟩
  · rw [d_least]
    have hv2 : m * 2 ^ k ≤ 2 ^ (U + 1074) := Nat.le_trans hv (Nat.pow_le_pow_right (by decide) (by omega))
    obtain ⟨c, hc⟩ : ∃ c : Nat, c = 1074 := ⟨_, rfl⟩
    rw [← hc] at hv2
    by_cases hk : 1074 ≤ k
    · have e1 : (-1074 + (k : Int)).toNat = k - 1074 := by omega
      have e2 : (-(-1074 + (k : Int))).toNat = 0 := by omega
      rw [e1, e2, Nat.pow_zero, Nat.mul_one]
      have : m * 2 ^ (k - 1074) * 2 ^ c ≤ 2 ^ U * 2 ^ c := by
        rw [Nat.mul_assoc, ← Nat.pow_add, ← Nat.pow_add, show k - 1074 + c = k by omega]; exact hv2
      exact Nat.le_of_mul_le_mul_right this (Nat.two_pow_pos _)
    · have e1 : (-1074 + (k : Int)).toNat = 0 := by omega
      have e2 : (-(-1074 + (k : Int))).toNat = 1074 - k := by omega
      rw [e1, e2, Nat.pow_zero, Nat.mul_one]
      have : m * 2 ^ k ≤ 2 ^ U * 2 ^ (1074 - k) * 2 ^ k := by
        rw [Nat.mul_assoc, ← Nat.pow_add, ← Nat.pow_add, show U + (1074 - k + k) = U + c by omega]; exact hv2
      exact Nat.le_of_mul_le_mul_right this (Nat.two_pow_pos _)
  · rw [d_least]; omega
  · rw [d_least, ← v, show (-1074 + (k : Int) + 1074).toNat = k by omega]
end Go.Proofs
end

section
open Go Go.Vc
namespace Go.Proofs
open Ieee

/-- The share, by words: what is not a number is told by 'none'. -/
def floorW (r : Nat) : Nat := FloatKind.f64.encode ((Ieee.double.read r).integral .down)

theorem enc_num (s : Bool) (g : Nat) (i : Int) : FloatKind.f64.encode (.number s g i) = Ieee.double.nearest s g i := rfl

/-- A low word, made whole, is a whole number that is not great. -/
theorem floor_low {r q : Nat} (h : frung Ieee.double r ≤ q * Ieee.double.binade) (hq : 1 ≤ q) (hq2 : q ≤ 1060) : ¬ FNan r ∧ ∃ n : Int, (Ieee.double.read (floorW r)).toInt .zero = some n ∧ In64 n := by
  obtain ⟨m, i, e, hm, _, _⟩ := low_num h hq (by omega) 37 (by omega)
  refine ⟨by unfold FNan; rw [e]; simp [Datum.isNaN], ?_⟩
  unfold floorW
  rw [e]
  simp only [Datum.integral, enc_num]
  have hg : Toward.down.cut (fneg Ieee.double r) (m <<< i.toNat) (-i).toNat ≤ 2 ^ 37 + 1 := cut_le _ _ _ _ _ (by rw [Nat.shiftLeft_eq]; exact hm)
  generalize Toward.down.cut (fneg Ieee.double r) (m <<< i.toNat) (-i).toNat = g at *
  have hlog : (0 : Int) + g.log2 ≤ 37 := by
    have : g < 2 ^ 38 := by omega
    rcases Nat.eq_zero_or_pos g with h0 | h0
    · subst h0; decide
    · have := (Nat.log2_lt (by omega)).2 this
      omega
  obtain ⟨l1, _, _⟩ := nearest_le (f := Ieee.double) (neg := fneg Ieee.double r) (mag := g) (place := 0) (T := 37) hlog (by rw [d_least, d_frac]; omega)
  rw [d_least, d_frac] at l1
  have hb := binade_pos Ieee.double
  have l2 : frung Ieee.double (Ieee.double.nearest (fneg Ieee.double r) g 0) ≤ 1062 * Ieee.double.binade := by
    have e1 : ((37 : Int) - ((52 : Nat) : Int) - -1074).toNat = 1059 := by decide
    rw [e1] at l1
    omega
  obtain ⟨m2, i2, e2, hm2, _, _⟩ := low_num l2 (by decide) (by decide) 40 (by decide)
  rw [e2]
  have hg2 : Toward.zero.cut (fneg Ieee.double (Ieee.double.nearest (fneg Ieee.double r) g 0)) (m2 <<< i2.toNat) (-i2).toNat ≤ 2 ^ 40 + 1 := cut_le _ _ _ _ _ (by rw [Nat.shiftLeft_eq]; exact hm2)
  refine ⟨_, rfl, ?_⟩
  generalize Toward.zero.cut (fneg Ieee.double (Ieee.double.nearest (fneg Ieee.double r) g 0)) (m2 <<< i2.toNat) (-i2).toNat = g2 at *
  unfold signed
  rw [Nat.shiftLeft_zero]
  split <;> (constructor <;> omega)

/-- The word of a whole number that is not great. -/
theorem int_low (n : Nat) (hn : n < 2 ^ 31) : frung Ieee.double (FloatKind.f64.nearest n) ≤ 1055 * Ieee.double.binade ∧ fneg Ieee.double (FloatKind.f64.nearest n) = false := by
  have hlog : (0 : Int) + n.log2 ≤ 30 := by
    rcases Nat.eq_zero_or_pos n with h0 | h0
    · subst h0; decide
    · have := (Nat.log2_lt (by omega)).2 hn
      omega
  have e0 : FloatKind.f64.nearest n = Ieee.double.nearest false n 0 := by
    show Ieee.double.nearest (decide ((n : Int) < 0)) (n : Int).natAbs 0 = _
    rw [decide_eq_false (by omega), Int.natAbs_natCast]
  rw [e0]
  obtain ⟨l1, _, l3⟩ := nearest_le (f := Ieee.double) (neg := false) (mag := n) (place := 0) (T := 30) hlog (by rw [d_least, d_frac]; omega)
  rw [d_least, d_frac] at l1
  have e1 : ((30 : Int) - ((52 : Nat) : Int) - -1074).toNat = 1052 := by decide
  rw [e1] at l1
  have hb := binade_pos Ieee.double
  exact ⟨by omega, l3⟩

/-- A product of low numbers is low. -/
theorem mul_low {p n : Nat} (hp : frung Ieee.double p ≤ 1023 * Ieee.double.binade) (hn : frung Ieee.double n ≤ 1055 * Ieee.double.binade) : ∃ r, Ieee.double.mul p n = some r ∧ frung Ieee.double r ≤ 1060 * Ieee.double.binade := by
  obtain ⟨m, i, e, hm, hi, _⟩ := low_num hp (by decide) (by decide) 0 (by decide)
  obtain ⟨m2, i2, e2, hm2, hi2, _⟩ := low_num hn (by decide) (by decide) 32 (by decide)
  refine ⟨_, by unfold Format.mul; rw [e, e2]; rfl, ?_⟩
  show frung Ieee.double (Ieee.double.nearest _ (m * m2) (i + i2)) ≤ _
  have hb := binade_pos Ieee.double
  by_cases hz : m * m2 = 0
  · unfold Format.nearest
    dsimp only
    rw [if_pos hz, (word_rung (Nat.two_pow_pos _)).1]
    omega
  have hlog : i + i2 + ((m * m2).log2 : Int) ≤ 33 := by
    have h1 : m * m2 * 2 ^ (i.toNat + i2.toNat) ≤ 2 ^ 32 * 2 ^ ((-i).toNat + (-i2).toNat) := by
      have := Nat.mul_le_mul hm hm2
      rw [Nat.pow_add, Nat.pow_add]
      calc m * m2 * (2 ^ i.toNat * 2 ^ i2.toNat) = m * 2 ^ i.toNat * (m2 * 2 ^ i2.toNat) := by ac_rfl
        _ ≤ _ := this
        _ = _ := by ac_rfl
    have h2 : 2 ^ (m * m2).log2 ≤ m * m2 := Nat.log2_self_le hz
    have h3 : 2 ^ ((m * m2).log2 + (i.toNat + i2.toNat)) ≤ 2 ^ (32 + ((-i).toNat + (-i2).toNat)) := by
      rw [Nat.pow_add 2 (m * m2).log2, Nat.pow_add 2 32]
      exact Nat.le_trans (Nat.mul_le_mul_right _ h2) h1
    have h4 := (Nat.pow_le_pow_iff_right (by decide)).1 h3
    omega
  obtain ⟨l1, _, _⟩ := nearest_le (f := Ieee.double) (neg := fneg Ieee.double p ^^ fneg Ieee.double n) (mag := m * m2) (place := i + i2) (T := 33) hlog (by rw [d_least, d_frac]; omega)
  rw [d_least, d_frac] at l1
  have e1 : ((33 : Int) - ((52 : Nat) : Int) - -1074).toNat = 1055 := by decide
  rw [e1] at l1
  omega
end Go.Proofs
end

section
open Go Go.Vc
namespace Go.Proofs
open Ieee

def oneF : Nat := 4607182418800017408
theorem one_low : oneF = 1023 * Ieee.double.binade := by rw [d_bin]; rfl

/-- Not more than one. -/
def pin (x : Nat) : Nat := if Ieee.double.order x oneF = some .gt then oneF else x

theorem pin_min {x : Nat} (hx : x < 18446744073709551616) (nx : nanW x = false) : fMin x oneF = pin x := by
  obtain ⟨h1, h2, h3⟩ := order_w hx (b := oneF) (by decide) nx (by decide)
  have hk : keyW oneF = oneF := rfl
  unfold FLt FEq FGt at *
  unfold fMin pin
  by_cases c1 : Ieee.double.order x oneF = some .lt
  · rw [if_pos c1, if_neg (by rw [c1]; simp)]
  · rw [if_neg c1]
    by_cases c2 : Ieee.double.order x oneF = some .gt
    · rw [if_pos c2, if_pos c2]
    · rw [if_neg c2, if_neg c2]
      have c3 : keyW x = oneF := by
        rw [h1] at c1; rw [h3] at c2; rw [hk] at c1 c2; omega
      have : x = oneF := by
        unfold keyW at c3; split at c3 <;> (unfold oneF at *; omega)
      subst this
      split <;> rfl

theorem pin_low {x : Nat} (hx : x < 18446744073709551616) (nx : nanW x = false) (h0 : ¬ FLt x 0) : frung Ieee.double (pin x) ≤ 1023 * Ieee.double.binade := by
  obtain ⟨_, _, h3⟩ := order_w hx (b := oneF) (by decide) nx (by decide)
  have h4 := (order_w hx (b := 0) (by decide) nx (by decide)).1
  rw [← one_low, frung_w]
  unfold pin
  split
  · decide
  · rename_i c
    have c1 : ¬ keyW oneF < keyW x := fun h => c (h3.2 h)
    have c2 : ¬ keyW x < keyW 0 := fun h => h0 (h4.2 h)
    rw [show keyW oneF = oneF from rfl] at c1
    rw [show keyW 0 = 0 from rfl] at c2
    unfold keyW at c1 c2
    unfold oneF at *
    split at c1 <;> split at c2 <;> omega

def Sharable (x : Nat) (n : Int) : Prop := nanW x = false ∧ ¬ FLt x 0 ∧ 0 ≤ n ∧ n ≤ 2147483647
/-- The share's word, whole. -/
def shareF (x : Nat) (n : Int) : Nat := floorW ((Ieee.double.mul (pin x) (FloatKind.f64.nearest n)).getD 0)
def shareN (x : Nat) (n : Int) : Int := ((Ieee.double.read (shareF x n)).toInt .zero).getD 0

theorem share_fits {x : Nat} {n : Int} (hx : x < 18446744073709551616) (h : Sharable x n) : ∃ r, Ieee.double.mul (pin x) (FloatKind.f64.nearest n) = some r ∧ ¬ FNan r ∧ floorW r = shareF x n ∧ (Ieee.double.read (floorW r)).toInt .zero = some (shareN x n) ∧ In64 (shareN x n) := by
  obtain ⟨nx, h0, n0, n1⟩ := h
  have hp := pin_low hx nx h0
  obtain ⟨k, rfl⟩ : ∃ k : Nat, n = k := ⟨n.toNat, by omega⟩
  obtain ⟨hi, _⟩ := int_low k (by omega)
  obtain ⟨r, e, hr⟩ := mul_low hp hi
  obtain ⟨hn, z, hz, hz64⟩ := floor_low hr (by decide) (by decide)
  have e1 : shareF x k = floorW r := by unfold shareF; rw [e]; rfl
  have e2 : shareN x k = z := by unfold shareN; rw [e1, hz]; rfl
  exact ⟨r, e, hn, e1.symm, by rw [e2]; exact hz, by rw [e2]; exact hz64⟩

theorem floor_ok {r : Nat} (h : ¬ FNan r) (H : Heap) : Does Tryd.prog 31 [.float .f64 r] H fun v H' => v = .float .f64 (floorW r) ∧ H = H' := by
  refine Fn_of_vc Tryd.mixed (vc_floor _ _ _) ?_
  refine ⟨h, ?_⟩
  rintro _ rfl
  exact ⟨rfl, rfl⟩

theorem share_ok {x : Nat} (hx : x < 18446744073709551616) (n : Int) (H : Heap) : Does Tryd.prog 17 [.float .f64 x, .int .i64 n] H fun v H' => H = H' ∧ ((Sharable x n ∧ v = .tuple #[.int .i64 (shareN x n), .bool true]) ∨ (¬ Sharable x n ∧ v = .tuple #[.int .i64 0, .bool false])) := by
  refine Fn_of_vc Tryd.mixed (vc_share _ _ _ _) ?_
  refine (isnan_ok hx H).mono ?_
  rintro _ _ ⟨rfl, rfl⟩
  refine ⟨_, rfl, fun hn => ⟨rfl, .inr ⟨fun h => ?_, rfl⟩⟩, fun hn => ⟨fun h1 => ⟨rfl, .inr ⟨fun h => h.2.1 h1, rfl⟩⟩, fun h1 => ⟨fun h2 => ⟨rfl, .inr ⟨fun h => by have := h.2.2.1; omega, rfl⟩⟩, fun h2 => ⟨fun h3 => ⟨rfl, .inr ⟨fun h => by have := h.2.2.2; omega, rfl⟩⟩, fun h3 => ?_⟩⟩⟩⟩
  · rw [h.1] at hn; cases hn
  · have hsh : Sharable x n := ⟨hn, h1, by omega, by omega⟩
    obtain ⟨r, e, hr, e1, e2, e3⟩ := share_fits hx hsh
    refine ⟨by rw [fnan_w, hn]; simp, by rw [fnan_w]; decide, ?_⟩
    rintro _ rfl _ rfl
    have em : fMin x 4607182418800017408 = pin x := pin_min hx hn
    rw [em]
    refine ⟨r, e, (floor_ok hr H).mono ?_⟩
    rintro _ _ ⟨rfl, rfl⟩
    exact ⟨_, rfl, _, e2, e3, rfl, .inl ⟨hsh, rfl⟩⟩

theorem thousand (k : Nat) (hk : k < 1001) : ∃ r, Ieee.double.div (FloatKind.f64.nearest k) 4652007308841189376 = some r ∧ r < 18446744073709551616 := by
  obtain ⟨hi, _⟩ := int_low k (by omega)
  obtain ⟨m, i, e, _⟩ := low_num hi (by decide) (by decide) 32 (by decide)
  have e2 : Ieee.double.read 4652007308841189376 = .number false 8796093022208000 (-43) := by decide +kernel
  have : ∃ d, Datum.quotient (Ieee.double.fractionBits + 2) (Ieee.double.read (FloatKind.f64.nearest k)) (Ieee.double.read 4652007308841189376) = some d := by
    rw [e, e2]
    exact ⟨_, rfl⟩
  obtain ⟨d, hd⟩ := this
  have e3 : Ieee.double.div (FloatKind.f64.nearest k) 4652007308841189376 = some (Ieee.double.write d) := by unfold Format.div; rw [hd]; rfl
  exact ⟨_, e3, Ieee.double.div_lt e3⟩
end Go.Proofs
end

section
open Go Go.Vc
namespace Go.Proofs
set_option maxRecDepth 100000
/-- pentimento/pentimentolaw2.NumKnown -/
theorem KnownV (H : Heap) (R : Value → Heap → Prop) : Walk Tryd.prog 5 [] [] H R = (
  Does Tryd.prog 17 [(.float .f64 4602678819172646912), (.int .i64 7)] H fun v1 H2 => ∃ n3 : Int, ∃ t4 : Bool, v1 = (.tuple #[(.int .i64 n3), (.bool t4)]) ∧ (
    Does Tryd.prog 18 [(.int .i64 1)] H2 fun v5 H6 => ∃ f7 : Nat, v5 = (.float .f64 f7) ∧ (
      Does Tryd.prog 17 [(.float .f64 f7), (.int .i64 9)] H6 fun v8 H9 => ∃ n10 : Int, ∃ t11 : Bool, v8 = (.tuple #[(.int .i64 n10), (.bool t11)]) ∧ (
        Does Tryd.prog 19 [(.float .f64 0), (.float .f64 13830554455654793216)] H9 fun v12 H13 => ∃ f14 : Nat, v12 = (.float .f64 f14) ∧ (
          Does Tryd.prog 17 [(.float .f64 f14), (.int .i64 9)] H13 fun v15 H16 => ∃ n17 : Int, ∃ t18 : Bool, v15 = (.tuple #[(.int .i64 n17), (.bool t18)]) ∧ (
            Does Tryd.prog 20 [] H16 fun v19 H20 => ∃ f21 : Nat, v19 = (.float .f64 f21) ∧ (
              Does Tryd.prog 17 [(.float .f64 f21), (.int .i64 9)] H20 fun v22 H23 => ∃ n24 : Int, ∃ t25 : Bool, v22 = (.tuple #[(.int .i64 n24), (.bool t25)]) ∧ (
                Does Tryd.prog 17 [(.float .f64 9223372036854775809), (.int .i64 9)] H23 fun v26 H27 => ∃ n28 : Int, ∃ t29 : Bool, v26 = (.tuple #[(.int .i64 n28), (.bool t29)]) ∧ (
                  Does Tryd.prog 17 [(.float .f64 4607182418800017408), (.int .i64 (-1))] H27 fun v30 H31 => ∃ n32 : Int, ∃ t33 : Bool, v30 = (.tuple #[(.int .i64 n32), (.bool t33)]) ∧ (
                    Does Tryd.prog 17 [(.float .f64 4607182418800017408), (.int .i64 2147483648)] H31 fun v34 H35 => ∃ n36 : Int, ∃ t37 : Bool, v34 = (.tuple #[(.int .i64 n36), (.bool t37)]) ∧ (
                      Does Tryd.prog 10 [(.string (ByteArray.mk #[55, 102, 102, 56, 48, 48, 48, 48, 48, 48, 48, 48, 48, 48, 48, 49]))] H35 fun v38 H39 => ∃ f40 : Nat, ∃ t41 : Bool, v38 = (.tuple #[(.float .f64 f40), (.bool t41)]) ∧ (
                        Does Tryd.prog 10 [(.string (ByteArray.mk #[55, 102, 102, 56, 48, 48, 48, 48, 48, 48, 48, 48, 48, 48, 48, 50]))] H39 fun v42 H43 => ∃ f44 : Nat, ∃ t45 : Bool, v42 = (.tuple #[(.float .f64 f44), (.bool t45)]) ∧ (
                          Does Tryd.prog 10 [(.string (ByteArray.mk #[55, 70, 70, 56, 48, 48, 48, 48, 48, 48, 48, 48, 48, 48, 48, 49]))] H43 fun v46 H47 => ∃ f48 : Nat, ∃ t49 : Bool, v46 = (.tuple #[(.float .f64 f48), (.bool t49)]) ∧ (
                            Does Tryd.prog 12 [] H47 fun v50 H51 => ∃ t52 : Bool, v50 = (.bool t52) ∧ (
                              ((t52 = true → (
                                    ((((n3 : Int) = 3) → (
                                          ((t4 = true → (
                                                ((((n10 : Int) = 9) → (
                                                      ((t11 = true → (
                                                            ((((n17 : Int) = 0) → (
                                                            ((t18 = true → (
                                                            (((t25 = false) → (
                                                            (((t29 = false) → (
                                                            (((t33 = false) → (
                                                            (((t37 = false) → (
                                                            ((t41 = true → (
                                                            (((¬ FEq f40 f40) → (
                                                            (((t45 = false) → (
                                                            (((t49 = false) → (
                                                            Does Tryd.prog 20 [] H51 fun v53 H54 => ∃ f55 : Nat, v53 = (.float .f64 f55) ∧ (
                                                            Does Tryd.prog 8 [(.float .f64 f55)] H54 fun v56 H57 => ∃ s58 : ByteArray, v56 = (.string s58) ∧ (
                                                            ((((s58 : ByteArray) = (ByteArray.mk #[55, 102, 102, 56, 48, 48, 48, 48, 48, 48, 48, 48, 48, 48, 48, 49])) → (
                                                            Does Tryd.prog 8 [(.float .f64 4607182418800017408)] H57 fun v59 H60 => ∃ s61 : ByteArray, v59 = (.string s61) ∧ (
                                                            ((((s61 : ByteArray) = (ByteArray.mk #[51, 102, 102, 48, 48, 48, 48, 48, 48, 48, 48, 48, 48, 48, 48, 48])) → (
                                                            Does Tryd.prog 21 [(.float .f64 (Int.toNat 18444492273895866521))] H60 fun v62 H63 => ∃ f64 : Nat, v62 = (.float .f64 f64) ∧ (
                                                            (((((f64 : Nat) : Int) = 9221120237041090561) → (
                                                            Does Tryd.prog 18 [(.int .i64 (-1))] H63 fun v65 H66 => ∃ f67 : Nat, v65 = (.float .f64 f67) ∧ (
                                                            Does Tryd.prog 14 [(.float .f64 f67), (.float .f64 18442240474082181119)] H66 fun v68 H69 => ∃ n70 : Int, v68 = (.int .i64 n70) ∧ (
                                                            ((((n70 : Int) = (-1)) → (
                                                            Does Tryd.prog 14 [(.float .f64 13830554455654793216), (.float .f64 13835058055282163712)] H69 fun v71 H72 => ∃ n73 : Int, v71 = (.int .i64 n73) ∧ (
                                                            ((((n73 : Int) = 1) → (
                                                            Does Tryd.prog 19 [(.float .f64 0), (.float .f64 13830554455654793216)] H72 fun v74 H75 => ∃ f76 : Nat, v74 = (.float .f64 f76) ∧ (
                                                            Does Tryd.prog 15 [(.float .f64 0), (.float .f64 f76)] H75 fun v77 H78 => ∃ t79 : Bool, v77 = (.bool t79) ∧ (
                                                            (((t79 = false) → (
                                                            Does Tryd.prog 18 [(.int .i64 1)] H78 fun v80 H81 => ∃ f82 : Nat, v80 = (.float .f64 f82) ∧ (
                                                            Does Tryd.prog 20 [] H81 fun v83 H84 => ∃ f85 : Nat, v83 = (.float .f64 f85) ∧ (
                                                            Does Tryd.prog 16 [(.float .f64 f82), (.float .f64 f85)] H84 fun v86 H87 => ∃ f88 : Nat, v86 = (.float .f64 f88) ∧ (
                                                            Does Tryd.prog 18 [(.int .i64 1)] H87 fun v89 H90 => ∃ f91 : Nat, v89 = (.float .f64 f91) ∧ (
                                                            Does Tryd.prog 20 [] H90 fun v92 H93 => ∃ f94 : Nat, v92 = (.float .f64 f94) ∧ (
                                                            Does Tryd.prog 16 [(.float .f64 f91), (.float .f64 f94)] H93 fun v95 H96 => ∃ f97 : Nat, v95 = (.float .f64 f97) ∧ (
                                                            R (.bool (@decide (¬ FEq f88 f97) (Classical.propDecidable _))) H96)))))))) ∧ (¬ (t79 = false) → (
                                                            R (.bool false) H78))))))) ∧ (¬ ((n73 : Int) = 1) → (
                                                            R (.bool false) H72)))))) ∧ (¬ ((n70 : Int) = (-1)) → (
                                                            R (.bool false) H69))))))) ∧ (¬ (((f64 : Nat) : Int) = 9221120237041090561) → (
                                                            R (.bool false) H63)))))) ∧ (¬ ((s61 : ByteArray) = (ByteArray.mk #[51, 102, 102, 48, 48, 48, 48, 48, 48, 48, 48, 48, 48, 48, 48, 48])) → (
                                                            R (.bool false) H60)))))) ∧ (¬ ((s58 : ByteArray) = (ByteArray.mk #[55, 102, 102, 56, 48, 48, 48, 48, 48, 48, 48, 48, 48, 48, 48, 49])) → (
                                                            R (.bool false) H57))))))) ∧ (¬ (t49 = false) → (
                                                            R (.bool false) H51))))) ∧ (¬ (t45 = false) → (
                                                            R (.bool false) H51))))) ∧ (¬ (¬ FEq f40 f40) → (
                                                            R (.bool false) H51))))) ∧ (t41 = false → (
                                                            R (.bool false) H51))))) ∧ (¬ (t37 = false) → (
                                                            R (.bool false) H51))))) ∧ (¬ (t33 = false) → (
                                                            R (.bool false) H51))))) ∧ (¬ (t29 = false) → (
                                                            R (.bool false) H51))))) ∧ (¬ (t25 = false) → (
                                                            R (.bool false) H51))))) ∧ (t18 = false → (
                                                            R (.bool false) H51))))) ∧ (¬ ((n17 : Int) = 0) → (
                                                            R (.bool false) H51))))) ∧ (t11 = false → (
                                                            R (.bool false) H51))))) ∧ (¬ ((n10 : Int) = 9) → (
                                                      R (.bool false) H51))))) ∧ (t4 = false → (
                                                R (.bool false) H51))))) ∧ (¬ ((n3 : Int) = 3) → (
                                          R (.bool false) H51))))) ∧ (t52 = false → (
                                    R (.bool false) H51)))))))))))))))))) := by kernel_rfl


end Go.Proofs
end

section
open Go Go.Vc
namespace Go.Proofs

theorem share_yes {x : Nat} {n k : Int} (hx : x < 18446744073709551616) (hs : Sharable x n) (hk : shareN x n = k) (H : Heap) : Does Tryd.prog 17 [.float .f64 x, .int .i64 n] H fun v H' => v = .tuple #[.int .i64 k, .bool true] ∧ H = H' :=
  (share_ok hx n H).mono fun v H' ⟨e, h⟩ => by
    rcases h with ⟨_, rfl⟩ | ⟨h, _⟩
    · rw [hk]; exact ⟨rfl, e⟩
    · exact absurd hs h
theorem share_no {x : Nat} {n : Int} (hx : x < 18446744073709551616) (hs : ¬ Sharable x n) (H : Heap) : Does Tryd.prog 17 [.float .f64 x, .int .i64 n] H fun v H' => v = .tuple #[.int .i64 0, .bool false] ∧ H = H' :=
  (share_ok hx n H).mono fun v H' ⟨e, h⟩ => by
    rcases h with ⟨h, _⟩ | ⟨_, rfl⟩
    · exact absurd h hs
    · exact ⟨rfl, e⟩

theorem kn1 : shareN 4602678819172646912 7 = 3 := by decide +kernel
theorem kn2 : shareN 9218868437227405312 9 = 9 := by decide +kernel
theorem kn3 : shareN 9223372036854775808 9 = 0 := by decide +kernel
theorem nlt (a : Nat) (h : (Ieee.double.order a 0 == some .lt) = false) : ¬ FLt a 0 := by
  intro e
  unfold FLt at e
  rw [e] at h
  exact absurd h (by decide)

/-- A text that is a number, parsed. -/
theorem parse_num {s : ByteArray} {n : Nat} (hn : n < 18446744073709551616) (hs : s.size ≤ maxLen) (hp : puT s = .ok n) {H : Heap} (h : T64 H) : Does Tryd.prog 10 [.string s] H fun v H' => v = (if hexS (plainW n) = s then .tuple #[.float .f64 n, .bool true] else .tuple #[.float .f64 0, .bool false]) ∧ Ext [] H H' := by
  refine Fn_of_vc Tryd.mixed (ParseV _ _ _) ?_
  refine Does.mono (R := fun v H' => v = .tuple #[.int .u64 n, .nilIface] ∧ Ext [] H H') ?_ ?_
  · refine Fn_of_vc Tryd.mixed (PuaV _ _ _) ?_
    refine (pu_ok _ hs H).mono ?_
    rintro _ H2 ⟨rfl, hx2⟩
    rw [hp]
    exact ⟨_, _, rfl, .inl rfl, fun h => absurd rfl h, fun _ => ⟨rfl, hx2⟩⟩
  rintro _ H2 ⟨rfl, hx2⟩
  refine ⟨_, _, rfl, .inl rfl, fun h => absurd rfl h, fun _ => (text_ok (w := Int.toNat ((n : Nat) : Int)) (by omega) (h.ext hx2)).mono ?_⟩
  rintro _ H6 ⟨rfl, hx6⟩
  rw [Int.toNat_natCast]
  refine ⟨_, rfl, fun e => ⟨?_, hx2.trans hx6⟩, fun e => ⟨?_, hx2.trans hx6⟩⟩
  · rw [if_neg e]
  · rw [if_pos (Classical.not_not.1 e)]

def isOk : PR → Option Int
  | .ok n => some n
  | _ => none
theorem isOk_eq {p : PR} {n : Int} (h : isOk p = some n) : p = .ok n := by
  cases p <;> simp [isOk] at h
  rw [h]

theorem known_law (H : Heap) (hT : T64 H) : Does Tryd.prog 5 [] H fun v H' => v = .bool true ∧ Ext [] H H' := by
  refine Fn_of_vc Tryd.mixed (KnownV _ _) ?_
  refine (share_yes (by decide) ⟨by decide, nlt _ (by decide +kernel), by decide, by decide⟩ kn1 H).mono ?_
  rintro _ _ ⟨rfl, rfl⟩
  refine ⟨_, _, rfl, (inf_ok _ _).mono ?_⟩
  rintro _ _ ⟨rfl, rfl⟩
  refine ⟨_, rfl, (share_yes (x := 9218868437227405312) (by decide) ⟨by decide, nlt _ (by decide +kernel), by decide, by decide⟩ kn2 H).mono ?_⟩
  rintro _ _ ⟨rfl, rfl⟩
  refine ⟨_, _, rfl, (copysign_ok _).mono ?_⟩
  rintro _ _ ⟨rfl, rfl⟩
  refine ⟨_, rfl, (share_yes (by decide) ⟨by decide, nlt _ (by decide +kernel), by decide, by decide⟩ kn3 H).mono ?_⟩
  rintro _ _ ⟨rfl, rfl⟩
  refine ⟨_, _, rfl, (nan_ok _).mono ?_⟩
  rintro _ _ ⟨rfl, rfl⟩
  refine ⟨_, rfl, (share_no (by decide) (fun h => absurd h.1 (by decide)) H).mono ?_⟩
  rintro _ _ ⟨rfl, rfl⟩
  refine ⟨_, _, rfl, (share_no (by decide) (fun h => absurd (show FLt 9223372036854775809 0 by unfold FLt; decide +kernel) h.2.1) H).mono ?_⟩
  rintro _ _ ⟨rfl, rfl⟩
  refine ⟨_, _, rfl, (share_no (by decide) (fun h => absurd h.2.2.1 (by decide)) H).mono ?_⟩
  rintro _ _ ⟨rfl, rfl⟩
  refine ⟨_, _, rfl, (share_no (by decide) (fun h => absurd h.2.2.2 (by decide)) H).mono ?_⟩
  rintro _ _ ⟨rfl, rfl⟩
  refine ⟨_, _, rfl, (parse_num (n := 9221120237041090561) (by decide) (by decide) (isOk_eq (by decide +kernel)) hT).mono ?_⟩
  rintro _ H39 ⟨rfl, hx39⟩
  rw [if_pos (by decide +kernel)]
  refine ⟨_, _, rfl, (parse_num (n := 9221120237041090562) (by decide) (by decide) (isOk_eq (by decide +kernel)) (hT.ext hx39)).mono ?_⟩
  rintro _ H43 ⟨rfl, hx43⟩
  rw [if_neg (by decide +kernel)]
  refine ⟨_, _, rfl, (parse_num (n := 9221120237041090561) (by decide) (by decide) (isOk_eq (by decide +kernel)) ((hT.ext hx39).ext hx43)).mono ?_⟩
  rintro _ H47 ⟨rfl, hx47⟩
  rw [if_neg (by decide +kernel)]
  refine ⟨_, _, rfl, (known2_ok H47).mono ?_⟩
  rintro _ H51 ⟨rfl, hx51⟩
  have hX := ((hx39.trans hx43).trans hx47).trans hx51
  have hT51 := hT.ext hX
  refine ⟨_, rfl, fun _ => ⟨fun _ => ⟨fun _ => ⟨fun _ => ⟨fun _ => ⟨fun _ => ⟨fun _ => ⟨fun _ => ⟨fun _ => ⟨fun _ => ⟨fun _ => ⟨fun _ => ⟨fun _ => ⟨fun _ => ⟨fun _ => ?_, fun e => absurd rfl e⟩, fun e => absurd rfl e⟩, fun e => ?_⟩, fun e => (by cases e)⟩, fun e => absurd rfl e⟩, fun e => absurd rfl e⟩, fun e => absurd rfl e⟩, fun e => absurd rfl e⟩, fun e => (by cases e)⟩, fun e => absurd rfl e⟩, fun e => (by cases e)⟩, fun e => absurd rfl e⟩, fun e => (by cases e)⟩, fun e => absurd rfl e⟩, fun e => (by cases e)⟩
  · refine (nan_ok _).mono ?_
    rintro _ _ ⟨rfl, rfl⟩
    refine ⟨_, rfl, (text_ok (by decide) hT51).mono ?_⟩
    rintro _ H57 ⟨rfl, hx57⟩
    refine ⟨_, rfl, fun _ => (text_ok (by decide) (hT51.ext hx57)).mono ?_, fun e => absurd (by decide +kernel) e⟩
    rintro _ H60 ⟨rfl, hx60⟩
    refine ⟨_, rfl, fun _ => (plain_ok (by decide) H60).mono ?_, fun e => absurd (by decide +kernel) e⟩
    rintro _ _ ⟨rfl, rfl⟩
    refine ⟨_, rfl, fun _ => (inf_ok _ _).mono ?_, fun e => absurd (by decide +kernel) e⟩
    rintro _ _ ⟨rfl, rfl⟩
    refine ⟨_, rfl, (compare_ok (by decide) (by decide) H60).mono ?_⟩
    rintro _ H69 ⟨rfl, hx69⟩
    refine ⟨_, rfl, fun _ => (compare_ok (by decide) (by decide) H69).mono ?_, fun e => absurd (by decide +kernel) e⟩
    rintro _ H72 ⟨rfl, hx72⟩
    refine ⟨_, rfl, fun _ => (copysign_ok _).mono ?_, fun e => absurd (by decide +kernel) e⟩
    rintro _ _ ⟨rfl, rfl⟩
    refine ⟨_, rfl, (same_ok (by decide) (by decide) H72).mono ?_⟩
    rintro _ H78 ⟨rfl, hx78⟩
    refine ⟨_, rfl, fun _ => (inf_ok _ _).mono ?_, fun e => absurd (by decide +kernel) e⟩
    rintro _ _ ⟨rfl, rfl⟩
    refine ⟨_, rfl, (nan_ok _).mono ?_⟩
    rintro _ _ ⟨rfl, rfl⟩
    refine ⟨_, rfl, (later_ok (by decide) (by decide) H78).mono ?_⟩
    rintro _ H87 ⟨rfl, hx87⟩
    refine ⟨_, rfl, (inf_ok _ _).mono ?_⟩
    rintro _ _ ⟨rfl, rfl⟩
    refine ⟨_, rfl, (nan_ok _).mono ?_⟩
    rintro _ _ ⟨rfl, rfl⟩
    refine ⟨_, rfl, (later_ok (by decide) (by decide) H87).mono ?_⟩
    rintro _ H96 ⟨rfl, hx96⟩
    refine ⟨_, rfl, yes ?_, ((((((hX.trans hx57).trans hx60).trans hx69).trans hx72).trans hx78).trans hx87).trans hx96⟩
    exact (no_order (.inl (by decide +kernel))).2.1
  · exact absurd (no_order (.inl (by decide +kernel))).2.1 e
end Go.Proofs
end

namespace Go.Proofs.YtppjhnepmolboaaDoor.numKnown
open Go.ChangeShapes Go.WideShapes Go.ChangeAt Go.RowKit
open Go.ChangeMaps (open_string shut_string)
set_option linter.unusedVariables false

theorem contract (H : Type) (enc : TypeId × Value → H) (W : World) (base : Nat) (args : Array Value) (ds gs : List (DataW H)) (before : List MemPlace)
    (hval0 : ∀ (j : Nat) t v, Tryd.f5.params[j]? = some t → args[j]? = some v → Value.okWide Tryd.prog W .any base t v)
    (hW : DataW.Whole enc Tryd.prog Tryd.f5.params.toList Rows.numKnownSpec.vars false W args.toList ds gs before) (hL : laidMetH Tryd.prog Rows.numKnownRow.laid W) :
    Calls Tryd.prog 5 args W fun e W' => ∃ v, e = .returned v ∧ Rows.numKnownSpec.post enc Tryd.prog Tryd.f5 false true false false W args v W' := by
  have hval : ∀ (j : Nat) t v, Tryd.f5.params[j]? = some t → args[j]? = some v → Value.okWide Tryd.prog W .any base t v := hval0
  have hL' : laidMet Tryd.prog theLaid W := hL
  have hW' := hW
  obtain ⟨p, q, hA0, hV, rfl, hfz, hnd⟩ := hW
  have hA : DataW.TrodAll enc Tryd.prog W 0 (fun _ => true) true Tryd.f5.params.toList args.toList ds p := hA0
  rw [Tryd.params5] at hA hval
  obtain ⟨rfl, rfl, rfl⟩ := trodAll_none hA
  obtain ⟨rfl, rfl⟩ := trodVars_none hV

  clear hA0 hval0
  refine (Go.Vc.Does.below (Go.Proofs.known_law W.heap (t64 hL') )).mono fun e W' ⟨he, bel⟩ => ?_
  subst he
  exact ⟨_, rfl, _, _, _, [], _, [], hW', trodAll_mk1 (shut_bool Tryd.underlying4 _), trodAll_mk0, rfl, bel.frame _, fun h => by cases h⟩

theorem reads (os : Os) {H : Type} (enc : TypeId × Value → H) : ∃ places, DataW.whole enc Tryd.prog ((laidWorld os).forCall (fun _ _ => 0) ⟨#[], #[], []⟩).memory Tryd.f5.params.toList Rows.numKnownSpec.vars false (#[] : Array Value).toList 8 = some ([], [], places) :=
  ⟨[], by kernel_rfl⟩

set_option maxRecDepth 100000 in
theorem lifted (os : Os) (started : os.Started) (H : Type) (enc : TypeId × Value → H) (F : Stop.Interp) :
    ReturnsInHanded {} Tryd.checked os 5 .any ((OpenSpec.ofChange Rows.numKnownSpec).preRow enc Tryd.prog Tryd.f5 Rows.numKnownRow.domain false Rows.numKnownRow.laid) (((OpenSpec.ofChange Rows.numKnownSpec).at F).post enc Tryd.prog Tryd.f5 false true false false) := by
  obtain ⟨places, hx⟩ := reads os enc
  refine returnsInHanded_of_row (C := Tryd.checked) (s := OpenSpec.ofChange Rows.numKnownSpec) own started (by kernel_rfl) Tryd.func5
    (witness_row_at (enc := enc) (C := Tryd.checked) false (laidWorld os) #[] rfl (by kernel_rfl) (by kernel_rfl) (by kernel_rfl)
      (OpenSpec.preRow_of_cond 8 hx (by kernel_rfl) (fun k hk => by cases hk) (by kernel_rfl) (laid_met os _))) ?_
  intro W base args ds gs before hval hW _ _ _ hL _ _
  exact contract H enc W base args ds gs before hval hW hL

theorem said : Rows.NumKnownSaid :=
  OpenClaim.holds_of_cond 5 Tryd.f5 rfl rfl rfl rfl rfl rfl rfl ⟨rfl, rfl, rfl, rfl, rfl⟩ rfl rfl rfl rfl rfl (by kernel_rfl) Tryd.func5 (by kernel_rfl)
    (of_decide_eq_true (by kernel_rfl)) (by unfold Func.isWrapper; first | (rw [if_pos (by decide +kernel)]; kernel_rfl) | (rw [if_neg (by decide +kernel)]; exact ⟨rfl, rfl⟩))
    (fun os started H enc _ F => by rw [OpenClaim.pre_eq_preRow]; exact lifted os started H enc F)

theorem plain (f : FuncId) (fn : Func) (hf : Tryd.pinned.checked.prog.funcNamed "pentimento/pentimentolaw2.NumKnown" = some f) (hfn : Tryd.pinned.checked.prog.funcs[f]? = some fn) :
    true = Tryd.pinned.checked.prog.looks [] ∧ ∀ (j : Nat) t, fn.params[j]? = some t → Tryd.pinned.checked.prog.wantsStandIn t = false := by
  obtain rfl : f = 5 := Option.some.inj ((show Tryd.prog.funcNamed "pentimento/pentimentolaw2.NumKnown" = some 5 by kernel_rfl).symm.trans hf) |>.symm
  obtain rfl : fn = Tryd.f5 := (Option.some.inj (Tryd.func5.symm.trans hfn)).symm
  refine ⟨by kernel_rfl, fun j t ht => ?_⟩
  rw [Tryd.params5] at ht
  match j, ht with

  | j, ht => exact absurd ht (by simp)

theorem proved : Rows.NumKnownCardSaid :=
  Claim7.holds_tied_plain_at .later [] _ _ _ _ said (fun _ h => by cases h) (by kernel_rfl) (fun _ h => by cases h) numKnown_row_tie rfl ⟨rfl, rfl⟩ (by kernel_rfl) rfl plain (by kernel_rfl)
#print axioms proved
end Go.Proofs.YtppjhnepmolboaaDoor.numKnown

