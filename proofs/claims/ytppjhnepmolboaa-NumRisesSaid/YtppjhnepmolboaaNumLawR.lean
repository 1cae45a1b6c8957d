/-
  A law of numbers over the contracts. No condition.
-/
import Derived.Test.YtppjhnepmolboaaNumLawH

section
open Go Go.Vc
namespace Go.Proofs
open Ieee

/-! ### Rounding -/

/-- What rounding n / G to the nearest gives. -/
structure Near2 (n G c : Nat) : Prop where
  up : 2 * n ≤ 2 * (G * c) + G
  dn : 2 * (G * c) ≤ 2 * n + G
  tieUp : 2 * n = 2 * (G * c) + G → c % 2 = 0
  tieDn : 2 * (G * c) = 2 * n + G → c % 2 = 0

theorem near_of (n G q r : Nat) (e : G * q + r = n) (hr : r < G) : Near2 n G (q + (decide (G < 2 * r) || (G == 2 * r && q % 2 == 1)).toNat) := by
  have e3 : G * (q + 1) = G * q + G := by rw [Nat.mul_add, Nat.mul_one]
  by_cases h1 : G < 2 * r
  · rw [decide_eq_true h1]
    show Near2 n G (q + 1)
    refine ⟨?_, ?_, ?_, ?_⟩ <;> rw [e3] <;> omega
  · rw [decide_eq_false h1]
    by_cases h2 : G = 2 * r
    · by_cases h3 : q % 2 = 1
      · have : (false || (G == 2 * r && q % 2 == 1)) = true := by simp [h2, h3]
        rw [this]
        show Near2 n G (q + 1)
        refine ⟨?_, ?_, ?_, ?_⟩ <;> rw [e3] <;> omega
      · have : (false || (G == 2 * r && q % 2 == 1)) = false := by simp [h3]
        rw [this]
        show Near2 n G q
        refine ⟨?_, ?_, ?_, ?_⟩ <;> omega
    · have : (false || (G == 2 * r && q % 2 == 1)) = false := by simp [h2]
      rw [this]
      show Near2 n G q
      refine ⟨?_, ?_, ?_, ?_⟩ <;> omega

theorem cut_near (neg : Bool) (n d : Nat) : Near2 n (2 ^ d) (Toward.even.cut neg n d) := by
  unfold Toward.cut
  dsimp only
  rw [Nat.one_shiftLeft]
  by_cases hd : d ≤ n.log2 + 2
  · rw [Nat.min_eq_left hd]
    exact near_of n (2 ^ d) _ _ (Nat.div_add_mod n _) (Nat.mod_lt n (Nat.two_pow_pos d))
  · rw [Nat.min_eq_right (by omega)]
    have h1 : n < 2 ^ (n.log2 + 1) := Nat.lt_log2_self
    have h2 : 2 ^ (n.log2 + 2) = 2 * 2 ^ (n.log2 + 1) := by rw [Nat.pow_succ, Nat.mul_comm]
    have h3 : 2 ^ (n.log2 + 2) < 2 ^ d := Nat.pow_lt_pow_right (by decide) (by omega)
    rw [Nat.div_eq_of_lt (by omega), Nat.mod_eq_of_lt (by omega), decide_eq_false (by omega)]
    have : (false || (2 ^ (n.log2 + 2) == 2 * n && 0 % 2 == 1)) = false := by simp
    rw [this]
    show Near2 n (2 ^ d) 0
    refine ⟨?_, ?_, ?_, ?_⟩ <;> omega

theorem near_mono {n n' G G' c c' : Nat} (hG : 0 < G) (hG' : 0 < G') (h : Near2 n G c) (h' : Near2 n' G' c') (hle : n * G' ≤ n' * G) : c ≤ c' := by
  by_cases hc : c ≤ c'
  · exact hc
  · exfalso
    have hc1 : c' + 1 ≤ c := by omega
    -- all times G G'
    have a1 : 2 * (G * c) * G' ≤ (2 * n + G) * G' := Nat.mul_le_mul_right _ h.dn
    have a2 : 2 * n' * G ≤ (2 * (G' * c') + G') * G := Nat.mul_le_mul_right _ h'.up
    have a3 : G * G' * (c' + 1) ≤ G * G' * c := Nat.mul_le_mul_left _ hc1
    rw [Nat.mul_add, Nat.mul_one] at a3
    have b1 : 2 * (G * c) * G' = 2 * (G * G' * c) := by ac_rfl
    have b2 : (2 * n + G) * G' = 2 * (n * G') + G * G' := by rw [Nat.add_mul]; ac_rfl
    have b3 : 2 * n' * G = 2 * (n' * G) := by ac_rfl
    have b4 : (2 * (G' * c') + G') * G = 2 * (G * G' * c') + G * G' := by rw [Nat.add_mul]; ac_rfl
    rw [b1, b2] at a1
    rw [b3, b4] at a2
    have e1 : n * G' = n' * G := by omega
    have e2 : G * G' * c = G * G' * c' + G * G' := by omega
    have hp : 0 < G * G' := Nat.mul_pos hG hG'
    have e3 : c = c' + 1 := by
      rw [← Nat.mul_add_one] at e2
      exact Nat.eq_of_mul_eq_mul_left hp e2
    have t1 : 2 * n' = 2 * (G' * c') + G' := by
      apply Nat.eq_of_mul_eq_mul_right hG
      rw [b3, b4]; omega
    have t2 : 2 * (G * c) = 2 * n + G := by
      apply Nat.eq_of_mul_eq_mul_right hG'
      rw [b1, b2]; omega
    have := h'.tieUp t1
    have := h.tieDn t2
    omega

/-- The same step of both exponents. -/
theorem scale {m m' e1 e2 f1 f2 : Nat} (h : m * 2 ^ e1 ≤ m' * 2 ^ e2) (he : e1 + f2 = e2 + f1) : m * 2 ^ f1 ≤ m' * 2 ^ f2 := by
  have h1 : m * 2 ^ f1 * 2 ^ e2 ≤ m' * 2 ^ f2 * 2 ^ e2 := by
    calc m * 2 ^ f1 * 2 ^ e2 = m * 2 ^ e1 * 2 ^ f2 := by rw [Nat.mul_assoc, ← Nat.pow_add, Nat.mul_assoc, ← Nat.pow_add, he, Nat.add_comm f1 e2]
      _ ≤ m' * 2 ^ e2 * 2 ^ f2 := Nat.mul_le_mul_right _ h
      _ = m' * 2 ^ f2 * 2 ^ e2 := by ac_rfl
  exact Nat.le_of_mul_le_mul_right h1 (Nat.two_pow_pos _)

theorem cut_rng {f : Format} (neg : Bool) (mag : Nat) (hm : mag ≠ 0) (u : Int) (hu : (mag.log2 : Int) + u ≤ f.fractionBits) : Toward.even.cut neg (mag <<< u.toNat) (-u).toNat ≤ 2 * f.binade ∧ ((mag.log2 : Int) + u = f.fractionBits → f.binade ≤ Toward.even.cut neg (mag <<< u.toNat) (-u).toNat) := by
  have h := cut_near neg (mag <<< u.toNat) (-u).toNat
  rw [Nat.shiftLeft_eq] at h ⊢
  have hlt : mag < 2 ^ (mag.log2 + 1) := Nat.lt_log2_self
  have hge : 2 ^ mag.log2 ≤ mag := Nat.log2_self_le hm
  have hb : f.binade = 2 ^ f.fractionBits := rfl
  have hp : 0 < 2 ^ (-u).toNat := Nat.two_pow_pos _
  have c1 : mag * 2 ^ u.toNat < 2 * (2 ^ (-u).toNat * f.binade) := by
    calc mag * 2 ^ u.toNat < 2 ^ (mag.log2 + 1) * 2 ^ u.toNat := Nat.mul_lt_mul_of_pos_right hlt (Nat.two_pow_pos _)
      _ = 2 ^ (mag.log2 + 1 + u.toNat) := by rw [← Nat.pow_add]
      _ ≤ 2 ^ (1 + ((-u).toNat + f.fractionBits)) := Nat.pow_le_pow_right (by decide) (by omega)
      _ = 2 * (2 ^ (-u).toNat * f.binade) := by rw [hb, Nat.pow_add, Nat.pow_add, Nat.pow_one]
  have c2 : (mag.log2 : Int) + u = f.fractionBits → 2 ^ (-u).toNat * f.binade ≤ mag * 2 ^ u.toNat := fun e => by
    calc 2 ^ (-u).toNat * f.binade = 2 ^ ((-u).toNat + f.fractionBits) := by rw [hb, ← Nat.pow_add]
      _ ≤ 2 ^ (mag.log2 + u.toNat) := Nat.pow_le_pow_right (by decide) (by omega)
      _ = 2 ^ mag.log2 * 2 ^ u.toNat := by rw [← Nat.pow_add]
      _ ≤ mag * 2 ^ u.toNat := Nat.mul_le_mul_right _ hge
  generalize Toward.even.cut neg (mag * 2 ^ u.toNat) (-u).toNat = c at *
  generalize mag * 2 ^ u.toNat = n at *
  generalize 2 ^ (-u).toNat = G at *
  constructor
  · by_cases hc : c ≤ 2 * f.binade
    · exact hc
    · have h1 := Nat.mul_le_mul_left G (show 2 * f.binade + 1 ≤ c by omega)
      have h2 := h.dn
      rw [Nat.mul_add, Nat.mul_one] at h1
      have e : G * (2 * f.binade) = 2 * (G * f.binade) := by ac_rfl
      omega
  · intro e
    have h3 := c2 e
    by_cases hc : f.binade ≤ c
    · exact hc
    · have h1 := Nat.mul_le_mul_left G (show c + 1 ≤ f.binade by omega)
      have h2 := h.up
      rw [Nat.mul_add, Nat.mul_one] at h1
      omega

/-- ROUNDING KEEPS THE ORDER. -/
theorem nearest_mono {f : Format} {neg neg' : Bool} {mag mag' : Nat} {place place' : Int} {s e e' : Nat} (he : place + s = e) (he' : place' + s = e') (h : mag * 2 ^ e ≤ mag' * 2 ^ e') : frung f (f.nearest neg mag place) ≤ frung f (f.nearest neg' mag' place') := by
  have hw : ∀ (b : Bool) (r : Nat), frung f (f.word b (min r f.infRung)) = min r f.infRung := fun b r => (word_rung (Nat.lt_of_le_of_lt (Nat.min_le_right _ _) (inf_sign f))).1
  have h0 : ∀ b : Bool, frung f (f.word b 0) = 0 := fun b => (word_rung (Nat.two_pow_pos _)).1
  by_cases hm : mag = 0
  · unfold Format.nearest
    rw [if_pos hm, h0]; omega
  have hm' : mag' ≠ 0 := by
    rintro rfl
    have : 0 < mag * 2 ^ e := Nat.mul_pos (by omega) (Nat.two_pow_pos _)
    omega
  unfold Format.nearest
  dsimp only
  rw [if_neg hm, if_neg hm', hw, hw]
  -- the leading digits
  have hlog : place + mag.log2 ≤ place' + mag'.log2 := by
    have h1 : 2 ^ (mag.log2 + e) < 2 ^ (mag'.log2 + 1 + e') := by
      calc 2 ^ (mag.log2 + e) = 2 ^ mag.log2 * 2 ^ e := by rw [Nat.pow_add]
        _ ≤ mag * 2 ^ e := Nat.mul_le_mul_right _ (Nat.log2_self_le hm)
        _ ≤ mag' * 2 ^ e' := h
        _ < 2 ^ (mag'.log2 + 1) * 2 ^ e' := Nat.mul_lt_mul_of_pos_right Nat.lt_log2_self (Nat.two_pow_pos _)
        _ = 2 ^ (mag'.log2 + 1 + e') := by rw [← Nat.pow_add]
    have := (Nat.pow_lt_pow_iff_right (by decide)).1 h1
    omega
  generalize hl : max (place + mag.log2 - f.fractionBits) f.leastPlace = last
  generalize hl' : max (place' + mag'.log2 - f.fractionBits) f.leastPlace = last'
  have r1 := cut_rng (f := f) neg mag hm (place - last) (by omega)
  have r2 := cut_rng (f := f) neg' mag' hm' (place' - last') (by omega)
  have n1 : last - place = -(place - last) := by omega
  have n2 : last' - place' = -(place' - last') := by omega
  rw [n1, n2]
  have goal : (last - f.leastPlace).toNat * f.binade + Toward.even.cut neg (mag <<< (place - last).toNat) (-(place - last)).toNat ≤ (last' - f.leastPlace).toNat * f.binade + Toward.even.cut neg' (mag' <<< (place' - last').toNat) (-(place' - last')).toNat := by
    by_cases hs : last = last'
    · subst hs
      refine Nat.add_le_add_left ?_ _
      refine near_mono (Nat.two_pow_pos _) (Nat.two_pow_pos _) (cut_near _ _ _) (cut_near _ _ _) ?_
      rw [Nat.shiftLeft_eq, Nat.shiftLeft_eq, Nat.mul_assoc, Nat.mul_assoc, ← Nat.pow_add, ← Nat.pow_add]
      exact scale h (by omega)
    · have hlt : last + 1 ≤ last' := by omega
      have k1 := r1.1
      have k2 := r2.2 (by omega)
      obtain ⟨a, ha⟩ : ∃ a, (last - f.leastPlace).toNat = a := ⟨_, rfl⟩
      obtain ⟨b, hb⟩ : ∃ b, (last' - f.leastPlace).toNat = b := ⟨_, rfl⟩
      rw [ha, hb]
      have hab : a + 1 ≤ b := by omega
      have := Nat.mul_le_mul_right f.binade hab
      rw [Nat.add_mul, Nat.one_mul] at this
      omega
  omega
end Go.Proofs
end

section
open Go Go.Vc
namespace Go.Proofs
open Ieee

theorem cut_one (neg : Bool) (n : Nat) : Toward.even.cut neg n 0 = n := by
  have h := cut_near neg n 0
  have h1 := h.up
  have h2 := h.dn
  rw [Nat.pow_zero, Nat.one_mul] at h1 h2
  omega

/-- A whole number below 2 ^ 53 has a word of its own. -/
theorem int_exact (s : Bool) (g c : Nat) (hc : c = 1074) (hg : g < 2 ^ 53) : fval Ieee.double (frung Ieee.double (Ieee.double.nearest s g 0)) = g * 2 ^ c := by
  by_cases h0 : g = 0
  · subst h0
    unfold Format.nearest
    rw [if_pos rfl, (word_rung (Nat.two_pow_pos _)).1, fval_zero, Nat.zero_mul]
  · have hL := (Nat.log2_lt h0).2 hg
    unfold Format.nearest
    dsimp only
    rw [if_neg h0, d_least, d_frac]
    obtain ⟨L, eL⟩ : ∃ L, g.log2 = L := ⟨_, rfl⟩
    rw [eL] at hL ⊢
    have e1 : max ((0 : Int) + (L : Int) - ((52 : Nat) : Int)) (-1074) = (L : Int) - 52 := by omega
    rw [e1]
    have e2 : ((0 : Int) - ((L : Int) - 52)).toNat = 52 - L := by omega
    have e3 : ((L : Int) - 52 - 0).toNat = 0 := by omega
    have e4 : ((L : Int) - 52 - -1074).toNat = L + 1022 := by omega
    rw [e2, e3, e4, cut_one, Nat.shiftLeft_eq]
    have hb : Ieee.double.binade = 2 ^ 52 := rfl
    have hlo : 2 ^ 52 ≤ g * 2 ^ (52 - L) := by
      have := Nat.log2_self_le h0
      rw [eL] at this
      calc 2 ^ 52 = 2 ^ L * 2 ^ (52 - L) := by rw [← Nat.pow_add]; congr 1; omega
        _ ≤ _ := Nat.mul_le_mul_right _ this
    have hhi : g * 2 ^ (52 - L) < 2 ^ 53 := by
      have h1 : g < 2 ^ (g.log2 + 1) := Nat.lt_log2_self
      rw [eL] at h1
      calc g * 2 ^ (52 - L) < 2 ^ (L + 1) * 2 ^ (52 - L) := Nat.mul_lt_mul_of_pos_right h1 (Nat.two_pow_pos _)
        _ = 2 ^ 53 := by rw [← Nat.pow_add]; congr 1; omega
    have hv : g * 2 ^ (52 - L) * 2 ^ (L + 1022) = g * 2 ^ c := by
      rw [Nat.mul_assoc, ← Nat.pow_add, show 52 - L + (L + 1022) = c by omega]
    rw [← hv]
    generalize g * 2 ^ (52 - L) = n at *
    have h53 : 2 ^ 53 = 2 * Ieee.double.binade := by rw [hb]
    rw [← hb] at hlo
    rw [h53] at hhi
    obtain ⟨r, hnr⟩ : ∃ r, n = Ieee.double.binade + r := ⟨n - Ieee.double.binade, by omega⟩
    subst hnr
    have hr : r < Ieee.double.binade := by omega
    have e5 : (L + 1022) * Ieee.double.binade + (Ieee.double.binade + r) = Ieee.double.binade * (L + 1023) + r := by
      rw [Nat.mul_comm (L + 1022), show L + 1023 = L + 1022 + 1 from rfl, Nat.mul_add Ieee.double.binade (L + 1022) 1, Nat.mul_one]; omega
    have hle : Ieee.double.binade * (L + 1023) + r ≤ Ieee.double.infRung := by rw [d_inf, d_bin]; rw [d_bin] at hr; omega
    rw [e5, Nat.min_eq_left hle, (word_rung (Nat.lt_of_le_of_lt hle (inf_sign _))).1]
    unfold fval
    have hpos := binade_pos Ieee.double
    rw [if_neg (by have := Nat.le_mul_of_pos_right Ieee.double.binade (show 0 < L + 1023 by omega); omega), Nat.mul_add_mod, Nat.mod_eq_of_lt hr, Nat.mul_add_div hpos, Nat.div_eq_of_lt hr, Nat.add_zero, show L + 1023 - 1 = L + 1022 from rfl]

theorem cut_floor (way : Toward) (s : Bool) (n d : Nat) (h : way = .zero ∨ (way = .down ∧ (s = false ∨ n = 0))) : way.cut s n d = n / 2 ^ d := by
  have e : n / (1 <<< min d (n.log2 + 2)) = n / 2 ^ d := by
    rw [Nat.one_shiftLeft]
    rcases Nat.le_total d (n.log2 + 2) with hd | hd
    · rw [Nat.min_eq_left hd]
    · rw [Nat.min_eq_right hd]
      have h1 : n < 2 ^ (n.log2 + 2) := Nat.lt_of_lt_of_le (Nat.lt_log2_self) (Nat.pow_le_pow_right (by decide) (by omega))
      rw [Nat.div_eq_of_lt h1, Nat.div_eq_of_lt (Nat.lt_of_lt_of_le h1 (Nat.pow_le_pow_right (by decide) hd))]
  unfold Toward.cut
  dsimp only
  rw [e]
  rcases h with rfl | ⟨rfl, rfl | rfl⟩
  · rfl
  · rfl
  · simp

/-- A number's whole part, by its worth. -/
theorem whole_val {m : Nat} {i : Int} (hi : i + 1074 ≥ 0) (c : Nat) (hc : c = 1074) : m <<< i.toNat / 2 ^ (-i).toNat = m * 2 ^ (i + 1074).toNat / 2 ^ c := by
  rw [Nat.shiftLeft_eq]
  by_cases h : 0 ≤ i
  · have e1 : (-i).toNat = 0 := by omega
    have e2 : (i + 1074).toNat = i.toNat + c := by omega
    rw [e1, e2, Nat.pow_zero, Nat.div_one, Nat.pow_add, ← Nat.mul_assoc, Nat.mul_div_cancel _ (Nat.two_pow_pos _)]
  · have e1 : i.toNat = 0 := by omega
    have e2 : c = (-i).toNat + (i + 1074).toNat := by omega
    rw [e1, e2, Nat.pow_zero, Nat.mul_one, Nat.pow_add, Nat.mul_div_mul_right _ _ (Nat.two_pow_pos _)]

theorem floor_val {r q c : Nat} (hc : c = 1074) (h : frung Ieee.double r ≤ q * Ieee.double.binade) (hq : 1 ≤ q) (hq2 : q ≤ 1060) (hs : fneg Ieee.double r = false ∨ frung Ieee.double r = 0) : (Ieee.double.read (floorW r)).toInt .zero = some ((fval Ieee.double (frung Ieee.double r) / 2 ^ c : Nat) : Int) := by
  obtain ⟨m, i, e, hm, hi, hv⟩ := low_num h hq (by omega) 37 (by omega)
  have hm0 : frung Ieee.double r = 0 → m = 0 := fun h0 => by
    rw [h0, fval_zero] at hv
    rcases Nat.mul_eq_zero.1 hv with h1 | h1
    · exact h1
    · have := Nat.two_pow_pos (i + 1074).toNat; omega
  unfold floorW
  rw [e]
  simp only [Datum.integral, enc_num]
  have hg : Toward.down.cut (fneg Ieee.double r) (m <<< i.toNat) (-i).toNat ≤ 2 ^ 37 + 1 := cut_le _ _ _ _ _ (by rw [Nat.shiftLeft_eq]; exact hm)
  have eg : Toward.down.cut (fneg Ieee.double r) (m <<< i.toNat) (-i).toNat = fval Ieee.double (frung Ieee.double r) / 2 ^ c := by
    rw [cut_floor _ _ _ _ (.inr ⟨rfl, by
      rcases hs with hs | hs
      · exact .inl hs
      · rw [hm0 hs]; exact .inr (by simp)⟩), whole_val hi c hc, hv]
  rw [eg] at hg ⊢
  have g0 : frung Ieee.double r = 0 → fval Ieee.double (frung Ieee.double r) / 2 ^ c = 0 := fun h0 => by rw [h0, fval_zero, Nat.zero_div]
  generalize fval Ieee.double (frung Ieee.double r) / 2 ^ c = g at *
  have hlog : (0 : Int) + g.log2 ≤ 37 := by
    have : g < 2 ^ 38 := by omega
    rcases Nat.eq_zero_or_pos g with h0 | h0
    · subst h0; decide
    · have := (Nat.log2_lt (by omega)).2 this
      omega
  obtain ⟨l1, _, l3⟩ := nearest_le (f := Ieee.double) (neg := fneg Ieee.double r) (mag := g) (place := 0) (T := 37) hlog (by rw [d_least, d_frac]; omega)
  rw [d_least, d_frac] at l1
  have hb := binade_pos Ieee.double
  have l2 : frung Ieee.double (Ieee.double.nearest (fneg Ieee.double r) g 0) ≤ 1062 * Ieee.double.binade := by
    have e1 : ((37 : Int) - ((52 : Nat) : Int) - -1074).toNat = 1059 := by decide
    rw [e1] at l1
    omega
  obtain ⟨m2, i2, e2, _, hi2, hv2⟩ := low_num l2 (by decide) (by decide) 40 (by decide)
  rw [e2, l3]
  show some (signed (fneg Ieee.double r) (Toward.zero.cut (fneg Ieee.double r) (m2 <<< i2.toNat) (-i2).toNat) 0) = _
  rw [cut_floor _ _ _ _ (.inl rfl), whole_val hi2 c hc, hv2, int_exact _ g c hc (by omega), Nat.mul_div_cancel _ (Nat.two_pow_pos _)]
  unfold signed
  rw [Nat.shiftLeft_zero]
  rcases hs with hs | hs
  · rw [hs]; rfl
  · rw [g0 hs]; split <;> rfl
end Go.Proofs
end

section
open Go Go.Vc
namespace Go.Proofs
open Ieee

/-- What a share is worth, by the rungs. -/
theorem share_val {x : Nat} (hx : x < 18446744073709551616) {n : Nat} (h : Sharable x n) (c : Nat) (hc : c = 1074) :
    ∃ r, frung Ieee.double r ≤ 1060 * Ieee.double.binade ∧ shareN x n = ((fval Ieee.double (frung Ieee.double r) / 2 ^ c : Nat) : Int) ∧
      ∃ (s : Bool) (m m2 : Nat) (i i2 : Int), i + 1074 ≥ 0 ∧ i2 + 1074 ≥ 0 ∧ m * 2 ^ (i + 1074).toNat = fval Ieee.double (frung Ieee.double (pin x)) ∧ m2 * 2 ^ (i2 + 1074).toNat = fval Ieee.double (frung Ieee.double (FloatKind.f64.nearest n)) ∧
        r = Ieee.double.nearest s (m * m2) (i + i2) := by
  obtain ⟨nx, h0, n0, n1⟩ := h
  have hp := pin_low hx nx h0
  obtain ⟨hi, hin⟩ := int_low n (by omega)
  obtain ⟨m, i, e, _, hi1, hv⟩ := low_num hp (by decide) (by decide) 0 (by decide)
  obtain ⟨m2, i2, e2, _, hi2, hv2⟩ := low_num hi (by decide) (by decide) 32 (by decide)
  obtain ⟨r, er, hr⟩ := mul_low hp hi
  have er' : r = Ieee.double.nearest (fneg Ieee.double (pin x) ^^ fneg Ieee.double (FloatKind.f64.nearest n)) (m * m2) (i + i2) := by
    unfold Format.mul at er
    rw [e, e2] at er
    exact (Option.some.inj er).symm
  refine ⟨r, hr, ?_, _, m, m2, i, i2, hi1, hi2, hv, hv2, er'⟩
  have hs : fneg Ieee.double r = false ∨ frung Ieee.double r = 0 := by
    rw [hin] at er'
    cases hneg : fneg Ieee.double (pin x)
    · rw [hneg] at er'
      left
      rw [er']
      have hlog : ∃ T : Int, i + i2 + ((m * m2).log2 : Int) ≤ T ∧ Ieee.double.leastPlace ≤ T - Ieee.double.fractionBits := ⟨max (i + i2 + ((m * m2).log2 : Int)) 0, by omega, by rw [d_least, d_frac]; omega⟩
      obtain ⟨T, t1, t2⟩ := hlog
      exact (nearest_le t1 t2).2.2
    · right
      -- below zero there is -0 alone
      have hk : frung Ieee.double (pin x) = 0 := by
        have hpx : pin x = x := by
          unfold pin at hneg ⊢
          split
          · rename_i c1
            rw [if_pos c1] at hneg
            exact absurd hneg (by decide)
          · rfl
        rw [hpx] at hneg ⊢
        rw [fneg_w hx] at hneg
        have h4 := (order_w hx (b := 0) (by decide) nx (by decide)).1
        have c2 : ¬ keyW x < keyW 0 := fun h => h0 (h4.2 h)
        rw [show keyW 0 = 0 from rfl] at c2
        have hge : 9223372036854775808 ≤ x := by simpa [negW] using hneg
        unfold keyW at c2
        rw [if_pos hge] at c2
        rw [frung_w]; omega
      rw [hk, fval_zero] at hv
      have hm : m = 0 := by
        rcases Nat.mul_eq_zero.1 hv with h1 | h1
        · exact h1
        · have := Nat.two_pow_pos (i + 1074).toNat; omega
      subst hm
      rw [er', Nat.zero_mul]
      unfold Format.nearest
      rw [if_pos rfl, (word_rung (Nat.two_pow_pos _)).1]
  have hfv := floor_val hc hr (by decide) (by decide) hs
  have e1 : shareF x n = floorW r := by unfold shareF; rw [er]; rfl
  unfold shareN
  rw [e1, hfv]; rfl

/-- A GREATER SHARE IS NOT FEWER. -/
theorem share_mono {x y : Nat} (hx : x < 18446744073709551616) (hy : y < 18446744073709551616) {n : Nat} (h : Sharable x n) (h' : Sharable y n) (hle : frung Ieee.double (pin x) ≤ frung Ieee.double (pin y)) : shareN x n ≤ shareN y n := by
  obtain ⟨c, hc⟩ : ∃ c : Nat, c = 1074 := ⟨_, rfl⟩
  obtain ⟨r, _, e, s, m, m2, i, i2, hi, hi2, hv, hv2, er⟩ := share_val hx h c hc
  obtain ⟨r', _, e', s', m', m2', i', i2', hi', hi2', hv', hv2', er'⟩ := share_val hy h' c hc
  rw [e, e']
  have : frung Ieee.double r ≤ frung Ieee.double r' := by
    rw [er, er']
    refine nearest_mono (s := 2148) (e := (i + 1074).toNat + (i2 + 1074).toNat) (e' := (i' + 1074).toNat + (i2' + 1074).toNat) (by omega) (by omega) ?_
    rw [Nat.pow_add, Nat.pow_add]
    calc m * m2 * (2 ^ (i + 1074).toNat * 2 ^ (i2 + 1074).toNat) = m * 2 ^ (i + 1074).toNat * (m2 * 2 ^ (i2 + 1074).toNat) := by ac_rfl
      _ ≤ m' * 2 ^ (i' + 1074).toNat * (m2' * 2 ^ (i2' + 1074).toNat) := by
        rw [hv, hv', hv2, hv2']
        exact Nat.mul_le_mul_right _ ((fval_le _).2 hle)
      _ = _ := by ac_rfl
  have := (fval_le Ieee.double).2 this
  exact Int.ofNat_le.2 (Nat.div_le_div_right this)

theorem one_share (n : Nat) (hn : n ≤ 2147483647) : Sharable oneF n := ⟨by decide, by
  rw [(order_w (a := oneF) (b := 0) (by decide) (by decide) (by decide) (by decide)).1]; decide, by omega, by omega⟩

theorem pin_one : pin oneF = oneF := by unfold pin; split <;> rfl

/-- A number's share of all is all. -/
theorem share_all (n : Nat) (hn : n ≤ 2147483647) : shareN oneF n = n := by
  obtain ⟨c, hc⟩ : ∃ c : Nat, c = 1074 := ⟨_, rfl⟩
  obtain ⟨r, _, e, s, m, m2, i, i2, hi, hi2, hv, hv2, er⟩ := share_val (by decide) (one_share n hn) c hc
  have e0 : FloatKind.f64.nearest n = Ieee.double.nearest false n 0 := by
    show Ieee.double.nearest (decide ((n : Int) < 0)) (n : Int).natAbs 0 = _
    rw [decide_eq_false (by omega), Int.natAbs_natCast]
  have h53 : n < 2 ^ 53 := by omega
  rw [e0, int_exact false n c hc h53] at hv2
  have hone : fval Ieee.double (frung Ieee.double oneF) = 1 * 2 ^ c := by
    have e1 : frung Ieee.double oneF = frung Ieee.double (Ieee.double.nearest false 1 0) := by decide +kernel
    rw [e1, int_exact false 1 c hc (by decide)]
  rw [pin_one, hone] at hv
  have hpr : m * m2 * 2 ^ ((i + 1074).toNat + (i2 + 1074).toNat) = n * 2 ^ (c + c) := by
    rw [Nat.pow_add, Nat.pow_add]
    calc m * m2 * (2 ^ (i + 1074).toNat * 2 ^ (i2 + 1074).toNat) = m * 2 ^ (i + 1074).toNat * (m2 * 2 ^ (i2 + 1074).toNat) := by ac_rfl
      _ = 1 * 2 ^ c * (n * 2 ^ c) := by rw [hv, hv2]
      _ = n * (2 ^ c * 2 ^ c) := by rw [Nat.one_mul]; ac_rfl
  have hr : frung Ieee.double r = frung Ieee.double (Ieee.double.nearest false n 0) := by
    rw [er]
    apply Nat.le_antisymm
    · exact nearest_mono (s := 2148) (e := (i + 1074).toNat + (i2 + 1074).toNat) (e' := c + c) (by omega) (by omega) (Nat.le_of_eq hpr)
    · exact nearest_mono (s := 2148) (e := c + c) (e' := (i + 1074).toNat + (i2 + 1074).toNat) (by omega) (by omega) (Nat.le_of_eq hpr.symm)
  rw [e, hr, int_exact false n c hc h53, Nat.mul_div_cancel _ (Nat.two_pow_pos _)]

/-- The rung of a share. -/
theorem pin_key {x : Nat} (hx : x < 18446744073709551616) (nx : nanW x = false) (h0 : ¬ FLt x 0) : (frung Ieee.double (pin x) : Int) = min (keyW x) oneF := by
  obtain ⟨_, _, h3⟩ := order_w hx (b := oneF) (by decide) nx (by decide)
  have h4 := (order_w hx (b := 0) (by decide) nx (by decide)).1
  have c2 : ¬ keyW x < keyW 0 := fun h => h0 (h4.2 h)
  rw [show keyW 0 = 0 from rfl] at c2
  rw [show keyW oneF = oneF from rfl] at h3
  rw [frung_w]
  unfold pin
  split
  · rename_i c
    have := h3.1 c
    rw [show oneF % 9223372036854775808 = oneF from rfl]
    omega
  · rename_i c
    have c1 : ¬ (oneF : Int) < keyW x := fun h => c (h3.2 h)
    have ek : keyW x = if 9223372036854775808 ≤ x then -((x : Int) - 9223372036854775808) else x := rfl
    split at ek <;> omega

theorem share_cond {x : Nat} (hx : x < 18446744073709551616) {n : Int} (h0 : 0 ≤ n) (h1 : n ≤ 2147483647) : Sharable x n ↔ (FGt x 0 ∨ FEq x 0) := by
  constructor
  · rintro ⟨nx, h, _, _⟩
    obtain ⟨o1, o2, o3⟩ := order_w hx (b := 0) (by decide) nx (by decide)
    rw [o1] at h
    rw [o2, o3]; omega
  · intro h
    have nx : nanW x = false := by
      cases nx : nanW x
      · rfl
      · have := no_order (a := x) (b := 0) (.inl nx)
        rcases h with h | h
        · exact absurd h this.2.2
        · exact absurd h this.2.1
    obtain ⟨o1, o2, o3⟩ := order_w hx (b := 0) (by decide) nx (by decide)
    rw [o2, o3] at h
    exact ⟨nx, by rw [o1]; omega, h0, h1⟩

theorem share_top {w n : Nat} (hw : w < 18446744073709551616) (hn : n ≤ 2147483647) (h : Sharable w n) : 0 ≤ shareN w n ∧ shareN w n ≤ n := by
  refine ⟨?_, ?_⟩
  · obtain ⟨c, hc⟩ : ∃ c : Nat, c = 1074 := ⟨_, rfl⟩
    obtain ⟨r, _, e, _⟩ := share_val hw h c hc
    rw [e]; exact Int.natCast_nonneg _
  · have h1 := pin_low hw h.1 h.2.1
    have h2 : frung Ieee.double oneF = 1023 * Ieee.double.binade := by rw [← one_low]; decide
    have h3 := share_mono hw (by decide) h (one_share n hn) (by rw [pin_one, h2]; exact h1)
    rwa [share_all n hn] at h3

set_option maxHeartbeats 1000000 in
theorem nrises_law (H : Heap) (n0 : Int) (_ : (Lit.int .i64 n0).wf = true) (n1 : Int) (_ : (Lit.int .i64 n1).wf = true) (x : Nat) (wx : (Lit.float .f64 x).wf = true) (y : Nat) (wy : (Lit.float .f64 y).wf = true) (n2 : Int) (_ : (Lit.int .i64 n2).wf = true) :
    Does Try.prog 6 [.int .i64 n0, .int .i64 n1, .float .f64 x, .float .f64 y, .int .i64 n2] H fun v H' => v = .bool true ∧ Ext [] H H' := by
  have hx : x < 18446744073709551616 := by simpa [Lit.wf] using wx
  have hy : y < 18446744073709551616 := by simpa [Lit.wf] using wy
  refine Fn_of_vc Try.mixed (vc_nrises _ _ _ _ _ _ _) ?_
  refine (time_ok n0 hx H).mono ?_
  rintro _ H2 ⟨p, rfl, hp, hx2⟩
  refine ⟨_, rfl, (time_ok n1 hy H2).mono ?_⟩
  rintro _ H5 ⟨q, rfl, hq, hx5⟩
  refine ⟨_, rfl, (pick_ok n2 2147483648 H5 (by decide) (by decide)).mono ?_⟩
  rintro _ _ ⟨rfl, rfl⟩
  have p0 := Int.emod_nonneg n2 (show (2147483648 : Int) ≠ 0 by decide)
  have p1 := Int.emod_lt_of_pos n2 (show (0 : Int) < 2147483648 by decide)
  obtain ⟨n, hn⟩ : ∃ n : Nat, n2 % 2147483648 = n := ⟨(n2 % 2147483648).toNat, by omega⟩
  rw [hn] at p1 ⊢
  have cp := share_cond hp (n := n) (by omega) (by omega)
  have cq := share_cond hq (n := n) (by omega) (by omega)
  have hone := one_share n (by omega)
  have hall := share_all n (by omega)
  have top : ∀ {w : Nat}, w < 18446744073709551616 → Sharable w n → 0 ≤ shareN w n ∧ shareN w n ≤ n := fun hw h => share_top hw (by omega) h
  refine ⟨_, rfl, (share_ok hp n H5).mono ?_⟩
  rintro vp _ ⟨rfl, hvp⟩
  obtain ⟨j, ok, rfl, hj⟩ : ∃ (j : Int) (ok : Bool), vp = .tuple #[.int .i64 j, .bool ok] ∧ ((Sharable p n ∧ j = shareN p n ∧ ok = true) ∨ (¬ Sharable p n ∧ j = 0 ∧ ok = false)) := by
    rcases hvp with ⟨h, rfl⟩ | ⟨h, rfl⟩
    · exact ⟨_, _, rfl, .inl ⟨h, rfl, rfl⟩⟩
    · exact ⟨_, _, rfl, .inr ⟨h, rfl, rfl⟩⟩
  refine ⟨_, _, rfl, (share_ok hq n H5).mono ?_⟩
  rintro vq _ ⟨rfl, hvq⟩
  obtain ⟨k, is, rfl, hk⟩ : ∃ (j : Int) (ok : Bool), vq = .tuple #[.int .i64 j, .bool ok] ∧ ((Sharable q n ∧ j = shareN q n ∧ ok = true) ∨ (¬ Sharable q n ∧ j = 0 ∧ ok = false)) := by
    rcases hvq with ⟨h, rfl⟩ | ⟨h, rfl⟩
    · exact ⟨_, _, rfl, .inl ⟨h, rfl, rfl⟩⟩
    · exact ⟨_, _, rfl, .inr ⟨h, rfl, rfl⟩⟩
  refine ⟨_, _, rfl, (share_ok (x := oneF) (by decide) n H5).mono ?_⟩
  rintro _ _ ⟨rfl, ⟨_, rfl⟩ | ⟨h, _⟩⟩
  rotate_left
  · exact absurd hone h
  refine ⟨_, _, rfl, (known2_ok H5).mono ?_⟩
  rintro _ H23 ⟨rfl, hx23⟩
  have hxx : Ext [] H H23 := (hx2.trans hx5).trans hx23
  have okp : (ok = true) ↔ (FGt p 0 ∨ FEq p 0) := by
    rw [← cp]
    rcases hj with ⟨h, _, h2⟩ | ⟨h, _, h2⟩ <;> simp [h, h2]
  have okq : (is = true) ↔ (FGt q 0 ∨ FEq q 0) := by
    rw [← cq]
    rcases hk with ⟨h, _, h2⟩ | ⟨h, _, h2⟩ <;> simp [h, h2]
  have jr : 0 ≤ j ∧ j ≤ n := by
    rcases hj with ⟨h, rfl, _⟩ | ⟨_, rfl, _⟩
    · exact top hp h
    · omega
  have fin : ∀ {P : Prop}, ¬ FGt p q → ok = true → is = true → j ≤ k := fun {P} hg ho hi => by
    rcases hj with ⟨h, rfl, _⟩ | ⟨_, _, h2⟩
    · rcases hk with ⟨h', rfl, _⟩ | ⟨_, _, h2⟩
      · refine share_mono hp hq h h' ?_
        have e1 := pin_key hp h.1 h.2.1
        have e2 := pin_key hq h'.1 h'.2.1
        rw [(order_w hp hq h.1 h'.1).2.2] at hg
        omega
      · rw [h2] at hi; cases hi
    · rw [h2] at ho; cases ho
  have last : (((is = false) → (Value.bool true = .bool true ∧ Ext [] H H23)) ∧ (¬ (is = false) → (((FGt p q) → (Value.bool true = .bool true ∧ Ext [] H H23)) ∧ (¬ (FGt p q) → (Value.bool (@decide ((j : Int) ≤ k) (Classical.propDecidable _)) = .bool true ∧ Ext [] H H23))))) ∨ ok = false := by
    cases ho : ok
    · exact .inr rfl
    · exact .inl ⟨fun _ => ⟨rfl, hxx⟩, fun hi => ⟨fun _ => ⟨rfl, hxx⟩, fun hg => ⟨yes (fin (P := True) hg ho (by simpa using hi)), hxx⟩⟩⟩
  refine ⟨_, rfl, fun h => (by cases h), fun _ => ⟨fun h => absurd okp h, fun _ => ⟨fun h => absurd okq h, fun _ => ⟨fun h => (by cases h), fun _ => ⟨fun h => absurd hall h, fun _ => ⟨fun h => (by omega), fun _ => ⟨fun h => (by omega), fun _ => ⟨fun ho => ⟨fun h => ?_, fun _ => ⟨fun _ => ⟨rfl, hxx⟩, fun h => absurd ho h⟩⟩, fun ho => ⟨fun h => absurd h ho, fun _ => ?_⟩⟩⟩⟩⟩⟩⟩⟩⟩
  · rcases hj with ⟨_, _, h2⟩ | ⟨_, h2, _⟩
    · rw [h2] at ho; cases ho
    · exact absurd h2 h
  · rcases last with h | h
    · exact h
    · exact absurd h ho
end Go.Proofs
end

