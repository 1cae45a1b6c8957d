/-
  Numbers by their words, their texts of sixteen digits, and the contracts of the functions that print and parse them. No condition.
-/
import Derived.Test.YtppjhnepmolboaaDoorVd
import Derived.Test.YtppjhnepmolboaaDoorProg

section
open Go Go.Vc
namespace Go.Proofs
open Ieee

def fneg (f : Format) (w : Nat) : Bool := w / f.signWeight % 2 == 1
def frung (f : Format) (w : Nat) : Nat := w % f.signWeight
/-- A rung's number, in units of the least one. -/
def fval (f : Format) (r : Nat) : Nat := if r < f.binade then r else (f.binade + r % f.binade) * 2 ^ (r / f.binade - 1)
/-- What a word is worth in the order of numbers. -/
def fkey (f : Format) (w : Nat) : Int := if fneg f w then -(frung f w : Int) else frung f w

theorem binade_pos (f : Format) : 0 < f.binade := Nat.two_pow_pos _

theorem fval_step (f : Format) (r : Nat) : fval f r < fval f (r + 1) := by
  have hb := binade_pos f
  unfold fval
  generalize f.binade = B at *
  by_cases h1 : r + 1 < B
  · rw [if_pos (by omega), if_pos h1]; omega
  · rw [if_neg h1]
    by_cases h2 : r < B
    · have e : r + 1 = B := by omega
      rw [if_pos h2, e, Nat.mod_self, Nat.div_self hb]
      simp; omega
    · rw [if_neg h2]
      have hq : 1 ≤ r / B := (Nat.le_div_iff_mul_le hb).2 (by omega)
      have hd := Nat.div_add_mod r B
      have hm := Nat.mod_lt r hb
      by_cases h3 : r % B + 1 < B
      · have e1 : (r + 1) / B = r / B := by
          rw [Nat.div_eq_iff hb]
          constructor
          · rw [Nat.mul_comm]; omega
          · rw [Nat.mul_comm]; omega
        have e2 : (r + 1) % B = r % B + 1 := by
          have := Nat.div_add_mod (r + 1) B
          rw [e1] at this; omega
        rw [e1, e2]
        exact Nat.mul_lt_mul_of_pos_right (by omega) (Nat.two_pow_pos _)
      · have e1 : (r + 1) / B = r / B + 1 := by
          have e : r + 1 = B * (r / B + 1) := by rw [Nat.mul_add]; omega
          rw [e, Nat.mul_div_cancel_left _ hb]
        have e2 : (r + 1) % B = 0 := by
          have := Nat.div_add_mod (r + 1) B
          rw [e1, Nat.mul_add] at this; omega
        rw [e1, e2]
        obtain ⟨q, hq'⟩ : ∃ q, r / B = q + 1 := ⟨r / B - 1, by omega⟩
        rw [hq', Nat.add_sub_cancel, Nat.add_sub_cancel, Nat.pow_succ, Nat.mul_comm (2 ^ q) 2, ← Nat.mul_assoc]
        exact Nat.mul_lt_mul_of_pos_right (by omega) (Nat.two_pow_pos _)

theorem fval_lt (f : Format) {r s : Nat} (h : r < s) : fval f r < fval f s := by
  induction s with
  | zero => omega
  | succ s ih =>
    have := fval_step f s
    by_cases h1 : r < s
    · have := ih h1; omega
    · have : r = s := by omega
      subst this; exact fval_step f r

theorem fval_le (f : Format) {r s : Nat} : fval f r ≤ fval f s ↔ r ≤ s := by
  constructor
  · intro h
    by_cases h1 : r ≤ s
    · exact h1
    · have := fval_lt f (show s < r by omega); omega
  · intro h
    by_cases h1 : r = s
    · subst h1; exact Nat.le_refl _
    · exact Nat.le_of_lt (fval_lt f (by omega))

theorem fval_zero (f : Format) : fval f 0 = 0 := by
  unfold fval
  rw [if_pos (binade_pos f)]

theorem read_fin {f : Format} {w : Nat} (h : frung f w < f.infRung) : ∃ (m k : Nat), f.read w = .number (fneg f w) m (f.leastPlace + k) ∧ m * 2 ^ k = fval f (frung f w) := by
  unfold Format.read fval
  show ∃ m k : Nat, (if frung f w < f.binade then _ else _) = _ ∧ _
  by_cases h1 : frung f w < f.binade
  · refine ⟨frung f w, 0, ?_, ?_⟩
    · rw [if_pos h1]; simp [frung, fneg]
    · rw [if_pos h1]; simp
  · refine ⟨f.binade + frung f w % f.binade, frung f w / f.binade - 1, ?_, ?_⟩
    · rw [if_neg h1]; simp only [frung] at h ⊢; rw [if_pos h]; rfl
    · rw [if_neg h1]
theorem read_inf {f : Format} {w : Nat} (h : frung f w = f.infRung) (hb : f.binade ≤ f.infRung) : f.read w = .infinity (fneg f w) := by
  unfold Format.read
  show (if frung f w < f.binade then _ else _) = _
  rw [if_neg (by omega)]
  simp only [frung] at h ⊢
  rw [if_neg (by omega), if_pos h]; rfl
theorem read_nan {f : Format} {w : Nat} (h : f.infRung < frung f w) (hb : f.binade ≤ f.infRung) : f.read w = .nan (fneg f w) (frung f w - f.infRung) := by
  unfold Format.read
  show (if frung f w < f.binade then _ else _) = _
  rw [if_neg (by omega)]
  simp only [frung] at h ⊢
  rw [if_neg (by omega), if_neg (by omega)]; rfl

theorem cmp_int (a b : Int) : (compare a b = .lt ↔ a < b) ∧ (compare a b = .eq ↔ a = b) ∧ (compare a b = .gt ↔ b < a) := by
  simp only [compare, compareOfLessAndEq]
  refine ⟨?_, ?_, ?_⟩ <;> (split <;> (try split) <;> simp <;> omega)

/-- A number's worth, in units of the least one. -/
def fsv (f : Format) (w : Nat) : Int := if fneg f w then -(fval f (frung f w) : Int) else fval f (frung f w)

theorem fsv_key (f : Format) (a b : Nat) : (fsv f a < fsv f b ↔ fkey f a < fkey f b) ∧ (fsv f a = fsv f b ↔ fkey f a = fkey f b) := by
  have h1 := fval_le f (r := frung f a) (s := frung f b)
  have h2 := fval_le f (r := frung f b) (s := frung f a)
  have h3 := fval_le f (r := frung f a) (s := 0)
  have h4 := fval_le f (r := frung f b) (s := 0)
  rw [fval_zero] at h3 h4
  unfold fsv fkey
  cases fneg f a <;> cases fneg f b <;> simp only [Bool.false_eq_true, if_true, if_false] <;> constructor <;> constructor <;> intro h <;> omega

theorem order_fin {f : Format} {a b : Nat} (ha : frung f a < f.infRung) (hb : frung f b < f.infRung) : ∃ D : Int, 0 < D ∧ ∃ x y : Int, f.order a b = some (compare x y) ∧ x * D = fsv f a ∧ y * D = fsv f b := by
  obtain ⟨m, k, e1, v1⟩ := read_fin ha
  obtain ⟨n, l, e2, v2⟩ := read_fin hb
  refine ⟨((2 ^ min k l : Nat) : Int), by have := Nat.two_pow_pos (min k l); omega, _, _, by unfold Format.order; rw [e1, e2]; rfl, ?_, ?_⟩
  · have ek : (f.leastPlace + k - min (f.leastPlace + k) (f.leastPlace + l)).toNat = k - min k l := by omega
    rw [ek]
    unfold signed fsv
    rw [Nat.shiftLeft_eq, ← v1]
    have : m * 2 ^ (k - min k l) * 2 ^ min k l = m * 2 ^ k := by
      rw [Nat.mul_assoc, ← Nat.pow_add]; congr 2; omega
    have h2 : ((m * 2 ^ (k - min k l) : Nat) : Int) * ((2 ^ min k l : Nat) : Int) = ((m * 2 ^ k : Nat) : Int) := by rw [← this]; exact (Int.natCast_mul _ _).symm
    split
    · rw [Int.neg_mul, h2]
    · exact h2
  · have ek : (f.leastPlace + l - min (f.leastPlace + k) (f.leastPlace + l)).toNat = l - min k l := by omega
    rw [ek]
    unfold signed fsv
    rw [Nat.shiftLeft_eq, ← v2]
    have : n * 2 ^ (l - min k l) * 2 ^ min k l = n * 2 ^ l := by
      rw [Nat.mul_assoc, ← Nat.pow_add]; congr 2; omega
    have h2 : ((n * 2 ^ (l - min k l) : Nat) : Int) * ((2 ^ min k l : Nat) : Int) = ((n * 2 ^ l : Nat) : Int) := by rw [← this]; exact (Int.natCast_mul _ _).symm
    split
    · rw [Int.neg_mul, h2]
    · exact h2

/-- THE ORDER OF NUMBERS, by their words. -/
theorem order_key {f : Format} (hbi : f.binade ≤ f.infRung) {a b : Nat} (ha : frung f a ≤ f.infRung) (hb : frung f b ≤ f.infRung) : ∃ o, f.order a b = some o ∧ (o = .lt ↔ fkey f a < fkey f b) ∧ (o = .eq ↔ fkey f a = fkey f b) ∧ (o = .gt ↔ fkey f b < fkey f a) := by
  have hpos : 0 < f.infRung := Nat.lt_of_lt_of_le (binade_pos f) hbi
  by_cases h1 : frung f a < f.infRung
  · by_cases h2 : frung f b < f.infRung
    · obtain ⟨D, hD, x, y, e, ex, ey⟩ := order_fin h1 h2
      refine ⟨_, e, ?_⟩
      obtain ⟨c1, c2, c3⟩ := cmp_int x y
      rw [c1, c2, c3]
      obtain ⟨k1, k2⟩ := fsv_key f a b
      obtain ⟨k3, _⟩ := fsv_key f b a
      rw [← k1, ← k2, ← k3, ← ex, ← ey]
      exact ⟨(Int.mul_lt_mul_right hD).symm, (Int.mul_eq_mul_right_iff (by omega)).symm, (Int.mul_lt_mul_right hD).symm⟩
    · have e2 : frung f b = f.infRung := by omega
      obtain ⟨m, k, e1, v1⟩ := read_fin h1
      refine ⟨_, by unfold Format.order; rw [e1, read_inf e2 hbi]; rfl, ?_⟩
      unfold fkey
      cases fneg f b <;> cases fneg f a <;> simp <;> omega
  · have e1 : frung f a = f.infRung := by omega
    by_cases h2 : frung f b < f.infRung
    · obtain ⟨m, k, e2, v2⟩ := read_fin h2
      refine ⟨_, by unfold Format.order; rw [read_inf e1 hbi, e2]; rfl, ?_⟩
      unfold fkey
      cases fneg f b <;> cases fneg f a <;> simp <;> omega
    · have e2 : frung f b = f.infRung := by omega
      refine ⟨_, by unfold Format.order; rw [read_inf e1 hbi, read_inf e2 hbi]; rfl, ?_⟩
      unfold fkey
      cases fneg f b <;> cases fneg f a <;> simp [compare, compareOfLessAndEq] <;> omega
end Go.Proofs
namespace Go.Proofs
open Ieee
/-! ### Words of 64 bits -/
theorem d_sign : Ieee.double.signWeight = 9223372036854775808 := by decide
theorem d_inf : Ieee.double.infRung = 9218868437227405312 := by decide +kernel
theorem d_bin : Ieee.double.binade = 4503599627370496 := by decide
theorem d_bi : Ieee.double.binade ≤ Ieee.double.infRung := by rw [d_inf, d_bin]; omega

/-- A NaN's word. -/
def nanW (w : Nat) : Bool := decide (9218868437227405312 < w % 9223372036854775808)
def negW (w : Nat) : Bool := decide (9223372036854775808 ≤ w)
def keyW (w : Nat) : Int := if 9223372036854775808 ≤ w then -((w : Int) - 9223372036854775808) else w

theorem fneg_w {w : Nat} (h : w < 18446744073709551616) : fneg Ieee.double w = negW w := by
  unfold fneg negW
  rw [d_sign]
  by_cases h1 : 9223372036854775808 ≤ w
  · have : w / 9223372036854775808 = 1 := by omega
    rw [this, decide_eq_true h1]; rfl
  · have : w / 9223372036854775808 = 0 := by omega
    rw [this, decide_eq_false h1]; rfl

theorem frung_w (w : Nat) : frung Ieee.double w = w % 9223372036854775808 := by unfold frung; rw [d_sign]

theorem fkey_w {w : Nat} (h : w < 18446744073709551616) : fkey Ieee.double w = keyW w := by
  unfold fkey keyW
  rw [fneg_w h, frung_w, negW]
  by_cases h1 : 9223372036854775808 ≤ w
  · rw [decide_eq_true h1, if_pos rfl, if_pos h1]; omega
  · rw [decide_eq_false h1, if_neg (by simp), if_neg h1]; omega

theorem fnan_w (w : Nat) : FNan w ↔ nanW w = true := by
  unfold FNan nanW
  rw [decide_eq_true_eq]
  have hr := frung_w w
  have hi := d_inf
  by_cases h1 : frung Ieee.double w < Ieee.double.infRung
  · obtain ⟨m, k, e, _⟩ := read_fin h1
    rw [e]
    simp [Datum.isNaN]; omega
  · by_cases h2 : frung Ieee.double w = Ieee.double.infRung
    · rw [read_inf h2 d_bi]
      simp [Datum.isNaN]; omega
    · rw [read_nan (by omega) d_bi]
      simp [Datum.isNaN]; omega

theorem order_nan {a b : Nat} (h : nanW a = true ∨ nanW b = true) : Ieee.double.order a b = none := by
  rw [← fnan_w, ← fnan_w] at h
  unfold FNan at h
  unfold Format.order
  generalize Ieee.double.read a = x at *
  generalize Ieee.double.read b = y at *
  cases x <;> cases y <;> simp_all [Datum.isNaN, Datum.order]

theorem order_w {a b : Nat} (ha : a < 18446744073709551616) (hb : b < 18446744073709551616) (na : nanW a = false) (nb : nanW b = false) : (FLt a b ↔ keyW a < keyW b) ∧ (FEq a b ↔ keyW a = keyW b) ∧ (FGt a b ↔ keyW b < keyW a) := by
  have hna : ¬ (9218868437227405312 < a % 9223372036854775808) := by simpa [nanW] using na
  have hnb : ¬ (9218868437227405312 < b % 9223372036854775808) := by simpa [nanW] using nb
  obtain ⟨o, e, h1, h2, h3⟩ := order_key d_bi (a := a) (b := b) (by rw [frung_w, d_inf]; omega) (by rw [frung_w, d_inf]; omega)
  rw [fkey_w ha, fkey_w hb] at h1 h2 h3
  unfold FLt FEq FGt
  rw [e]
  simp only [Option.some.injEq]
  exact ⟨h1, h2, h3⟩

theorem no_order {a b : Nat} (h : nanW a = true ∨ nanW b = true) : ¬ FLt a b ∧ ¬ FEq a b ∧ ¬ FGt a b := by
  unfold FLt FEq FGt
  rw [order_nan h]
  simp
end Go.Proofs
end

section
open Go Go.Vc
namespace Go.Proofs
set_option maxRecDepth 100000
/-- math.IsNaN -/
theorem vc_isnan (x0 : Nat) (H : Heap) (R : Value → Heap → Prop) : Walk Tryd.prog 30 [] [(.float .f64 x0)] H R = (
  R (.bool (@decide (¬ FEq x0 x0) (Classical.propDecidable _))) H) := by kernel_rfl


/-- cmp.isNaN[float64] -/
theorem vc_isnanf (x0 : Nat) (H : Heap) (R : Value → Heap → Prop) : Walk Tryd.prog 37 [] [(.float .f64 x0)] H R = (
  R (.bool (@decide (¬ FEq x0 x0) (Classical.propDecidable _))) H) := by kernel_rfl


/-- cmp.isNaN[int] -/
theorem vc_isnani (x0 : Int) (H : Heap) (R : Value → Heap → Prop) : Walk Tryd.prog 36 [] [(.int .i64 x0)] H R = (
  R (.bool (@decide ((x0 : Int) ≠ x0) (Classical.propDecidable _))) H) := by kernel_rfl


/-- math.NaN -/
theorem vc_nan (H : Heap) (R : Value → Heap → Prop) : Walk Tryd.prog 20 [] [] H R = (
  R (.float .f64 (Int.toNat 9221120237041090561)) H) := by kernel_rfl


/-- math.Inf -/
theorem vc_inf (x0 : Int) (H : Heap) (R : Value → Heap → Prop) : Walk Tryd.prog 18 [] [(.int .i64 x0)] H R = (
  ((((0 : Int) ≤ x0) → (
        R (.float .f64 (Int.toNat 9218868437227405312)) H)) ∧ (¬ ((0 : Int) ≤ x0) → (
        R (.float .f64 (Int.toNat 18442240474082181120)) H)))) := by kernel_rfl


/-- math.Signbit -/
theorem vc_signbit (x0 : Nat) (H : Heap) (R : Value → Heap → Prop) : Walk Tryd.prog 35 [] [(.float .f64 x0)] H R = (
  ∀ q1 : Int, q1 = IntKind.wrap .i64 (x0 : Nat) → (
    R (.bool (@decide ((q1 : Int) < 0) (Classical.propDecidable _))) H)) := by kernel_rfl


/-- math.Copysign -/
theorem vc_copysign (x0 : Nat) (x1 : Nat) (H : Heap) (R : Value → Heap → Prop) : Walk Tryd.prog 19 [] [(.float .f64 x0), (.float .f64 x1)] H R = (
  ∀ q1 : Int, q1 = bits .andNot .u64 (x0 : Nat) 9223372036854775808 → (
    ∀ q2 : Int, q2 = bits .and .u64 (x1 : Nat) 9223372036854775808 → (
      ∀ q3 : Int, q3 = bits .or .u64 q1 q2 → (
        R (.float .f64 (Int.toNat q3)) H)))) := by kernel_rfl


/-- math.Floor -/
theorem vc_floor (x0 : Nat) (H : Heap) (R : Value → Heap → Prop) : Walk Tryd.prog 31 [] [(.float .f64 x0)] H R = (
  (¬ FNan x0) ∧ ∀ f1 : Nat, f1 = FloatKind.encode .f64 (Ieee.Datum.integral .down (Ieee.Format.read Ieee.double x0)) → (
    R (.float .f64 f1) H)) := by kernel_rfl


/-- pentimento/pentimentohand.Pick -/
theorem vc_pick (x0 : Int) (x1 : Int) (H : Heap) (R : Value → Heap → Prop) : Walk Tryd.prog 9 [] [(.int .i64 x0), (.int .i64 x1)] H R = (
  ((x1 : Int) ≠ 0) ∧
  ∀ q1 : Int, q1 = Int.tmod x0 x1 → (
    ((((q1 : Int) < 0) → (
          (In64 (q1 + x1)) ∧
          R (.int .i64 (q1 + x1)) H)) ∧ (¬ ((q1 : Int) < 0) → (
          R (.int .i64 q1) H))))) := by kernel_rfl


/-- pentimento/pentimentohand.Time -/
theorem vc_time (x0 : Int) (x1 : Nat) (H : Heap) (R : Value → Heap → Prop) : Walk Tryd.prog 6 [] [(.int .i64 x0), (.float .f64 x1)] H R = (
  Does Tryd.prog 19 [(.float .f64 0), (.float .f64 13830554455654793216)] H fun v1 H2 => ∃ f3 : Nat, v1 = (.float .f64 f3) ∧ (
    Does Tryd.prog 18 [(.int .i64 1)] H2 fun v4 H5 => ∃ f6 : Nat, v4 = (.float .f64 f6) ∧ (
      Does Tryd.prog 18 [(.int .i64 (-1))] H5 fun v7 H8 => ∃ f9 : Nat, v7 = (.float .f64 f9) ∧ (
        Does Tryd.prog 20 [] H8 fun v10 H11 => ∃ f12 : Nat, v10 = (.float .f64 f12) ∧ (
          ∀ b13 : Nat, ∀ H14 : Heap, New H11 b13 [(.float .f64 0), (.float .f64 0), (.float .f64 0), (.float .f64 0), (.float .f64 0), (.float .f64 0), (.float .f64 0), (.float .f64 0), (.float .f64 0), (.float .f64 0), (.float .f64 0), (.float .f64 0)] 44 H14 → (
            Cells H14 b13 0 12 ∧ ∀ H15 : Heap, Puts H14 b13 0 [(.float .f64 0), (.float .f64 f3), (.float .f64 4607182418800017408), (.float .f64 13830554455654793216), (.float .f64 f6), (.float .f64 f9), (.float .f64 f12), (.float .f64 4612811918334230528), (.float .f64 1), (.float .f64 9223372036854775809), (.float .f64 9218868437227405311), (.float .f64 (Int.toNat 18444492273895866373))] H15 → (
              Does Tryd.prog 9 [(.int .i64 x0), (.int .i64 15)] H15 fun v16 H17 => ∃ n18 : Int, v16 = (.int .i64 n18) ∧ (
                ((((n18 : Int) < 12) → (
                      (0 : Int) ≤ n18 ∧ (n18 : Int) < (12 : Nat) ∧ (
                        ∃ f19 : Nat, hcell H17 b13 (0 + (Int.toNat n18)) = some (.float .f64 f19) ∧ (
                          R (.float .f64 f19) H17)))) ∧ (¬ ((n18 : Int) < 12) → (
                      R (.float .f64 x1) H17))))))))))) := by kernel_rfl


/-- pentimento/num.sides -/
theorem vc_sides (x0 : Nat) (H : Heap) (R : Value → Heap → Prop) : Walk Tryd.prog 26 [] [(.float .f64 x0)] H R = (
  Does Tryd.prog 30 [(.float .f64 x0)] H fun v1 H2 => ∃ t3 : Bool, v1 = (.bool t3) ∧ (
    ((t3 = true → (
          R (.tuple #[(.int .i64 1), (.int .i64 0)]) H2)) ∧ (t3 = false → (
          (((FEq x0 0) → (
                Does Tryd.prog 35 [(.float .f64 x0)] H2 fun v4 H5 => ∃ t6 : Bool, v4 = (.bool t6) ∧ (
                  ((t6 = true → (
                        R (.tuple #[(.int .i64 0), (.int .i64 (-1))]) H5)) ∧ (t6 = false → (
                        R (.tuple #[(.int .i64 0), (.int .i64 0)]) H5)))))) ∧ (¬ (FEq x0 0) → (
                R (.tuple #[(.int .i64 0), (.int .i64 0)]) H2)))))))) := by kernel_rfl


/-- cmp.Compare[int] -/
theorem vc_cmpi (x0 : Int) (x1 : Int) (H : Heap) (R : Value → Heap → Prop) : Walk Tryd.prog 27 [] [(.int .i64 x0), (.int .i64 x1)] H R = (
  Does Tryd.prog 36 [(.int .i64 x0)] H fun v1 H2 => ∃ t3 : Bool, v1 = (.bool t3) ∧ (
    Does Tryd.prog 36 [(.int .i64 x1)] H2 fun v4 H5 => ∃ t6 : Bool, v4 = (.bool t6) ∧ (
      ((t3 = true → (
            ((t6 = true → (
                  R (.int .i64 0) H5)) ∧ (t6 = false → (
                  R (.int .i64 (-1)) H5))))) ∧ (t3 = false → (
            ((t6 = true → (
                  R (.int .i64 1) H5)) ∧ (t6 = false → (
                  ((((x0 : Int) < x1) → (
                        R (.int .i64 (-1)) H5)) ∧ (¬ ((x0 : Int) < x1) → (
                        ((((x1 : Int) < x0) → (
                              R (.int .i64 1) H5)) ∧ (¬ ((x1 : Int) < x0) → (
                              R (.int .i64 0) H5))))))))))))))) := by kernel_rfl


/-- cmp.Compare[float64] -/
theorem vc_cmpf (x0 : Nat) (x1 : Nat) (H : Heap) (R : Value → Heap → Prop) : Walk Tryd.prog 29 [] [(.float .f64 x0), (.float .f64 x1)] H R = (
  Does Tryd.prog 37 [(.float .f64 x0)] H fun v1 H2 => ∃ t3 : Bool, v1 = (.bool t3) ∧ (
    Does Tryd.prog 37 [(.float .f64 x1)] H2 fun v4 H5 => ∃ t6 : Bool, v4 = (.bool t6) ∧ (
      ((t3 = true → (
            ((t6 = true → (
                  R (.int .i64 0) H5)) ∧ (t6 = false → (
                  R (.int .i64 (-1)) H5))))) ∧ (t3 = false → (
            ((t6 = true → (
                  R (.int .i64 1) H5)) ∧ (t6 = false → (
                  (((FLt x0 x1) → (
                        R (.int .i64 (-1)) H5)) ∧ (¬ (FLt x0 x1) → (
                        (((FGt x0 x1) → (
                              R (.int .i64 1) H5)) ∧ (¬ (FGt x0 x1) → (
                              R (.int .i64 0) H5))))))))))))))) := by kernel_rfl


/-- cmp.Or[int] -/
theorem vc_or (x0 : Option Addr) (x0l : Nat) (x0c : Nat) (H : Heap) (R : Value → Heap → Prop) : Walk Tryd.prog 28 [] [(.slice x0 x0l x0c)] H R = (
  ∃ I1 : Int → Heap → Prop, ∃ μ2 : Int → Heap → Nat, (I1 0 H) ∧
  ∀ n3 : Int, ∀ H4 : Heap, I1 n3 H4 → (
    ((((n3 : Int) < (x0l : Int)) → (
          (0 : Int) ≤ n3 ∧ (n3 : Int) < (x0l : Int) ∧ ∃ b5 o6 : Nat, x0 = some (⟨b5, o6, none⟩ : Addr) ∧ (
            ∃ n7 : Int, hcell H4 b5 (o6 + (Int.toNat n3)) = some (.int .i64 n7) ∧ (
              ((((n7 : Int) ≠ 0) → (
                    R (.int .i64 n7) H4)) ∧ (¬ ((n7 : Int) ≠ 0) → (
                    (In64 (n3 + 1)) ∧
                    (I1 (n3 + 1) H4) ∧ μ2 (n3 + 1) H4 < μ2 n3 H4))))))) ∧ (¬ ((n3 : Int) < (x0l : Int)) → (
          R (.int .i64 0) H4))))) := by kernel_rfl


/-- pentimento/num.Compare -/
theorem vc_compare (x0 : Nat) (x1 : Nat) (H : Heap) (R : Value → Heap → Prop) : Walk Tryd.prog 14 [] [(.float .f64 x0), (.float .f64 x1)] H R = (
  Does Tryd.prog 26 [(.float .f64 x0)] H fun v1 H2 => ∃ n3 : Int, ∃ n4 : Int, v1 = (.tuple #[(.int .i64 n3), (.int .i64 n4)]) ∧ (
    Does Tryd.prog 26 [(.float .f64 x1)] H2 fun v5 H6 => ∃ n7 : Int, ∃ n8 : Int, v5 = (.tuple #[(.int .i64 n7), (.int .i64 n8)]) ∧ (
      (In64 (n3 + n7)) ∧
      ((((0 : Int) < (n3 + n7)) → (
            Does Tryd.prog 27 [(.int .i64 n3), (.int .i64 n7)] H6 fun v9 H10 => ∃ n11 : Int, v9 = (.int .i64 n11) ∧ (
              R (.int .i64 n11) H10))) ∧ (¬ ((0 : Int) < (n3 + n7)) → (
            Does Tryd.prog 29 [(.float .f64 x0), (.float .f64 x1)] H6 fun v12 H13 => ∃ n14 : Int, v12 = (.int .i64 n14) ∧ (
              Does Tryd.prog 27 [(.int .i64 n4), (.int .i64 n8)] H13 fun v15 H16 => ∃ n17 : Int, v15 = (.int .i64 n17) ∧ (
                ∀ b18 : Nat, ∀ H19 : Heap, New H16 b18 [(.int .i64 n14), (.int .i64 n17)] 3 H19 → (
                  Does Tryd.prog 28 [(.slice (some (⟨b18, 0, none⟩ : Addr)) 2 2)] H19 fun v20 H21 => ∃ n22 : Int, v20 = (.int .i64 n22) ∧ (
                    R (.int .i64 n22) H21)))))))))) := by kernel_rfl


/-- pentimento/num.Same -/
theorem vc_same (x0 : Nat) (x1 : Nat) (H : Heap) (R : Value → Heap → Prop) : Walk Tryd.prog 15 [] [(.float .f64 x0), (.float .f64 x1)] H R = (
  Does Tryd.prog 14 [(.float .f64 x0), (.float .f64 x1)] H fun v1 H2 => ∃ n3 : Int, v1 = (.int .i64 n3) ∧ (
    R (.bool (@decide ((n3 : Int) = 0) (Classical.propDecidable _))) H2)) := by kernel_rfl


/-- pentimento/num.Plain -/
theorem vc_plain (x0 : Nat) (H : Heap) (R : Value → Heap → Prop) : Walk Tryd.prog 21 [] [(.float .f64 x0)] H R = (
  Does Tryd.prog 30 [(.float .f64 x0)] H fun v1 H2 => ∃ t3 : Bool, v1 = (.bool t3) ∧ (
    ((t3 = true → (
          R (.float .f64 (Int.toNat 9221120237041090561)) H2)) ∧ (t3 = false → (
          R (.float .f64 x0) H2))))) := by kernel_rfl


/-- pentimento/num.Later -/
theorem vc_later (x0 : Nat) (x1 : Nat) (H : Heap) (R : Value → Heap → Prop) : Walk Tryd.prog 16 [] [(.float .f64 x0), (.float .f64 x1)] H R = (
  Does Tryd.prog 14 [(.float .f64 x0), (.float .f64 x1)] H fun v1 H2 => ∃ n3 : Int, v1 = (.int .i64 n3) ∧ (
    ((((n3 : Int) < 0) → (
          Does Tryd.prog 21 [(.float .f64 x1)] H2 fun v4 H5 => ∃ f6 : Nat, v4 = (.float .f64 f6) ∧ (
            R (.float .f64 f6) H5))) ∧ (¬ ((n3 : Int) < 0) → (
          Does Tryd.prog 21 [(.float .f64 x0)] H2 fun v7 H8 => ∃ f9 : Nat, v7 = (.float .f64 f9) ∧ (
            R (.float .f64 f9) H8)))))) := by kernel_rfl


/-- pentimento/pentimentoref1.Bits -/
theorem vc_bits (x0 : Nat) (H : Heap) (R : Value → Heap → Prop) : Walk Tryd.prog 23 [] [(.float .f64 x0)] H R = (
  (((¬ FEq x0 x0) → (
        R (.int .u64 9221120237041090561) H)) ∧ (¬ (¬ FEq x0 x0) → (
        R (.int .u64 (x0 : Nat)) H)))) := by kernel_rfl


/-- pentimento/num.Share -/
theorem vc_share (x0 : Nat) (x1 : Int) (H : Heap) (R : Value → Heap → Prop) : Walk Tryd.prog 17 [] [(.float .f64 x0), (.int .i64 x1)] H R = (
  Does Tryd.prog 30 [(.float .f64 x0)] H fun v1 H2 => ∃ t3 : Bool, v1 = (.bool t3) ∧ (
    ((t3 = true → (
          R (.tuple #[(.int .i64 0), (.bool false)]) H2)) ∧ (t3 = false → (
          (((FLt x0 0) → (
                R (.tuple #[(.int .i64 0), (.bool false)]) H2)) ∧ (¬ (FLt x0 0) → (
                ((((x1 : Int) < 0) → (
                      R (.tuple #[(.int .i64 0), (.bool false)]) H2)) ∧ (¬ ((x1 : Int) < 0) → (
                      ((((2147483647 : Int) < x1) → (
                            R (.tuple #[(.int .i64 0), (.bool false)]) H2)) ∧ (¬ ((2147483647 : Int) < x1) → (
                            (¬ FNan x0) ∧ (¬ FNan 4607182418800017408) ∧ ∀ f4 : Nat, f4 = fMin x0 4607182418800017408 → (
                              ∀ f5 : Nat, f5 = FloatKind.nearest .f64 x1 → (
                                ∃ f6 : Nat, Ieee.Format.mul Ieee.double f4 f5 = some f6 ∧ (
                                  Does Tryd.prog 31 [(.float .f64 f6)] H2 fun v7 H8 => ∃ f9 : Nat, v7 = (.float .f64 f9) ∧ (
                                    ∃ n10 : Int, Ieee.Datum.toInt .zero (Ieee.Format.read Ieee.double f9) = some n10 ∧ In64 n10 ∧ (
                                      R (.tuple #[(.int .i64 n10), (.bool true)]) H8))))))))))))))))))) := by kernel_rfl


/-- pentimento/pentimentolaw2.known -/
theorem vc_known (H : Heap) (R : Value → Heap → Prop) : Walk Tryd.prog 12 [] [] H R = (
  Does Tryd.prog 19 [(.float .f64 0), (.float .f64 13830554455654793216)] H fun v1 H2 => ∃ f3 : Nat, v1 = (.float .f64 f3) ∧ (
    Does Tryd.prog 14 [(.float .f64 f3), (.float .f64 0)] H2 fun v4 H5 => ∃ n6 : Int, v4 = (.int .i64 n6) ∧ (
      ((((n6 : Int) = (-1)) → (
            Does Tryd.prog 20 [] H5 fun v7 H8 => ∃ f9 : Nat, v7 = (.float .f64 f9) ∧ (
              Does Tryd.prog 18 [(.int .i64 1)] H8 fun v10 H11 => ∃ f12 : Nat, v10 = (.float .f64 f12) ∧ (
                Does Tryd.prog 14 [(.float .f64 f9), (.float .f64 f12)] H11 fun v13 H14 => ∃ n15 : Int, v13 = (.int .i64 n15) ∧ (
                  ((((n15 : Int) = 1) → (
                        Does Tryd.prog 20 [] H14 fun v16 H17 => ∃ f18 : Nat, v16 = (.float .f64 f18) ∧ (
                          Does Tryd.prog 20 [] H17 fun v19 H20 => ∃ f21 : Nat, v19 = (.float .f64 f21) ∧ (
                            Does Tryd.prog 15 [(.float .f64 f18), (.float .f64 f21)] H20 fun v22 H23 => ∃ t24 : Bool, v22 = (.bool t24) ∧ (
                              R (.bool t24) H23))))) ∧ (¬ ((n15 : Int) = 1) → (
                        R (.bool false) H14)))))))) ∧ (¬ ((n6 : Int) = (-1)) → (
            R (.bool false) H5)))))) := by kernel_rfl


end Go.Proofs
end

section
open Go Go.Vc
namespace Go.Proofs

theorem Tryd.mixed : Tryd.prog.follows .mixedOrders = true := by kernel_rfl

theorem dec_eq {p : Prop} {i : Decidable p} {b : Bool} (h : p ↔ b = true) : @decide p i = b := by
  cases b
  · simp only [decide_eq_false_iff_not]; intro hp; exact absurd (h.1 hp) (by simp)
  · simpa using h

theorem feq_self {w : Nat} (h : w < 18446744073709551616) : FEq w w ↔ nanW w = false := by
  cases hn : nanW w
  · have := (order_w h h hn hn).2.1
    simp [this]
  · have := (no_order (a := w) (b := w) (.inl hn)).2.1
    simp [this]

theorem isnan_ok {w : Nat} (h : w < 18446744073709551616) (H : Heap) : Does Tryd.prog 30 [.float .f64 w] H fun v H' => v = .bool (nanW w) ∧ H = H' := by
  refine Fn_of_vc Tryd.mixed (vc_isnan _ _ _) ?_
  refine ⟨congrArg _ (dec_eq ?_), rfl⟩
  rw [feq_self h]; simp
theorem isnanf_ok {w : Nat} (h : w < 18446744073709551616) (H : Heap) : Does Tryd.prog 37 [.float .f64 w] H fun v H' => v = .bool (nanW w) ∧ H = H' := by
  refine Fn_of_vc Tryd.mixed (vc_isnanf _ _ _) ?_
  refine ⟨congrArg _ (dec_eq ?_), rfl⟩
  rw [feq_self h]; simp
theorem isnani_ok (n : Int) (H : Heap) : Does Tryd.prog 36 [.int .i64 n] H fun v H' => v = .bool false ∧ H = H' := by
  refine Fn_of_vc Tryd.mixed (vc_isnani _ _ _) ?_
  exact ⟨congrArg _ (dec_eq (by simp)), rfl⟩
theorem nan_ok (H : Heap) : Does Tryd.prog 20 [] H fun v H' => v = .float .f64 9221120237041090561 ∧ H = H' :=
  Fn_of_vc Tryd.mixed (vc_nan _ _) ⟨rfl, rfl⟩
theorem inf_ok (n : Int) (H : Heap) : Does Tryd.prog 18 [.int .i64 n] H fun v H' => v = .float .f64 (if 0 ≤ n then 9218868437227405312 else 18442240474082181120) ∧ H = H' := by
  refine Fn_of_vc Tryd.mixed (vc_inf _ _ _) ?_
  refine ⟨fun h => ⟨?_, rfl⟩, fun h => ⟨?_, rfl⟩⟩
  · rw [if_pos h]; rfl
  · rw [if_neg h]; rfl

theorem signbit_ok {w : Nat} (h : w < 18446744073709551616) (H : Heap) : Does Tryd.prog 35 [.float .f64 w] H fun v H' => v = .bool (negW w) ∧ H = H' := by
  refine Fn_of_vc Tryd.mixed (vc_signbit _ _ _) ?_
  rintro q rfl
  refine ⟨congrArg _ (dec_eq ?_), rfl⟩
  unfold negW
  rw [decide_eq_true_eq]
  simp only [IntKind.wrap, IntKind.bits, IntKind.signed, Bool.true_and, ge_iff_le, decide_eq_true_eq]
  split <;> omega

theorem copysign_ok (H : Heap) : Does Tryd.prog 19 [.float .f64 0, .float .f64 13830554455654793216] H fun v H' => v = .float .f64 9223372036854775808 ∧ H = H' := by
  refine Fn_of_vc Tryd.mixed (vc_copysign _ _ _ _) ?_
  rintro _ rfl _ rfl _ rfl
  refine ⟨?_, rfl⟩
  have : (bits .or .u64 (bits .andNot .u64 ((0 : Nat) : Int) 9223372036854775808) (bits .and .u64 ((13830554455654793216 : Nat) : Int) 9223372036854775808)) = 9223372036854775808 := by decide +kernel
  rw [this]; rfl

theorem pick_ok (n m : Int) (H : Heap) (hm : 0 < m) (hm' : m ≤ 1000000000000) : Does Tryd.prog 9 [.int .i64 n, .int .i64 m] H fun v H' => v = .int .i64 (n % m) ∧ H = H' := by
  refine Fn_of_vc Tryd.mixed (vc_pick _ _ _ _) ?_
  refine ⟨by omega, ?_⟩
  rintro q rfl
  have h1 := Int.tmod_lt_of_pos n hm
  have h2 := Int.lt_tmod_of_pos n hm
  have h3 : n.tmod m = if 0 ≤ n ∨ m ∣ n then n % m else n % m - m := by
    rw [Int.tmod_eq_emod]
    split <;> simp <;> omega
  have h4 := Int.emod_nonneg n (show m ≠ 0 by omega)
  have h5 := Int.emod_lt_of_pos n hm
  refine ⟨fun h => ⟨⟨by omega, by omega⟩, ?_, rfl⟩, fun h => ⟨?_, rfl⟩⟩
  · rw [h3] at h ⊢
    split at h <;> (simp_all; try omega)
  · rw [h3] at h ⊢
    split at h <;> (simp_all; try omega)

/-- A time is a number. -/
theorem time_ok (n : Int) {x : Nat} (hx : x < 18446744073709551616) (H : Heap) : Does Tryd.prog 6 [.int .i64 n, .float .f64 x] H fun v H' => ∃ r : Nat, v = .float .f64 r ∧ r < 18446744073709551616 ∧ Ext [] H H' := by
  refine Fn_of_vc Tryd.mixed (vc_time _ _ _ _) ?_
  refine (copysign_ok H).mono ?_
  rintro _ _ ⟨rfl, rfl⟩
  refine ⟨_, rfl, (inf_ok _ _).mono ?_⟩
  rintro _ _ ⟨rfl, rfl⟩
  refine ⟨_, rfl, (inf_ok _ _).mono ?_⟩
  rintro _ _ ⟨rfl, rfl⟩
  refine ⟨_, rfl, (nan_ok _).mono ?_⟩
  rintro _ _ ⟨rfl, rfl⟩
  refine ⟨_, rfl, fun b13 H14 hn => ⟨hn.blk.cells 12 0 (by simp), fun H15 hp => (pick_ok n 15 H15 (by decide) (by decide)).mono ?_⟩⟩
  rintro _ _ ⟨rfl, rfl⟩
  have hb := hp.blk hn.blk (by simp)
  have hx15 : Ext [] H H15 := hn.ext.trans' hp.ext (by intro i hi; simp only [List.mem_singleton] at hi; have := hn.eq; omega)
  have p0 := Int.emod_nonneg n (show (15 : Int) ≠ 0 by decide)
  refine ⟨_, rfl, fun h1 => ⟨p0, h1, ?_⟩, fun h1 => ⟨_, rfl, hx, hx15⟩⟩
  generalize n % 15 = k at *
  obtain ⟨j, rfl⟩ : ∃ j : Nat, k = j := ⟨k.toNat, by omega⟩
  rw [Int.toNat_natCast]
  simp only [hb.cell, Nat.zero_add]
  match j, h1 with
  | 0, _ => exact ⟨_, rfl, _, rfl, by decide, hx15⟩
  | 1, _ => exact ⟨_, rfl, _, rfl, by decide, hx15⟩
  | 2, _ => exact ⟨_, rfl, _, rfl, by decide, hx15⟩
  | 3, _ => exact ⟨_, rfl, _, rfl, by decide, hx15⟩
  | 4, _ => exact ⟨_, rfl, _, rfl, by decide, hx15⟩
  | 5, _ => exact ⟨_, rfl, _, rfl, by decide, hx15⟩
  | 6, _ => exact ⟨_, rfl, _, rfl, by decide, hx15⟩
  | 7, _ => exact ⟨_, rfl, _, rfl, by decide, hx15⟩
  | 8, _ => exact ⟨_, rfl, _, rfl, by decide, hx15⟩
  | 9, _ => exact ⟨_, rfl, _, rfl, by decide, hx15⟩
  | 10, _ => exact ⟨_, rfl, _, rfl, by decide, hx15⟩
  | 11, _ => exact ⟨_, rfl, _, rfl, by decide, hx15⟩
  | j + 12, h1 => omega

/-- NaNs as one. -/
def plainW (w : Nat) : Nat := if nanW w then 9221120237041090561 else w
/-- Where a number stands: NaN above all, -0 below +0. -/
def rk (w : Nat) : Int := if 9223372036854775808 ≤ plainW w then -((plainW w : Int) - 9223372036854775808) - 1 else plainW w
def sgn (a b : Int) : Int := if a < b then -1 else if b < a then 1 else 0
def zeroW (w : Nat) : Int := if w = 9223372036854775808 then -1 else 0

theorem keyW_zero {w : Nat} : keyW w = 0 ↔ w = 0 ∨ w = 9223372036854775808 := by
  unfold keyW
  split <;> omega

theorem sides_ok {w : Nat} (h : w < 18446744073709551616) (H : Heap) : Does Tryd.prog 26 [.float .f64 w] H fun v H' => v = .tuple #[.int .i64 (if nanW w then 1 else 0), .int .i64 (zeroW w)] ∧ H = H' := by
  refine Fn_of_vc Tryd.mixed (vc_sides _ _ _) ?_
  refine (isnan_ok h H).mono ?_
  rintro _ _ ⟨rfl, rfl⟩
  refine ⟨_, rfl, fun hn => ⟨?_, rfl⟩, fun hn => ?_⟩
  · rw [hn, if_pos rfl]
    have : zeroW w = 0 := by
      unfold zeroW
      rw [if_neg]
      rintro rfl
      exact absurd hn (by decide)
    rw [this]
  · have hz := (order_w h (b := 0) (by decide) hn (by decide)).2.1
    have hk0 : keyW 0 = 0 := by decide
    rw [hk0, keyW_zero] at hz
    refine ⟨fun h1 => (signbit_ok h H).mono ?_, fun h1 => ⟨?_, rfl⟩⟩
    · rintro _ _ ⟨rfl, rfl⟩
      refine ⟨_, rfl, fun h2 => ⟨?_, rfl⟩, fun h2 => ⟨?_, rfl⟩⟩
      · rw [hn]
        have : w = 9223372036854775808 := by
          rcases hz.1 h1 with rfl | h3
          · exact absurd h2 (by decide)
          · exact h3
        rw [zeroW, if_pos this]; rfl
      · rw [hn]
        have : w ≠ 9223372036854775808 := by
          rintro rfl; exact absurd h2 (by decide)
        rw [zeroW, if_neg this]; rfl
    · rw [hn]
      have : w ≠ 9223372036854775808 := fun e => h1 (hz.2 (.inr e))
      rw [zeroW, if_neg this]; rfl

theorem cmpi_ok (n m : Int) (H : Heap) : Does Tryd.prog 27 [.int .i64 n, .int .i64 m] H fun v H' => v = .int .i64 (sgn n m) ∧ H = H' := by
  refine Fn_of_vc Tryd.mixed (vc_cmpi _ _ _ _) ?_
  refine (isnani_ok n H).mono ?_
  rintro _ _ ⟨rfl, rfl⟩
  refine ⟨_, rfl, (isnani_ok m H).mono ?_⟩
  rintro _ _ ⟨rfl, rfl⟩
  unfold sgn
  refine ⟨_, rfl, fun e => (by cases e), fun _ => ⟨fun e => (by cases e), fun _ => ⟨fun h => ⟨?_, rfl⟩, fun h => ⟨fun h2 => ⟨?_, rfl⟩, fun h2 => ⟨?_, rfl⟩⟩⟩⟩⟩
  · rw [if_pos h]
  · rw [if_neg h, if_pos h2]
  · rw [if_neg h, if_neg h2]

theorem cmpf_ok {a b : Nat} (ha : a < 18446744073709551616) (hb : b < 18446744073709551616) (na : nanW a = false) (nb : nanW b = false) (H : Heap) : Does Tryd.prog 29 [.float .f64 a, .float .f64 b] H fun v H' => v = .int .i64 (sgn (keyW a) (keyW b)) ∧ H = H' := by
  refine Fn_of_vc Tryd.mixed (vc_cmpf _ _ _ _) ?_
  refine (isnanf_ok ha H).mono ?_
  rintro _ _ ⟨rfl, rfl⟩
  refine ⟨_, rfl, (isnanf_ok hb H).mono ?_⟩
  rintro _ _ ⟨rfl, rfl⟩
  obtain ⟨h1, h2, h3⟩ := order_w ha hb na nb
  rw [na, nb, h1, h3]
  unfold sgn
  refine ⟨_, rfl, fun e => (by cases e), fun _ => ⟨fun e => (by cases e), fun _ => ⟨fun h => ⟨?_, rfl⟩, fun h => ⟨fun h2 => ⟨?_, rfl⟩, fun h2 => ⟨?_, rfl⟩⟩⟩⟩⟩
  · rw [if_pos h]
  · rw [if_neg h, if_pos h2]
  · rw [if_neg h, if_neg h2]

theorem or_ok {b : Nat} {n m : Int} {H : Heap} (hb : Blk H b [.int .i64 n, .int .i64 m]) : Does Tryd.prog 28 [.slice (some ⟨b, 0, none⟩) 2 2] H fun v H' => v = .int .i64 (if n ≠ 0 then n else m) ∧ H = H' := by
  refine Fn_of_vc Tryd.mixed (vc_or _ _ _ _ _) ?_
  refine ⟨fun i H' => ∃ j : Nat, i = j ∧ j ≤ 2 ∧ H' = H ∧ (1 ≤ j → n = 0) ∧ (2 ≤ j → m = 0), fun i _ => 2 - i.toNat, ⟨0, rfl, by decide, rfl, by omega, by omega⟩, ?_⟩
  rintro _ _ ⟨j, rfl, hj, rfl, h1, h2⟩
  refine ⟨fun h3 => ⟨by omega, h3, b, 0, rfl, ?_⟩, fun h3 => ⟨?_, rfl⟩⟩
  · simp only [hb.cell, Nat.zero_add, Int.toNat_natCast]
    match j, h3 with
    | 0, _ =>
      refine ⟨n, rfl, fun h4 => ⟨by rw [if_pos h4], trivial⟩, fun h4 => ⟨⟨by decide, by decide⟩, ⟨1, rfl, by decide, trivial, fun _ => by omega, by omega⟩, by decide⟩⟩
    | 1, _ =>
      have hn := h1 (by decide)
      refine ⟨m, rfl, fun h4 => ⟨by rw [if_neg (by omega)], trivial⟩, fun h4 => ⟨⟨by decide, by decide⟩, ⟨2, rfl, by decide, trivial, fun _ => hn, fun _ => by omega⟩, by decide⟩⟩
    | j + 2, h3 => omega
  · have hn := h1 (by omega)
    have hm := h2 (by omega)
    rw [hn, hm]; rfl
end Go.Proofs
end

section
open Go Go.Vc
namespace Go.Proofs

theorem plain_lt {w : Nat} (h : w < 18446744073709551616) : plainW w < 18446744073709551616 := by
  unfold plainW; split <;> omega

theorem rk_nan {w : Nat} (h : nanW w = true) : rk w = 9221120237041090561 := by
  unfold rk plainW; rw [if_pos h]; rfl

theorem rk_num {w : Nat} (_ : w < 18446744073709551616) (hn : nanW w = false) : rk w ≤ 9218868437227405312 ∧ rk w = if 9223372036854775808 ≤ w then -((w : Int) - 9223372036854775808) - 1 else w := by
  have hn' : ¬ (9218868437227405312 < w % 9223372036854775808) := by simpa [nanW] using hn
  have e : plainW w = w := by unfold plainW; rw [hn]; rfl
  unfold rk
  rw [e]
  refine ⟨?_, rfl⟩
  split <;> omega

theorem rk_inj {a b : Nat} : rk a = rk b ↔ plainW a = plainW b := by
  unfold rk
  split <;> split <;> omega

theorem sgn_nan {a b : Nat} (ha : a < 18446744073709551616) (hb : b < 18446744073709551616) (h : nanW a = true ∨ nanW b = true) : sgn (if nanW a then 1 else 0) (if nanW b then 1 else 0) = sgn (rk a) (rk b) := by
  cases na : nanW a <;> cases nb : nanW b
  · rw [na, nb] at h; simp at h
  · rw [rk_nan nb]
    have := (rk_num ha na).1
    simp only [sgn, Bool.false_eq_true, if_true, if_false]
    rw [if_pos (show rk a < 9221120237041090561 by omega)]; rfl
  · rw [rk_nan na]
    have := (rk_num hb nb).1
    simp only [sgn, Bool.false_eq_true, if_true, if_false]
    rw [if_neg (show ¬ (9221120237041090561 < rk b) by omega), if_pos (show rk b < 9221120237041090561 by omega)]; rfl
  · rw [rk_nan na, rk_nan nb]; rfl

theorem sgn_lt {a b : Int} (h : a < b) : sgn a b = -1 := by unfold sgn; rw [if_pos h]
theorem sgn_gt {a b : Int} (h : b < a) : sgn a b = 1 := by unfold sgn; rw [if_neg (by omega), if_pos h]
theorem sgn_eq {a b : Int} (h : a = b) : sgn a b = 0 := by unfold sgn; rw [if_neg (by omega), if_neg (by omega)]

theorem sgn_num {a b : Nat} (ha : a < 18446744073709551616) (hb : b < 18446744073709551616) (na : nanW a = false) (nb : nanW b = false) : (if sgn (keyW a) (keyW b) ≠ 0 then sgn (keyW a) (keyW b) else sgn (zeroW a) (zeroW b)) = sgn (rk a) (rk b) := by
  obtain ⟨_, ea⟩ := rk_num ha na
  obtain ⟨_, eb⟩ := rk_num hb nb
  have ka : keyW a = if 9223372036854775808 ≤ a then -((a : Int) - 9223372036854775808) else a := rfl
  have kb : keyW b = if 9223372036854775808 ≤ b then -((b : Int) - 9223372036854775808) else b := rfl
  have za : zeroW a = if a = 9223372036854775808 then -1 else 0 := rfl
  have zb : zeroW b = if b = 9223372036854775808 then -1 else 0 := rfl
  generalize rk a = ra at *
  generalize rk b = rb at *
  generalize keyW a = x at *
  generalize keyW b = y at *
  generalize zeroW a = u at *
  generalize zeroW b = v at *
  by_cases h1 : x < y
  · rw [sgn_lt h1, if_pos (by decide), sgn_lt]
    split at ea <;> split at eb <;> split at ka <;> split at kb <;> omega
  · by_cases h2 : y < x
    · rw [sgn_gt h2, if_pos (by decide), sgn_gt]
      split at ea <;> split at eb <;> split at ka <;> split at kb <;> omega
    · rw [sgn_eq (by omega), if_neg (by decide)]
      by_cases h3 : u < v
      · rw [sgn_lt h3, sgn_lt]
        split at ea <;> split at eb <;> split at ka <;> split at kb <;> split at za <;> split at zb <;> omega
      · by_cases h4 : v < u
        · rw [sgn_gt h4, sgn_gt]
          split at ea <;> split at eb <;> split at ka <;> split at kb <;> split at za <;> split at zb <;> omega
        · rw [sgn_eq (by omega), sgn_eq]
          split at ea <;> split at eb <;> split at ka <;> split at kb <;> split at za <;> split at zb <;> omega

theorem compare_ok {a b : Nat} (ha : a < 18446744073709551616) (hb : b < 18446744073709551616) (H : Heap) : Does Tryd.prog 14 [.float .f64 a, .float .f64 b] H fun v H' => v = .int .i64 (sgn (rk a) (rk b)) ∧ Ext [] H H' := by
  refine Fn_of_vc Tryd.mixed (vc_compare _ _ _ _) ?_
  refine (sides_ok ha H).mono ?_
  rintro _ _ ⟨rfl, rfl⟩
  refine ⟨_, _, rfl, (sides_ok hb H).mono ?_⟩
  rintro _ _ ⟨rfl, rfl⟩
  refine ⟨_, _, rfl, ?_⟩
  have na01 : (0 : Int) ≤ (if nanW a then 1 else 0) ∧ (if nanW a then (1 : Int) else 0) ≤ 1 := by split <;> omega
  have nb01 : (0 : Int) ≤ (if nanW b then 1 else 0) ∧ (if nanW b then (1 : Int) else 0) ≤ 1 := by split <;> omega
  refine ⟨⟨by omega, by omega⟩, fun h => (cmpi_ok _ _ H).mono ?_, fun h => ?_⟩
  · rintro _ _ ⟨rfl, rfl⟩
    refine ⟨_, rfl, ?_, Ext.refl _ _⟩
    rw [sgn_nan ha hb]
    cases na : nanW a <;> cases nb : nanW b <;> simp_all
  · have na : nanW a = false := by cases na : nanW a <;> simp_all; omega
    have nb : nanW b = false := by cases nb : nanW b <;> simp_all
    refine (cmpf_ok ha hb na nb H).mono ?_
    rintro _ _ ⟨rfl, rfl⟩
    refine ⟨_, rfl, (cmpi_ok _ _ H).mono ?_⟩
    rintro _ _ ⟨rfl, rfl⟩
    refine ⟨_, rfl, fun b18 H19 hn => (or_ok hn.blk).mono ?_⟩
    rintro _ _ ⟨rfl, rfl⟩
    refine ⟨_, rfl, ?_, hn.ext⟩
    rw [sgn_num ha hb na nb]

theorem sgn_zero {a b : Int} : sgn a b = 0 ↔ a = b := by
  unfold sgn
  split
  · simp; omega
  · split <;> (simp; try omega)
theorem sgn_neg {a b : Int} : sgn a b < 0 ↔ a < b := by
  unfold sgn
  split
  · simp; omega
  · split <;> (simp; try omega)

theorem same_ok {a b : Nat} (ha : a < 18446744073709551616) (hb : b < 18446744073709551616) (H : Heap) : Does Tryd.prog 15 [.float .f64 a, .float .f64 b] H fun v H' => v = .bool (decide (rk a = rk b)) ∧ Ext [] H H' := by
  refine Fn_of_vc Tryd.mixed (vc_same _ _ _ _) ?_
  refine (compare_ok ha hb H).mono ?_
  rintro _ H2 ⟨rfl, hx⟩
  exact ⟨_, rfl, congrArg _ (dec_eq (by rw [sgn_zero, decide_eq_true_eq])), hx⟩

theorem plain_ok {w : Nat} (h : w < 18446744073709551616) (H : Heap) : Does Tryd.prog 21 [.float .f64 w] H fun v H' => v = .float .f64 (plainW w) ∧ H = H' := by
  refine Fn_of_vc Tryd.mixed (vc_plain _ _ _) ?_
  refine (isnan_ok h H).mono ?_
  rintro _ _ ⟨rfl, rfl⟩
  refine ⟨_, rfl, fun hn => ⟨?_, rfl⟩, fun hn => ⟨?_, rfl⟩⟩
  · unfold plainW; rw [if_pos hn]; rfl
  · unfold plainW; rw [hn]; rfl

def laterW (a b : Nat) : Nat := if rk a < rk b then plainW b else plainW a

theorem later_ok {a b : Nat} (ha : a < 18446744073709551616) (hb : b < 18446744073709551616) (H : Heap) : Does Tryd.prog 16 [.float .f64 a, .float .f64 b] H fun v H' => v = .float .f64 (laterW a b) ∧ Ext [] H H' := by
  refine Fn_of_vc Tryd.mixed (vc_later _ _ _ _) ?_
  refine (compare_ok ha hb H).mono ?_
  rintro _ H2 ⟨rfl, hx⟩
  refine ⟨_, rfl, fun h => (plain_ok hb H2).mono ?_, fun h => (plain_ok ha H2).mono ?_⟩
  · rintro _ _ ⟨rfl, rfl⟩
    rw [sgn_neg] at h
    exact ⟨_, rfl, by rw [laterW, if_pos h], hx⟩
  · rintro _ _ ⟨rfl, rfl⟩
    rw [sgn_neg] at h
    exact ⟨_, rfl, by rw [laterW, if_neg h], hx⟩

/-! ### The document -/
theorem bits_ok {w : Nat} (h : w < 18446744073709551616) (H : Heap) : Does Tryd.prog 23 [.float .f64 w] H fun v H' => v = .int .u64 (plainW w) ∧ H = H' := by
  refine Fn_of_vc Tryd.mixed (vc_bits _ _ _) ?_
  have hf := feq_self h
  refine ⟨fun h1 => ⟨?_, rfl⟩, fun h1 => ⟨?_, rfl⟩⟩
  · have hn : nanW w = true := by cases hn : nanW w <;> simp_all
    unfold plainW; rw [if_pos hn]; rfl
  · have hn : nanW w = false := by cases hn : nanW w <;> simp_all
    unfold plainW; rw [hn]; rfl

theorem wrap_u64 (n : Int) : IntKind.wrap .u64 n = n % 18446744073709551616 := by
  simp only [IntKind.wrap, IntKind.bits, IntKind.signed]
  simp

theorem of_nat (n : Nat) (h : n < 18446744073709551616) : (BitVec.ofInt 64 (n : Int)).toNat = n := by
  rw [BitVec.toNat_ofInt]
  show ((n : Int) % 18446744073709551616).toNat = n
  omega

theorem xor_ones (n : Nat) (h : n < 18446744073709551616) : bits .xor .u64 18446744073709551615 n = 18446744073709551615 - (n : Int) := by
  unfold bits
  have e1 : BitVec.ofInt 64 18446744073709551615 = BitVec.allOnes 64 := by decide
  show IntKind.wrap .u64 ((BitVec.ofInt 64 18446744073709551615 ^^^ BitVec.ofInt 64 (n : Int)).toNat : Int) = _
  rw [e1]
  show IntKind.wrap .u64 ((BitVec.allOnes 64 ^^^ BitVec.ofInt 64 (n : Int)).toNat : Int) = _
  rw [BitVec.allOnes_xor, BitVec.toNat_not, of_nat n h, wrap_u64]
  omega

theorem or_top (n : Nat) (h : n < 9223372036854775808) : bits .or .u64 n 9223372036854775808 = (n : Int) + 9223372036854775808 := by
  unfold bits
  show IntKind.wrap .u64 ((BitVec.ofInt 64 (n : Int) ||| BitVec.ofInt 64 ((9223372036854775808 : Nat) : Int)).toNat : Int) = _
  rw [BitVec.toNat_or, of_nat n (by omega), of_nat _ (by decide), wrap_u64]
  have := Nat.two_pow_add_eq_or_of_lt (i := 63) (b := n) h 1
  rw [Nat.or_comm, show (9223372036854775808 : Nat) = 2 ^ 63 * 1 from rfl, ← this]
  omega

theorem known2_ok (H : Heap) : Does Tryd.prog 12 [] H fun v H' => v = .bool true ∧ Ext [] H H' := by
  refine Fn_of_vc Tryd.mixed (vc_known _ _) ?_
  refine (copysign_ok H).mono ?_
  rintro _ _ ⟨rfl, rfl⟩
  refine ⟨_, rfl, (compare_ok (by decide) (by decide) H).mono ?_⟩
  rintro _ H5 ⟨rfl, hx5⟩
  refine ⟨_, rfl, fun _ => (nan_ok H5).mono ?_, fun h => absurd (by decide) h⟩
  rintro _ _ ⟨rfl, rfl⟩
  refine ⟨_, rfl, (inf_ok _ H5).mono ?_⟩
  rintro _ _ ⟨rfl, rfl⟩
  refine ⟨_, rfl, (compare_ok (by decide) (by decide) H5).mono ?_⟩
  rintro _ H14 ⟨rfl, hx14⟩
  refine ⟨_, rfl, fun _ => (nan_ok H14).mono ?_, fun h => absurd (by decide) h⟩
  rintro _ _ ⟨rfl, rfl⟩
  refine ⟨_, rfl, (nan_ok H14).mono ?_⟩
  rintro _ _ ⟨rfl, rfl⟩
  refine ⟨_, rfl, (same_ok (by decide) (by decide) H14).mono ?_⟩
  rintro _ H23 ⟨rfl, hx23⟩
  exact ⟨_, rfl, rfl, (hx5.trans hx14).trans hx23⟩
end Go.Proofs
end

section
open Go Go.Vc
namespace Go.Proofs
set_option maxRecDepth 100000
/-- internal/strconv.formatBits -/
theorem FbV (x1 : Int) (H : Heap) (R : Value → Heap → Prop) : Walk Tryd.prog 43 [(7, [(1, (.int .u64 0))]), (25, [(13, (.int .i64 0)), (1, (.int .u64 0))]), (28, [(13, (.int .i64 0))])] [(.slice none 0 0), (.int .u64 x1), (.int .i64 16), (.bool false), (.bool false)] H R = (
  ((((16 : Int) < 2) → (
        False)) ∧ (¬ ((16 : Int) < 2) → (
        ((((16 : Int) = 10) → (
              False)) ∧ (¬ ((16 : Int) = 10) → (
              ((((36 : Int) < 16) → (
                    False)) ∧ (¬ ((36 : Int) < 16) → (
                    ∀ b1 : Nat, ∀ H2 : Heap, New H b1 [(.int .u8 0), (.int .u8 0), (.int .u8 0), (.int .u8 0), (.int .u8 0), (.int .u8 0), (.int .u8 0), (.int .u8 0), (.int .u8 0), (.int .u8 0), (.int .u8 0), (.int .u8 0), (.int .u8 0), (.int .u8 0), (.int .u8 0), (.int .u8 0), (.int .u8 0), (.int .u8 0), (.int .u8 0), (.int .u8 0), (.int .u8 0), (.int .u8 0), (.int .u8 0), (.int .u8 0), (.int .u8 0), (.int .u8 0), (.int .u8 0), (.int .u8 0), (.int .u8 0), (.int .u8 0), (.int .u8 0), (.int .u8 0), (.int .u8 0), (.int .u8 0), (.int .u8 0), (.int .u8 0), (.int .u8 0), (.int .u8 0), (.int .u8 0), (.int .u8 0), (.int .u8 0), (.int .u8 0), (.int .u8 0), (.int .u8 0), (.int .u8 0), (.int .u8 0), (.int .u8 0), (.int .u8 0), (.int .u8 0), (.int .u8 0), (.int .u8 0), (.int .u8 0), (.int .u8 0), (.int .u8 0), (.int .u8 0), (.int .u8 0), (.int .u8 0), (.int .u8 0), (.int .u8 0), (.int .u8 0), (.int .u8 0), (.int .u8 0), (.int .u8 0), (.int .u8 0), (.int .u8 0)] 77 H2 → (
                      ∃ I3 : Int → Heap → Prop, (
                        ((false = true → (
                              ∀ q4 : Int, q4 = IntKind.wrap .u64 (0 - x1) → (
                                I3 q4 H2))) ∧ (false = false → (
                              I3 x1 H2)))) ∧
                      ∀ n5 : Int, ∀ H6 : Heap, I3 n5 H6 → (
                        ∃ I7 : Int → Int → Heap → Prop, (
                          Does Tryd.prog 55 [(.int .i64 16)] H6 fun v8 H9 => ∃ t10 : Bool, v8 = (.bool t10) ∧ (
                            ((t10 = true → (
                                  ∀ q11 : Int, q11 = IntKind.wrap .u64 16 → (
                                    Does Tryd.prog 56 [(.int .u64 q11)] H9 fun v12 H13 => ∃ n14 : Int, v12 = (.int .i64 n14) ∧ (
                                      ∀ q15 : Int, q15 = IntKind.wrap .u64 n14 → (
                                        ∀ q16 : Int, q16 = IntKind.wrap .u64 16 → (
                                          ∀ q17 : Int, q17 = IntKind.wrap .u64 16 → (
                                            ∀ q18 : Int, q18 = IntKind.wrap .u64 (q17 - 1) → (
                                              ∃ I19 : Int → Int → Heap → Prop, ∃ μ20 : Int → Int → Heap → Nat, (I19 65 n5 H13) ∧
                                              ∀ n21 : Int, ∀ n22 : Int, ∀ H23 : Heap, I19 n21 n22 H23 → (
                                                ((((q16 : Int) ≤ n22) → (
                                                      (In64 (n21 - 1)) ∧
                                                      ∀ q24 : Int, q24 = bits .and .u64 n22 q18 → (
                                                        (0 : Int) ≤ q24 ∧ (q24 : Int) < (ByteArray.size (ByteArray.mk #[48, 49, 50, 51, 52, 53, 54, 55, 56, 57, 97, 98, 99, 100, 101, 102, 103, 104, 105, 106, 107, 108, 109, 110, 111, 112, 113, 114, 115, 116, 117, 118, 119, 120, 121, 122]) : Int) ∧ ∀ q25 : Int, q25 = (((ByteArray.data (ByteArray.mk #[48, 49, 50, 51, 52, 53, 54, 55, 56, 57, 97, 98, 99, 100, 101, 102, 103, 104, 105, 106, 107, 108, 109, 110, 111, 112, 113, 114, 115, 116, 117, 118, 119, 120, 121, 122])).toList.getD (Int.toNat q24) 0).toNat : Int) → (
                                                          (0 : Int) ≤ (n21 - 1) ∧ ((n21 - 1) : Int) < (65 : Nat) ∧ (
                                                            Cells H23 b1 (0 + (Int.toNat (n21 - 1))) 1 ∧ ∀ H26 : Heap, Puts H23 b1 (0 + (Int.toNat (n21 - 1))) [(.int .u8 q25)] H26 → (
                                                            ((0 : Int) ≤ q15) ∧
                                                            ∀ q27 : Int, q27 = Int.fdiv n22 (2 ^ (min (Int.toNat q15) (IntKind.bits .u64))) → (
                                                            (I19 (n21 - 1) q27 H26) ∧ μ20 (n21 - 1) q27 H26 < μ20 n21 n22 H23))))))) ∧ (¬ ((q16 : Int) ≤ n22) → (
                                                      (In64 (n21 - 1)) ∧
                                                      (0 : Int) ≤ n22 ∧ (n22 : Int) < (ByteArray.size (ByteArray.mk #[48, 49, 50, 51, 52, 53, 54, 55, 56, 57, 97, 98, 99, 100, 101, 102, 103, 104, 105, 106, 107, 108, 109, 110, 111, 112, 113, 114, 115, 116, 117, 118, 119, 120, 121, 122]) : Int) ∧ ∀ q28 : Int, q28 = (((ByteArray.data (ByteArray.mk #[48, 49, 50, 51, 52, 53, 54, 55, 56, 57, 97, 98, 99, 100, 101, 102, 103, 104, 105, 106, 107, 108, 109, 110, 111, 112, 113, 114, 115, 116, 117, 118, 119, 120, 121, 122])).toList.getD (Int.toNat n22) 0).toNat : Int) → (
                                                        (0 : Int) ≤ (n21 - 1) ∧ ((n21 - 1) : Int) < (65 : Nat) ∧ (
                                                          Cells H23 b1 (0 + (Int.toNat (n21 - 1))) 1 ∧ ∀ H29 : Heap, Puts H23 b1 (0 + (Int.toNat (n21 - 1))) [(.int .u8 q28)] H29 → (
                                                            I7 (n21 - 1) n22 H29))))))))))))))) ∧ (t10 = false → (
                                  ∀ q30 : Int, q30 = IntKind.wrap .u64 16 → (
                                    ∃ I31 : Int → Int → Heap → Prop, ∃ μ32 : Int → Int → Heap → Nat, (I31 65 n5 H9) ∧
                                    ∀ n33 : Int, ∀ n34 : Int, ∀ H35 : Heap, I31 n33 n34 H35 → (
                                      ((((q30 : Int) ≤ n34) → (
                                            (In64 (n33 - 1)) ∧
                                            ((q30 : Int) ≠ 0) ∧
                                            ∀ q36 : Int, q36 = IntKind.wrap .u64 (Int.tdiv n34 q30) → (
                                              ∀ q37 : Int, q37 = IntKind.wrap .u64 (q36 * q30) → (
                                                ∀ q38 : Int, q38 = IntKind.wrap .u64 (n34 - q37) → (
                                                  (0 : Int) ≤ q38 ∧ (q38 : Int) < (ByteArray.size (ByteArray.mk #[48, 49, 50, 51, 52, 53, 54, 55, 56, 57, 97, 98, 99, 100, 101, 102, 103, 104, 105, 106, 107, 108, 109, 110, 111, 112, 113, 114, 115, 116, 117, 118, 119, 120, 121, 122]) : Int) ∧ ∀ q39 : Int, q39 = (((ByteArray.data (ByteArray.mk #[48, 49, 50, 51, 52, 53, 54, 55, 56, 57, 97, 98, 99, 100, 101, 102, 103, 104, 105, 106, 107, 108, 109, 110, 111, 112, 113, 114, 115, 116, 117, 118, 119, 120, 121, 122])).toList.getD (Int.toNat q38) 0).toNat : Int) → (
                                                    (0 : Int) ≤ (n33 - 1) ∧ ((n33 - 1) : Int) < (65 : Nat) ∧ (
                                                      Cells H35 b1 (0 + (Int.toNat (n33 - 1))) 1 ∧ ∀ H40 : Heap, Puts H35 b1 (0 + (Int.toNat (n33 - 1))) [(.int .u8 q39)] H40 → (
                                                        (I31 (n33 - 1) q36 H40) ∧ μ32 (n33 - 1) q36 H40 < μ32 n33 n34 H35)))))))) ∧ (¬ ((q30 : Int) ≤ n34) → (
                                            (In64 (n33 - 1)) ∧
                                            (0 : Int) ≤ n34 ∧ (n34 : Int) < (ByteArray.size (ByteArray.mk #[48, 49, 50, 51, 52, 53, 54, 55, 56, 57, 97, 98, 99, 100, 101, 102, 103, 104, 105, 106, 107, 108, 109, 110, 111, 112, 113, 114, 115, 116, 117, 118, 119, 120, 121, 122]) : Int) ∧ ∀ q41 : Int, q41 = (((ByteArray.data (ByteArray.mk #[48, 49, 50, 51, 52, 53, 54, 55, 56, 57, 97, 98, 99, 100, 101, 102, 103, 104, 105, 106, 107, 108, 109, 110, 111, 112, 113, 114, 115, 116, 117, 118, 119, 120, 121, 122])).toList.getD (Int.toNat n34) 0).toNat : Int) → (
                                              (0 : Int) ≤ (n33 - 1) ∧ ((n33 - 1) : Int) < (65 : Nat) ∧ (
                                                Cells H35 b1 (0 + (Int.toNat (n33 - 1))) 1 ∧ ∀ H42 : Heap, Puts H35 b1 (0 + (Int.toNat (n33 - 1))) [(.int .u8 q41)] H42 → (
                                                  I7 (n33 - 1) n34 H42))))))))))))) ∧
                        ∀ n43 : Int, ∀ n44 : Int, ∀ H45 : Heap, I7 n43 n44 H45 → (
                          ∃ I46 : Int → Heap → Prop, (
                            ((false = true → (
                                  (In64 (n43 - 1)) ∧
                                  (0 : Int) ≤ (n43 - 1) ∧ ((n43 - 1) : Int) < (65 : Nat) ∧ (
                                    Cells H45 b1 (0 + (Int.toNat (n43 - 1))) 1 ∧ ∀ H47 : Heap, Puts H45 b1 (0 + (Int.toNat (n43 - 1))) [(.int .u8 45)] H47 → (
                                      I46 (n43 - 1) H47)))) ∧ (false = false → (
                                  I46 n43 H45)))) ∧
                          ∀ n48 : Int, ∀ H49 : Heap, I46 n48 H49 → (
                            ((false = true → (
                                  (0 : Int) ≤ n48 ∧ (n48 : Int) ≤ (65 : Nat) ∧ ∀ o50 : Nat, o50 = (if 65 = (Int.toNat n48) then 0 else 0 + (Int.toNat n48) * 1) → (
                                    ∃ old51 new52 : List Value, SRow H49 1 0 (.slice none 0 0) old51 ∧ SRow H49 1 (65 - (Int.toNat n48)) (.slice (some (⟨b1, o50, none⟩ : Addr)) (65 - (Int.toNat n48)) (65 - (Int.toNat n48))) new52 ∧ (∀ u ∈ new52, Value.oneCell' u = true) ∧ (0 + (65 - (Int.toNat n48))) * 1 ≤ 140737488355328 ∧ (0 + (65 - (Int.toNat n48)) ≤ 0 → roomOf H49 none (0 * 1) ((65 - (Int.toNat n48)) * 1)) ∧ ∀ a53 : Option Addr, ∀ c54 : Nat, ∀ H55 : Heap, App H49 1 5 [(.int .u8 0)] none 0 0 old51 new52 (65 - (Int.toNat n48)) a53 c54 H55 → (
                                      R (.tuple #[(.slice a53 (0 + (65 - (Int.toNat n48))) c54), (.string (ByteArray.mk #[]))]) H55)))) ∧ (false = false → (
                                  (0 : Int) ≤ n48 ∧ (n48 : Int) ≤ (65 : Nat) ∧ ∀ o56 : Nat, o56 = (if 65 = (Int.toNat n48) then 0 else 0 + (Int.toNat n48) * 1) → (
                                    ∃ l57 : List UInt8, SRow H49 1 (65 - (Int.toNat n48)) (.slice (some (⟨b1, o56, none⟩ : Addr)) (65 - (Int.toNat n48)) (65 - (Int.toNat n48))) (List.map (fun (b : UInt8) => Value.int .u8 b.toNat) l57) ∧ (
                                      R (.tuple #[(.slice none 0 0), (.string (ByteArray.mk (List.toArray l57)))]) H49))))))))))))))))))) := by kernel_rfl


/-- internal/strconv.FormatUint -/
theorem FuiV (x0 : Int) (H : Heap) (R : Value → Heap → Prop) : Walk Tryd.prog 32 [] [(.int .u64 x0), (.int .i64 16)] H R = (
  ((((16 : Int) = 10) → (
        ((((x0 : Int) < 100) → (
              ∀ q1 : Int, q1 = IntKind.wrap .i64 x0 → (
                Does Tryd.prog 40 [(.int .i64 q1)] H fun v2 H3 => ∃ s4 : ByteArray, v2 = (.string s4) ∧ (
                  R (.string s4) H3)))) ∧ (¬ ((x0 : Int) < 100) → (
              ∀ b5 : Nat, ∀ H6 : Heap, New H b5 [(.int .u8 0), (.int .u8 0), (.int .u8 0), (.int .u8 0), (.int .u8 0), (.int .u8 0), (.int .u8 0), (.int .u8 0), (.int .u8 0), (.int .u8 0), (.int .u8 0), (.int .u8 0), (.int .u8 0), (.int .u8 0), (.int .u8 0), (.int .u8 0), (.int .u8 0), (.int .u8 0), (.int .u8 0), (.int .u8 0), (.int .u8 0), (.int .u8 0), (.int .u8 0), (.int .u8 0)] 59 H6 → (
                Does Tryd.prog 41 [(.int .u64 x0)] H6 fun v7 H8 => ∃ n9 : Int, v7 = (.int .i64 n9) ∧ (
                  (0 : Int) ≤ n9 ∧ (n9 : Int) ≤ (24 : Nat) ∧ (
                    Does Tryd.prog 42 [(.slice (some (⟨b5, 0, none⟩ : Addr)) (Int.toNat n9) 24), (.int .u64 x0)] H8 fun v10 H11 => v10 = (.tuple #[]) ∧ (
                      (0 : Int) ≤ n9 ∧ (n9 : Int) ≤ (24 : Nat) ∧ (
                        ∃ l12 : List UInt8, SRow H11 1 (Int.toNat n9) (.slice (some (⟨b5, 0, none⟩ : Addr)) (Int.toNat n9) 24) (List.map (fun (b : UInt8) => Value.int .u8 b.toNat) l12) ∧ (
                          R (.string (ByteArray.mk (List.toArray l12))) H11))))))))))) ∧ (¬ ((16 : Int) = 10) → (
        Does Tryd.prog 43 [(.slice none 0 0), (.int .u64 x0), (.int .i64 16), (.bool false), (.bool false)] H fun v13 H14 => ∃ a15 : Option Addr, ∃ l16 : Nat, ∃ c17 : Nat, ∃ s18 : ByteArray, v13 = (.tuple #[(.slice a15 l16 c17), (.string s18)]) ∧ (
          R (.string s18) H14))))) := by kernel_rfl


/-- strconv.FormatUint -/
theorem FuV (x0 : Int) (H : Heap) (R : Value → Heap → Prop) : Walk Tryd.prog 24 [] [(.int .u64 x0), (.int .i64 16)] H R = (
  Does Tryd.prog 32 [(.int .u64 x0), (.int .i64 16)] H fun v1 H2 => ∃ s3 : ByteArray, v1 = (.string s3) ∧ (
    R (.string s3) H2)) := by kernel_rfl


/-- internal/strconv.isPowerOfTwo -/
theorem Pow2V (x0 : Int) (H : Heap) (R : Value → Heap → Prop) : Walk Tryd.prog 55 [] [(.int .i64 x0)] H R = (
  (In64 (x0 - 1)) ∧
  ∀ q1 : Int, q1 = bits .and .i64 x0 (x0 - 1) → (
    R (.bool (@decide ((q1 : Int) = 0) (Classical.propDecidable _))) H)) := by kernel_rfl


/-- math/bits.TrailingZeros -/
theorem TzV (x0 : Int) (H : Heap) (R : Value → Heap → Prop) : Walk Tryd.prog 56 [] [(.int .u64 x0)] H R = (
  Does Tryd.prog 63 [(.int .u64 x0)] H fun v1 H2 => ∃ n3 : Int, v1 = (.int .i64 n3) ∧ (
    R (.int .i64 n3) H2)) := by kernel_rfl


/-- math/bits.TrailingZeros64 -/
theorem Tz64V (x0 : Int) (H : Heap) (R : Value → Heap → Prop) : Walk Tryd.prog 63 [] [(.int .u64 x0)] H R = (
  ((((x0 : Int) = 0) → (
        R (.int .i64 64) H)) ∧ (¬ ((x0 : Int) = 0) → (
        ∀ q1 : Int, q1 = IntKind.wrap .u64 (0 - x0) → (
          ∀ q2 : Int, q2 = bits .and .u64 x0 q1 → (
            ∀ q3 : Int, q3 = IntKind.wrap .u64 (q2 * 285870213051353865) → (
              ((0 : Int) ≤ 58) ∧
              ∀ q4 : Int, q4 = Int.fdiv q3 (2 ^ (min (Int.toNat 58) (IntKind.bits .u64))) → (
                (0 : Int) ≤ q4 ∧ (q4 : Int) < (64 : Nat) ∧ (
                  ∃ n5 : Int, hcell H 5 (0 + (Int.toNat q4)) = some (.int .u8 n5) ∧ (
                    (In64 n5) ∧
                    R (.int .i64 n5) H)))))))))) := by kernel_rfl


/-- pentimento/num.Text -/
theorem TextV (x0 : Nat) (H : Heap) (R : Value → Heap → Prop) : Walk Tryd.prog 8 [] [(.float .f64 x0)] H R = (
  Does Tryd.prog 21 [(.float .f64 x0)] H fun v1 H2 => ∃ f3 : Nat, v1 = (.float .f64 f3) ∧ (
    Does Tryd.prog 24 [(.int .u64 (f3 : Nat)), (.int .i64 16)] H2 fun v4 H5 => ∃ s6 : ByteArray, v4 = (.string s6) ∧ (
      ∃ I7 : ByteArray → Heap → Prop, ∃ μ8 : ByteArray → Heap → Nat, (I7 s6 H5) ∧
      ∀ s9 : ByteArray, ∀ H10 : Heap, I7 s9 H10 → (
        (((((ByteArray.size s9 : Int) : Int) < 16) → (
              (In64 (((ByteArray.size (ByteArray.mk #[48])) + (ByteArray.size s9) : Nat) : Int)) ∧
              (I7 ((ByteArray.mk #[48]) ++ s9) H10) ∧ μ8 ((ByteArray.mk #[48]) ++ s9) H10 < μ8 s9 H10)) ∧ (¬ (((ByteArray.size s9 : Int) : Int) < 16) → (
              R (.string s9) H10))))))) := by kernel_rfl


end Go.Proofs
end

section
open Go Go.Vc
namespace Go.Proofs

/-! ### Sixteen digits -/
def digN (n : Nat) : Nat := if n < 10 then 48 + n else 87 + n
def hexd (x m : Nat) : UInt8 := UInt8.ofNat (digN (x / 16 ^ m % 16))
/-- The m lowest digits, the highest first. -/
def hexL (x : Nat) : Nat → List UInt8
  | 0 => []
  | m + 1 => hexd x m :: hexL x m
def hexS (x : Nat) : ByteArray := ⟨(hexL x 16).toArray⟩

theorem hexL_length (x : Nat) : ∀ m, (hexL x m).length = m
  | 0 => rfl
  | m + 1 => by simp [hexL, hexL_length x m]

theorem digN_lt {n : Nat} (h : n < 16) : digN n < 256 := by unfold digN; split <;> omega
theorem digN_inj {a b : Nat} (ha : a < 16) (hb : b < 16) (h : digN a = digN b) : a = b := by
  unfold digN at h; split at h <;> split at h <;> omega

theorem hexd_nat (x m : Nat) : (hexd x m).toNat = digN (x / 16 ^ m % 16) := by
  unfold hexd
  have : x / 16 ^ m % 16 < 16 := Nat.mod_lt _ (by decide)
  have := digN_lt this
  simp
  omega

theorem hexL_inj {x y : Nat} : ∀ m, hexL x m = hexL y m → x % 16 ^ m = y % 16 ^ m
  | 0, _ => by simp [Nat.mod_one]
  | m + 1, h => by
    simp only [hexL, List.cons.injEq] at h
    have h1 := hexL_inj m h.2
    have h2 := congrArg UInt8.toNat h.1
    rw [hexd_nat, hexd_nat] at h2
    have h3 := digN_inj (Nat.mod_lt _ (by decide)) (Nat.mod_lt _ (by decide)) h2
    rw [Nat.pow_succ, Nat.mod_mul, Nat.mod_mul, h1, h3]

theorem hexS_inj {x y : Nat} (hx : x < 18446744073709551616) (hy : y < 18446744073709551616) : hexS x = hexS y ↔ x = y := by
  constructor
  · intro h
    have h1 : hexL x 16 = hexL y 16 := by
      have := congrArg (fun b : ByteArray => b.data.toList) h
      simpa [hexS] using this
    have h2 := hexL_inj 16 h1
    rw [show (16 : Nat) ^ 16 = 18446744073709551616 by decide, Nat.mod_eq_of_lt hx, Nat.mod_eq_of_lt hy] at h2
    exact h2
  · rintro rfl; rfl

theorem hexS_size (x : Nat) : (hexS x).size = 16 := by
  show (hexL x 16).toArray.size = 16
  simp [hexL_length]

theorem dig_tab : ∀ n, n < 16 → ((ByteArray.mk #[48, 49, 50, 51, 52, 53, 54, 55, 56, 57, 97, 98, 99, 100, 101, 102, 103, 104, 105, 106, 107, 108, 109, 110, 111, 112, 113, 114, 115, 116, 117, 118, 119, 120, 121, 122]).data.toList.getD n 0).toNat = digN n := by decide

theorem and15 (n : Nat) (h : n < 18446744073709551616) : bits .and .u64 n 15 = ((n % 16 : Nat) : Int) := by
  unfold bits
  show IntKind.wrap .u64 ((BitVec.ofInt 64 (n : Int) &&& BitVec.ofInt 64 ((15 : Nat) : Int)).toNat : Int) = _
  rw [BitVec.toNat_and, of_nat n h, of_nat _ (by decide), wrap_u64]
  have := Nat.and_two_pow_sub_one_eq_mod n 4
  rw [show (15 : Nat) = 2 ^ 4 - 1 from rfl, this]
  omega

theorem shr4 (n : Nat) : Int.fdiv (n : Int) (2 ^ (min (Int.toNat 4) (IntKind.bits .u64))) = ((n / 16 : Nat) : Int) := by
  rw [Int.fdiv_eq_ediv_of_nonneg]
  · show (n : Int) / 16 = _
    omega
  · decide

/-- The table of the shifts: that 16 is 2 to the 4. -/
def T64 (H : Heap) : Prop := hcell H 5 15 = some (.int .u8 4)
theorem T64.ext {H H' : Heap} (h : T64 H) (he : Ext [] H H') : T64 H' := hcell_ext h he (by simp)

theorem tz_ok {H : Heap} (h : T64 H) : Does Tryd.prog 56 [.int .u64 16] H fun v H' => v = .int .i64 4 ∧ H = H' := by
  refine Fn_of_vc Tryd.mixed (TzV _ _ _) ?_
  refine Does.mono (R := fun v H' => v = .int .i64 4 ∧ H = H') ?_ ?_
  · refine Fn_of_vc Tryd.mixed (Tz64V _ _ _) ?_
    refine ⟨fun e => absurd e (by decide), fun _ => ?_⟩
    rintro q1 rfl q2 rfl q3 rfl
    refine ⟨by decide, ?_⟩
    rintro q4 rfl
    have e : Int.fdiv (IntKind.wrap .u64 (bits .and .u64 16 (IntKind.wrap .u64 (0 - 16)) * 285870213051353865)) (2 ^ (min (Int.toNat 58) (IntKind.bits .u64))) = 15 := by decide +kernel
    rw [e]
    exact ⟨by decide, by decide, 4, h, ⟨by decide, by decide⟩, rfl, rfl⟩
  · rintro _ _ ⟨rfl, rfl⟩
    exact ⟨_, rfl, rfl, rfl⟩

theorem pow2_ok (H : Heap) : Does Tryd.prog 55 [.int .i64 16] H fun v H' => v = .bool true ∧ H = H' := by
  refine Fn_of_vc Tryd.mixed (Pow2V _ _ _) ?_
  refine ⟨⟨by decide, by decide⟩, ?_⟩
  rintro q rfl
  exact ⟨yes (by decide +kernel), rfl⟩

theorem set_last {pre t : List Value} {n : Nat} (v : Value) (h : pre.length = n + 1) : ∃ p, p.length = n ∧ splice (pre ++ t) n [v] = p ++ v :: t := by
  refine ⟨pre.take n, by simp; omega, ?_⟩
  rw [splice_one _ _ _ (by simp; omega), List.set_append_left _ _ (by omega), List.set_eq_take_append_cons_drop, if_pos (by omega), List.drop_of_length_le (by omega)]
  simp

theorem fb_ok {x : Nat} (hx : x < 18446744073709551616) {H : Heap} (h : T64 H) :
    Does Tryd.prog 43 [.slice none 0 0, .int .u64 x, .int .i64 16, .bool false, .bool false] H fun v H' => ∃ m s, v = .tuple #[.slice none 0 0, .string s] ∧ 1 ≤ m ∧ m ≤ 16 ∧ s = ⟨(hexL x m).toArray⟩ ∧ x < 16 ^ m ∧ Ext [] H H' := by
  refine Fn_of_vc Tryd.mixed (FbV _ _ _) ?_
  refine ⟨fun e => absurd e (by decide), fun _ => ⟨fun e => absurd e (by decide), fun _ => ⟨fun e => absurd e (by decide), fun _ b1 H2 hn => ?_⟩⟩⟩
  refine ⟨fun u H' => u = x ∧ H' = H2, ⟨fun e => (by cases e), fun _ => ⟨rfl, rfl⟩⟩, ?_⟩
  rintro _ _ ⟨rfl, rfl⟩
  refine ⟨fun i u H' => ∃ (m : Nat) (pre : List Value), i = ((65 - m : Nat) : Int) ∧ 1 ≤ m ∧ m ≤ 16 ∧ x < 16 ^ m ∧ pre.length = 65 - m ∧ Blk H' b1 (pre ++ bytesV (hexL x m)) ∧ Ext [] H H', ?_, ?_⟩
  · refine (pow2_ok _).mono ?_
    rintro _ _ ⟨rfl, rfl⟩
    refine ⟨_, rfl, fun _ => ?_, fun e => (by cases e)⟩
    rintro q11 rfl
    rw [show IntKind.wrap .u64 16 = 16 by decide]
    refine (tz_ok (h.ext hn.ext)).mono ?_
    rintro _ _ ⟨rfl, rfl⟩
    refine ⟨_, rfl, ?_⟩
    rintro q15 rfl q16 rfl q17 rfl q18 rfl
    rw [show IntKind.wrap .u64 4 = 4 by decide, show IntKind.wrap .u64 (16 - 1) = 15 by decide]
    refine ⟨fun i u H' => ∃ (m : Nat) (pre : List Value), m ≤ 15 ∧ i = ((65 - m : Nat) : Int) ∧ u = ((x / 16 ^ m : Nat) : Int) ∧ pre.length = 65 - m ∧ Blk H' b1 (pre ++ bytesV (hexL x m)) ∧ Ext [] H H', fun i _ _ => i.toNat, ?_, ?_⟩
    · obtain ⟨z, hz, hzl⟩ : ∃ z, Blk _ b1 z ∧ z.length = 65 := ⟨_, hn.blk, rfl⟩
      exact ⟨0, z, by decide, rfl, by simp, hzl, by simpa [hexL, bytesV] using hz, hn.ext⟩
    · rintro _ _ H' ⟨m, pre, hm, rfl, rfl, hpl, hb, hxx⟩
      have hu : x / 16 ^ m < 18446744073709551616 := Nat.lt_of_le_of_lt (Nat.div_le_self _ _) hx
      have step : ∀ (d : Int), d = (x / 16 ^ m % 16 : Nat) → ((ByteArray.mk #[48, 49, 50, 51, 52, 53, 54, 55, 56, 57, 97, 98, 99, 100, 101, 102, 103, 104, 105, 106, 107, 108, 109, 110, 111, 112, 113, 114, 115, 116, 117, 118, 119, 120, 121, 122]).data.toList.getD d.toNat 0).toNat = (hexd x m).toNat := by
        rintro d rfl
        rw [Int.toNat_natCast, dig_tab _ (Nat.mod_lt _ (by decide)), hexd_nat]
      have put : ∀ H'', Puts H' b1 (0 + (((65 - m : Nat) : Int) - 1).toNat) [.int .u8 ((hexd x m).toNat : Int)] H'' → ∃ p : List Value, p.length = 65 - (m + 1) ∧ Blk H'' b1 (p ++ bytesV (hexL x (m + 1))) ∧ Ext [] H H'' := by
        intro H'' hp
        rw [show 0 + (((65 - m : Nat) : Int) - 1).toNat = 64 - m by omega] at hp
        obtain ⟨p, hpl', hs⟩ := set_last (t := bytesV (hexL x m)) (.int .u8 ((hexd x m).toNat : Int)) (n := 64 - m) (pre := pre) (by omega)
        have hb' := hp.blk hb (by simp; omega)
        rw [hs] at hb'
        refine ⟨p, by omega, hb', hxx.trans' hp.ext ?_⟩
        intro i hi
        simp only [List.mem_singleton] at hi
        have := hn.eq
        omega
      have hc : Cells H' b1 (0 + (((65 - m : Nat) : Int) - 1).toNat) 1 := hb.cells _ _ (by simp; omega)
      refine ⟨fun h16 => ⟨⟨by omega, by omega⟩, ?_⟩, fun h16 => ⟨⟨by omega, by omega⟩, ?_⟩⟩
      · rintro q24 rfl
        rw [and15 _ hu]
        refine ⟨by omega, by have := Nat.mod_lt (x / 16 ^ m) (show 0 < 16 by decide); show _ < (36 : Int); omega, ?_⟩
        rintro q25 rfl
        rw [step _ rfl]
        refine ⟨by omega, by omega, hc, fun H26 hp => ⟨by decide, ?_⟩⟩
        rintro q27 rfl
        rw [shr4]
        have hm15 : m < 15 := by
          rcases Nat.lt_or_ge m 15 with h | h
          · exact h
          · exfalso
            have e : m = 15 := by omega
            subst e
            rw [show (16 : Nat) ^ 15 = 1152921504606846976 by decide] at h16
            omega
        obtain ⟨p, p1, p2, p3⟩ := put H26 hp
        refine ⟨⟨m + 1, p, by omega, by omega, by rw [Nat.pow_succ, Nat.div_div_eq_div_mul], p1, p2, p3⟩, by show (((65 - m : Nat) : Int) - 1).toNat < ((65 - m : Nat) : Int).toNat; omega⟩
      · have hlt : x / 16 ^ m < 16 := by omega
        have e16 : x / 16 ^ m % 16 = x / 16 ^ m := Nat.mod_eq_of_lt hlt
        refine ⟨by omega, by show _ < (36 : Int); omega, ?_⟩
        rintro q28 rfl
        rw [step _ (by rw [e16])]
        refine ⟨by omega, by omega, hc, fun H29 hp => ?_⟩
        obtain ⟨p, p1, p2, p3⟩ := put H29 hp
        refine ⟨m + 1, p, by omega, by omega, by omega, ?_, p1, p2, p3⟩
        rw [Nat.pow_succ, Nat.mul_comm]
        exact (Nat.div_lt_iff_lt_mul (Nat.pow_pos (by decide))).1 hlt
  · rintro _ n44 H45 ⟨m, pre, rfl, h1, h2, h3, hpl, hb, hxx⟩
    refine ⟨fun i H' => i = ((65 - m : Nat) : Int) ∧ H' = H45, ⟨fun e => (by cases e), fun _ => ⟨rfl, rfl⟩⟩, ?_⟩
    rintro _ _ ⟨rfl, rfl⟩
    refine ⟨fun e => (by cases e), fun _ => ⟨by omega, by omega, ?_⟩⟩
    rintro o rfl
    refine ⟨hexL x m, ⟨by simp [hexL_length]; omega, .inr rfl, fun j u hj => ?_⟩, m, _, rfl, h1, h2, rfl, h3, hxx⟩
    have hj' : (bytesV (hexL x m))[j]? = some u := hj
    have hjl : j < m := by
      have := (List.getElem?_eq_some_iff.1 hj').1
      rwa [bytesV_length, hexL_length] at this
    show hcell _ b1 ((if 65 = Int.toNat ((65 - m : Nat) : Int) then 0 else _) + j) = some u
    rw [hb.cell, if_neg (show ¬ 65 = Int.toNat ((65 - m : Nat) : Int) by omega), show 0 + (((65 - m : Nat) : Int)).toNat * 1 + j = pre.length + j by omega, List.getElem?_append_right (by omega)]
    simpa using hj'
end Go.Proofs
end

section
open Go Go.Vc
namespace Go.Proofs
set_option maxRecDepth 100000
/-- internal/strconv.ParseUint -/
theorem PuV (x0 : ByteArray) (H : Heap) (R : Value → Heap → Prop) : Walk Tryd.prog 33 [(21, [(0, (.string (ByteArray.mk #[]))), (1, (.int .i64 0))]), (25, [(2, (.int .i64 0))]), (32, [(10, (.int .u64 0))]), (46, [(16, (.int .u8 0)), (12, (.bool false))])] [(.string x0), (.int .i64 16), (.int .i64 64)] H R = (
  ((((x0 : ByteArray) = (ByteArray.mk #[])) → (
        R (.tuple #[(.int .u64 0), (.iface 64 (.int .i64 2))]) H)) ∧ (¬ ((x0 : ByteArray) = (ByteArray.mk #[])) → (
        ∃ I1 : ByteArray → Int → Heap → Prop, (
          ((((2 : Int) ≤ 16) → (
                ((((16 : Int) ≤ 36) → (
                      I1 x0 16 H)) ∧ (¬ ((16 : Int) ≤ 36) → (
                      ((((16 : Int) = 0) → (
                            (0 : Int) ≤ 0 ∧ (0 : Int) < (ByteArray.size x0 : Int) ∧ ∀ q2 : Int, q2 = (((ByteArray.data x0).toList.getD (Int.toNat 0) 0).toNat : Int) → (
                              ((((q2 : Int) = 48) → (
                                    ((((3 : Int) ≤ (ByteArray.size x0 : Int)) → (
                                          (0 : Int) ≤ 1 ∧ (1 : Int) < (ByteArray.size x0 : Int) ∧ ∀ q3 : Int, q3 = (((ByteArray.data x0).toList.getD (Int.toNat 1) 0).toNat : Int) → (
                                            Does Tryd.prog 44 [(.int .u8 q3)] H fun v4 H5 => ∃ n6 : Int, v4 = (.int .u8 n6) ∧ (
                                              ((((n6 : Int) = 98) → (
                                                    (0 : Int) ≤ 2 ∧ (2 : Int) ≤ ((ByteArray.size x0) : Int) ∧ (
                                                      I1 (ByteArray.extract x0 (Int.toNat 2) (ByteArray.size x0)) 2 H5))) ∧ (¬ ((n6 : Int) = 98) → (
                                                    ((((3 : Int) ≤ (ByteArray.size x0 : Int)) → (
                                                          (0 : Int) ≤ 1 ∧ (1 : Int) < (ByteArray.size x0 : Int) ∧ ∀ q7 : Int, q7 = (((ByteArray.data x0).toList.getD (Int.toNat 1) 0).toNat : Int) → (
                                                            Does Tryd.prog 44 [(.int .u8 q7)] H5 fun v8 H9 => ∃ n10 : Int, v8 = (.int .u8 n10) ∧ (
                                                            ((((n10 : Int) = 111) → (
                                                            (0 : Int) ≤ 2 ∧ (2 : Int) ≤ ((ByteArray.size x0) : Int) ∧ (
                                                            I1 (ByteArray.extract x0 (Int.toNat 2) (ByteArray.size x0)) 8 H9))) ∧ (¬ ((n10 : Int) = 111) → (
                                                            ((((3 : Int) ≤ (ByteArray.size x0 : Int)) → (
                                                            (0 : Int) ≤ 1 ∧ (1 : Int) < (ByteArray.size x0 : Int) ∧ ∀ q11 : Int, q11 = (((ByteArray.data x0).toList.getD (Int.toNat 1) 0).toNat : Int) → (
                                                            Does Tryd.prog 44 [(.int .u8 q11)] H9 fun v12 H13 => ∃ n14 : Int, v12 = (.int .u8 n14) ∧ (
                                                            ((((n14 : Int) = 120) → (
                                                            (0 : Int) ≤ 2 ∧ (2 : Int) ≤ ((ByteArray.size x0) : Int) ∧ (
                                                            I1 (ByteArray.extract x0 (Int.toNat 2) (ByteArray.size x0)) 16 H13))) ∧ (¬ ((n14 : Int) = 120) → (
                                                            (0 : Int) ≤ 1 ∧ (1 : Int) ≤ ((ByteArray.size x0) : Int) ∧ (
                                                            I1 (ByteArray.extract x0 (Int.toNat 1) (ByteArray.size x0)) 8 H13)))))))) ∧ (¬ ((3 : Int) ≤ (ByteArray.size x0 : Int)) → (
                                                            (0 : Int) ≤ 1 ∧ (1 : Int) ≤ ((ByteArray.size x0) : Int) ∧ (
                                                            I1 (ByteArray.extract x0 (Int.toNat 1) (ByteArray.size x0)) 8 H9))))))))))) ∧ (¬ ((3 : Int) ≤ (ByteArray.size x0 : Int)) → (
                                                          ((((3 : Int) ≤ (ByteArray.size x0 : Int)) → (
                                                            (0 : Int) ≤ 1 ∧ (1 : Int) < (ByteArray.size x0 : Int) ∧ ∀ q15 : Int, q15 = (((ByteArray.data x0).toList.getD (Int.toNat 1) 0).toNat : Int) → (
                                                            Does Tryd.prog 44 [(.int .u8 q15)] H5 fun v16 H17 => ∃ n18 : Int, v16 = (.int .u8 n18) ∧ (
                                                            ((((n18 : Int) = 120) → (
                                                            (0 : Int) ≤ 2 ∧ (2 : Int) ≤ ((ByteArray.size x0) : Int) ∧ (
                                                            I1 (ByteArray.extract x0 (Int.toNat 2) (ByteArray.size x0)) 16 H17))) ∧ (¬ ((n18 : Int) = 120) → (
                                                            (0 : Int) ≤ 1 ∧ (1 : Int) ≤ ((ByteArray.size x0) : Int) ∧ (
                                                            I1 (ByteArray.extract x0 (Int.toNat 1) (ByteArray.size x0)) 8 H17)))))))) ∧ (¬ ((3 : Int) ≤ (ByteArray.size x0 : Int)) → (
                                                            (0 : Int) ≤ 1 ∧ (1 : Int) ≤ ((ByteArray.size x0) : Int) ∧ (
                                                            I1 (ByteArray.extract x0 (Int.toNat 1) (ByteArray.size x0)) 8 H5)))))))))))))) ∧ (¬ ((3 : Int) ≤ (ByteArray.size x0 : Int)) → (
                                          ((((3 : Int) ≤ (ByteArray.size x0 : Int)) → (
                                                (0 : Int) ≤ 1 ∧ (1 : Int) < (ByteArray.size x0 : Int) ∧ ∀ q19 : Int, q19 = (((ByteArray.data x0).toList.getD (Int.toNat 1) 0).toNat : Int) → (
                                                  Does Tryd.prog 44 [(.int .u8 q19)] H fun v20 H21 => ∃ n22 : Int, v20 = (.int .u8 n22) ∧ (
                                                    ((((n22 : Int) = 111) → (
                                                          (0 : Int) ≤ 2 ∧ (2 : Int) ≤ ((ByteArray.size x0) : Int) ∧ (
                                                            I1 (ByteArray.extract x0 (Int.toNat 2) (ByteArray.size x0)) 8 H21))) ∧ (¬ ((n22 : Int) = 111) → (
                                                          ((((3 : Int) ≤ (ByteArray.size x0 : Int)) → (
                                                            (0 : Int) ≤ 1 ∧ (1 : Int) < (ByteArray.size x0 : Int) ∧ ∀ q23 : Int, q23 = (((ByteArray.data x0).toList.getD (Int.toNat 1) 0).toNat : Int) → (
                                                            Does Tryd.prog 44 [(.int .u8 q23)] H21 fun v24 H25 => ∃ n26 : Int, v24 = (.int .u8 n26) ∧ (
                                                            ((((n26 : Int) = 120) → (
                                                            (0 : Int) ≤ 2 ∧ (2 : Int) ≤ ((ByteArray.size x0) : Int) ∧ (
                                                            I1 (ByteArray.extract x0 (Int.toNat 2) (ByteArray.size x0)) 16 H25))) ∧ (¬ ((n26 : Int) = 120) → (
                                                            (0 : Int) ≤ 1 ∧ (1 : Int) ≤ ((ByteArray.size x0) : Int) ∧ (
                                                            I1 (ByteArray.extract x0 (Int.toNat 1) (ByteArray.size x0)) 8 H25)))))))) ∧ (¬ ((3 : Int) ≤ (ByteArray.size x0 : Int)) → (
                                                            (0 : Int) ≤ 1 ∧ (1 : Int) ≤ ((ByteArray.size x0) : Int) ∧ (
                                                            I1 (ByteArray.extract x0 (Int.toNat 1) (ByteArray.size x0)) 8 H21))))))))))) ∧ (¬ ((3 : Int) ≤ (ByteArray.size x0 : Int)) → (
                                                ((((3 : Int) ≤ (ByteArray.size x0 : Int)) → (
                                                      (0 : Int) ≤ 1 ∧ (1 : Int) < (ByteArray.size x0 : Int) ∧ ∀ q27 : Int, q27 = (((ByteArray.data x0).toList.getD (Int.toNat 1) 0).toNat : Int) → (
                                                        Does Tryd.prog 44 [(.int .u8 q27)] H fun v28 H29 => ∃ n30 : Int, v28 = (.int .u8 n30) ∧ (
                                                          ((((n30 : Int) = 120) → (
                                                            (0 : Int) ≤ 2 ∧ (2 : Int) ≤ ((ByteArray.size x0) : Int) ∧ (
                                                            I1 (ByteArray.extract x0 (Int.toNat 2) (ByteArray.size x0)) 16 H29))) ∧ (¬ ((n30 : Int) = 120) → (
                                                            (0 : Int) ≤ 1 ∧ (1 : Int) ≤ ((ByteArray.size x0) : Int) ∧ (
                                                            I1 (ByteArray.extract x0 (Int.toNat 1) (ByteArray.size x0)) 8 H29)))))))) ∧ (¬ ((3 : Int) ≤ (ByteArray.size x0 : Int)) → (
                                                      (0 : Int) ≤ 1 ∧ (1 : Int) ≤ ((ByteArray.size x0) : Int) ∧ (
                                                        I1 (ByteArray.extract x0 (Int.toNat 1) (ByteArray.size x0)) 8 H)))))))))))) ∧ (¬ ((q2 : Int) = 48) → (
                                    I1 x0 10 H)))))) ∧ (¬ ((16 : Int) = 0) → (
                            R (.tuple #[(.int .u64 0), (.iface 64 (.int .i64 3))]) H)))))))) ∧ (¬ ((2 : Int) ≤ 16) → (
                ((((16 : Int) = 0) → (
                      (0 : Int) ≤ 0 ∧ (0 : Int) < (ByteArray.size x0 : Int) ∧ ∀ q31 : Int, q31 = (((ByteArray.data x0).toList.getD (Int.toNat 0) 0).toNat : Int) → (
                        ((((q31 : Int) = 48) → (
                              ((((3 : Int) ≤ (ByteArray.size x0 : Int)) → (
                                    (0 : Int) ≤ 1 ∧ (1 : Int) < (ByteArray.size x0 : Int) ∧ ∀ q32 : Int, q32 = (((ByteArray.data x0).toList.getD (Int.toNat 1) 0).toNat : Int) → (
                                      Does Tryd.prog 44 [(.int .u8 q32)] H fun v33 H34 => ∃ n35 : Int, v33 = (.int .u8 n35) ∧ (
                                        ((((n35 : Int) = 98) → (
                                              (0 : Int) ≤ 2 ∧ (2 : Int) ≤ ((ByteArray.size x0) : Int) ∧ (
                                                I1 (ByteArray.extract x0 (Int.toNat 2) (ByteArray.size x0)) 2 H34))) ∧ (¬ ((n35 : Int) = 98) → (
                                              ((((3 : Int) ≤ (ByteArray.size x0 : Int)) → (
                                                    (0 : Int) ≤ 1 ∧ (1 : Int) < (ByteArray.size x0 : Int) ∧ ∀ q36 : Int, q36 = (((ByteArray.data x0).toList.getD (Int.toNat 1) 0).toNat : Int) → (
                                                      Does Tryd.prog 44 [(.int .u8 q36)] H34 fun v37 H38 => ∃ n39 : Int, v37 = (.int .u8 n39) ∧ (
                                                        ((((n39 : Int) = 111) → (
                                                            (0 : Int) ≤ 2 ∧ (2 : Int) ≤ ((ByteArray.size x0) : Int) ∧ (
                                                            I1 (ByteArray.extract x0 (Int.toNat 2) (ByteArray.size x0)) 8 H38))) ∧ (¬ ((n39 : Int) = 111) → (
                                                            ((((3 : Int) ≤ (ByteArray.size x0 : Int)) → (
                                                            (0 : Int) ≤ 1 ∧ (1 : Int) < (ByteArray.size x0 : Int) ∧ ∀ q40 : Int, q40 = (((ByteArray.data x0).toList.getD (Int.toNat 1) 0).toNat : Int) → (
                                                            Does Tryd.prog 44 [(.int .u8 q40)] H38 fun v41 H42 => ∃ n43 : Int, v41 = (.int .u8 n43) ∧ (
                                                            ((((n43 : Int) = 120) → (
                                                            (0 : Int) ≤ 2 ∧ (2 : Int) ≤ ((ByteArray.size x0) : Int) ∧ (
                                                            I1 (ByteArray.extract x0 (Int.toNat 2) (ByteArray.size x0)) 16 H42))) ∧ (¬ ((n43 : Int) = 120) → (
                                                            (0 : Int) ≤ 1 ∧ (1 : Int) ≤ ((ByteArray.size x0) : Int) ∧ (
                                                            I1 (ByteArray.extract x0 (Int.toNat 1) (ByteArray.size x0)) 8 H42)))))))) ∧ (¬ ((3 : Int) ≤ (ByteArray.size x0 : Int)) → (
                                                            (0 : Int) ≤ 1 ∧ (1 : Int) ≤ ((ByteArray.size x0) : Int) ∧ (
                                                            I1 (ByteArray.extract x0 (Int.toNat 1) (ByteArray.size x0)) 8 H38))))))))))) ∧ (¬ ((3 : Int) ≤ (ByteArray.size x0 : Int)) → (
                                                    ((((3 : Int) ≤ (ByteArray.size x0 : Int)) → (
                                                          (0 : Int) ≤ 1 ∧ (1 : Int) < (ByteArray.size x0 : Int) ∧ ∀ q44 : Int, q44 = (((ByteArray.data x0).toList.getD (Int.toNat 1) 0).toNat : Int) → (
                                                            Does Tryd.prog 44 [(.int .u8 q44)] H34 fun v45 H46 => ∃ n47 : Int, v45 = (.int .u8 n47) ∧ (
                                                            ((((n47 : Int) = 120) → (
                                                            (0 : Int) ≤ 2 ∧ (2 : Int) ≤ ((ByteArray.size x0) : Int) ∧ (
                                                            I1 (ByteArray.extract x0 (Int.toNat 2) (ByteArray.size x0)) 16 H46))) ∧ (¬ ((n47 : Int) = 120) → (
                                                            (0 : Int) ≤ 1 ∧ (1 : Int) ≤ ((ByteArray.size x0) : Int) ∧ (
                                                            I1 (ByteArray.extract x0 (Int.toNat 1) (ByteArray.size x0)) 8 H46)))))))) ∧ (¬ ((3 : Int) ≤ (ByteArray.size x0 : Int)) → (
                                                          (0 : Int) ≤ 1 ∧ (1 : Int) ≤ ((ByteArray.size x0) : Int) ∧ (
                                                            I1 (ByteArray.extract x0 (Int.toNat 1) (ByteArray.size x0)) 8 H34)))))))))))))) ∧ (¬ ((3 : Int) ≤ (ByteArray.size x0 : Int)) → (
                                    ((((3 : Int) ≤ (ByteArray.size x0 : Int)) → (
                                          (0 : Int) ≤ 1 ∧ (1 : Int) < (ByteArray.size x0 : Int) ∧ ∀ q48 : Int, q48 = (((ByteArray.data x0).toList.getD (Int.toNat 1) 0).toNat : Int) → (
                                            Does Tryd.prog 44 [(.int .u8 q48)] H fun v49 H50 => ∃ n51 : Int, v49 = (.int .u8 n51) ∧ (
                                              ((((n51 : Int) = 111) → (
                                                    (0 : Int) ≤ 2 ∧ (2 : Int) ≤ ((ByteArray.size x0) : Int) ∧ (
                                                      I1 (ByteArray.extract x0 (Int.toNat 2) (ByteArray.size x0)) 8 H50))) ∧ (¬ ((n51 : Int) = 111) → (
                                                    ((((3 : Int) ≤ (ByteArray.size x0 : Int)) → (
                                                          (0 : Int) ≤ 1 ∧ (1 : Int) < (ByteArray.size x0 : Int) ∧ ∀ q52 : Int, q52 = (((ByteArray.data x0).toList.getD (Int.toNat 1) 0).toNat : Int) → (
                                                            Does Tryd.prog 44 [(.int .u8 q52)] H50 fun v53 H54 => ∃ n55 : Int, v53 = (.int .u8 n55) ∧ (
                                                            ((((n55 : Int) = 120) → (
                                                            (0 : Int) ≤ 2 ∧ (2 : Int) ≤ ((ByteArray.size x0) : Int) ∧ (
                                                            I1 (ByteArray.extract x0 (Int.toNat 2) (ByteArray.size x0)) 16 H54))) ∧ (¬ ((n55 : Int) = 120) → (
                                                            (0 : Int) ≤ 1 ∧ (1 : Int) ≤ ((ByteArray.size x0) : Int) ∧ (
                                                            I1 (ByteArray.extract x0 (Int.toNat 1) (ByteArray.size x0)) 8 H54)))))))) ∧ (¬ ((3 : Int) ≤ (ByteArray.size x0 : Int)) → (
                                                          (0 : Int) ≤ 1 ∧ (1 : Int) ≤ ((ByteArray.size x0) : Int) ∧ (
                                                            I1 (ByteArray.extract x0 (Int.toNat 1) (ByteArray.size x0)) 8 H50))))))))))) ∧ (¬ ((3 : Int) ≤ (ByteArray.size x0 : Int)) → (
                                          ((((3 : Int) ≤ (ByteArray.size x0 : Int)) → (
                                                (0 : Int) ≤ 1 ∧ (1 : Int) < (ByteArray.size x0 : Int) ∧ ∀ q56 : Int, q56 = (((ByteArray.data x0).toList.getD (Int.toNat 1) 0).toNat : Int) → (
                                                  Does Tryd.prog 44 [(.int .u8 q56)] H fun v57 H58 => ∃ n59 : Int, v57 = (.int .u8 n59) ∧ (
                                                    ((((n59 : Int) = 120) → (
                                                          (0 : Int) ≤ 2 ∧ (2 : Int) ≤ ((ByteArray.size x0) : Int) ∧ (
                                                            I1 (ByteArray.extract x0 (Int.toNat 2) (ByteArray.size x0)) 16 H58))) ∧ (¬ ((n59 : Int) = 120) → (
                                                          (0 : Int) ≤ 1 ∧ (1 : Int) ≤ ((ByteArray.size x0) : Int) ∧ (
                                                            I1 (ByteArray.extract x0 (Int.toNat 1) (ByteArray.size x0)) 8 H58)))))))) ∧ (¬ ((3 : Int) ≤ (ByteArray.size x0 : Int)) → (
                                                (0 : Int) ≤ 1 ∧ (1 : Int) ≤ ((ByteArray.size x0) : Int) ∧ (
                                                  I1 (ByteArray.extract x0 (Int.toNat 1) (ByteArray.size x0)) 8 H)))))))))))) ∧ (¬ ((q31 : Int) = 48) → (
                              I1 x0 10 H)))))) ∧ (¬ ((16 : Int) = 0) → (
                      R (.tuple #[(.int .u64 0), (.iface 64 (.int .i64 3))]) H))))))) ∧
        ∀ s60 : ByteArray, ∀ n61 : Int, ∀ H62 : Heap, I1 s60 n61 H62 → (
          ∃ I63 : Int → Heap → Prop, (
            ((((64 : Int) = 0) → (
                  I63 64 H62)) ∧ (¬ ((64 : Int) = 0) → (
                  ((((64 : Int) < 0) → (
                        R (.tuple #[(.int .u64 0), (.iface 64 (.int .i64 4))]) H62)) ∧ (¬ ((64 : Int) < 0) → (
                        ((((64 : Int) < 64) → (
                              R (.tuple #[(.int .u64 0), (.iface 64 (.int .i64 4))]) H62)) ∧ (¬ ((64 : Int) < 64) → (
                              I63 64 H62)))))))))) ∧
          ∀ n64 : Int, ∀ H65 : Heap, I63 n64 H65 → (
            ∃ I66 : Int → Heap → Prop, (
              ((((n61 : Int) = 10) → (
                    I66 1844674407370955162 H65)) ∧ (¬ ((n61 : Int) = 10) → (
                    ((((n61 : Int) = 16) → (
                          I66 1152921504606846976 H65)) ∧ (¬ ((n61 : Int) = 16) → (
                          ∀ q67 : Int, q67 = IntKind.wrap .u64 n61 → (
                            ((q67 : Int) ≠ 0) ∧
                            ∀ q68 : Int, q68 = IntKind.wrap .u64 (Int.tdiv 18446744073709551615 q67) → (
                              ∀ q69 : Int, q69 = IntKind.wrap .u64 (q68 + 1) → (
                                I66 q69 H65)))))))))) ∧
            ∀ n70 : Int, ∀ H71 : Heap, I66 n70 H71 → (
              ∀ q72 : Int, q72 = IntKind.wrap .u64 n64 → (
                ((0 : Int) ≤ q72) ∧
                ∀ q73 : Int, q73 = IntKind.wrap .u64 (1 * 2 ^ (min (Int.toNat q72) (IntKind.bits .u64))) → (
                  ∀ q74 : Int, q74 = IntKind.wrap .u64 (q73 - 1) → (
                    ∀ c75 b76 : Nat, ∀ H77 : Heap, NewB H71 b76 s60 c75 5 H77 → (
                      ∃ I78 : Bool → Int → Int → Heap → Prop, ∃ μ79 : Bool → Int → Int → Heap → Nat, (I78 false 0 0 H77) ∧
                      ∀ t80 : Bool, ∀ n81 : Int, ∀ n82 : Int, ∀ H83 : Heap, I78 t80 n81 n82 H83 → (
                        ((((n82 : Int) < ((ByteArray.size s60) : Int)) → (
                              (0 : Int) ≤ n82 ∧ (n82 : Int) < ((ByteArray.size s60) : Int) ∧ ∃ b84 o85 : Nat, (some (⟨b76, 0, none⟩ : Addr)) = some (⟨b84, o85, none⟩ : Addr) ∧ (
                                ∃ n86 : Int, hcell H83 b84 (o85 + (Int.toNat n82)) = some (.int .u8 n86) ∧ (
                                  ∃ I87 : Int → Bool → Heap → Prop, (
                                    ((((n86 : Int) = 95) → (
                                          ((((16 : Int) = 0) → (
                                                (In64 (n82 + 1)) ∧
                                                (I78 true n81 (n82 + 1) H83) ∧ μ79 true n81 (n82 + 1) H83 < μ79 t80 n81 n82 H83)) ∧ (¬ ((16 : Int) = 0) → (
                                                ((((48 : Int) ≤ n86) → (
                                                      ((((n86 : Int) ≤ 57) → (
                                                            ∀ q88 : Int, q88 = IntKind.wrap .u8 (n86 - 48) → (
                                                            I87 q88 t80 H83))) ∧ (¬ ((n86 : Int) ≤ 57) → (
                                                            Does Tryd.prog 44 [(.int .u8 n86)] H83 fun v89 H90 => ∃ n91 : Int, v89 = (.int .u8 n91) ∧ (
                                                            ((((97 : Int) ≤ n91) → (
                                                            Does Tryd.prog 44 [(.int .u8 n86)] H90 fun v92 H93 => ∃ n94 : Int, v92 = (.int .u8 n94) ∧ (
                                                            ((((n94 : Int) ≤ 122) → (
                                                            Does Tryd.prog 44 [(.int .u8 n86)] H93 fun v95 H96 => ∃ n97 : Int, v95 = (.int .u8 n97) ∧ (
                                                            ∀ q98 : Int, q98 = IntKind.wrap .u8 (n97 - 97) → (
                                                            ∀ q99 : Int, q99 = IntKind.wrap .u8 (q98 + 10) → (
                                                            I87 q99 t80 H96))))) ∧ (¬ ((n94 : Int) ≤ 122) → (
                                                            R (.tuple #[(.int .u64 0), (.iface 64 (.int .i64 2))]) H93)))))) ∧ (¬ ((97 : Int) ≤ n91) → (
                                                            R (.tuple #[(.int .u64 0), (.iface 64 (.int .i64 2))]) H90))))))))) ∧ (¬ ((48 : Int) ≤ n86) → (
                                                      Does Tryd.prog 44 [(.int .u8 n86)] H83 fun v100 H101 => ∃ n102 : Int, v100 = (.int .u8 n102) ∧ (
                                                        ((((97 : Int) ≤ n102) → (
                                                            Does Tryd.prog 44 [(.int .u8 n86)] H101 fun v103 H104 => ∃ n105 : Int, v103 = (.int .u8 n105) ∧ (
                                                            ((((n105 : Int) ≤ 122) → (
                                                            Does Tryd.prog 44 [(.int .u8 n86)] H104 fun v106 H107 => ∃ n108 : Int, v106 = (.int .u8 n108) ∧ (
                                                            ∀ q109 : Int, q109 = IntKind.wrap .u8 (n108 - 97) → (
                                                            ∀ q110 : Int, q110 = IntKind.wrap .u8 (q109 + 10) → (
                                                            I87 q110 t80 H107))))) ∧ (¬ ((n105 : Int) ≤ 122) → (
                                                            R (.tuple #[(.int .u64 0), (.iface 64 (.int .i64 2))]) H104)))))) ∧ (¬ ((97 : Int) ≤ n102) → (
                                                            R (.tuple #[(.int .u64 0), (.iface 64 (.int .i64 2))]) H101)))))))))))) ∧ (¬ ((n86 : Int) = 95) → (
                                          ((((48 : Int) ≤ n86) → (
                                                ((((n86 : Int) ≤ 57) → (
                                                      ∀ q111 : Int, q111 = IntKind.wrap .u8 (n86 - 48) → (
                                                        I87 q111 t80 H83))) ∧ (¬ ((n86 : Int) ≤ 57) → (
                                                      Does Tryd.prog 44 [(.int .u8 n86)] H83 fun v112 H113 => ∃ n114 : Int, v112 = (.int .u8 n114) ∧ (
                                                        ((((97 : Int) ≤ n114) → (
                                                            Does Tryd.prog 44 [(.int .u8 n86)] H113 fun v115 H116 => ∃ n117 : Int, v115 = (.int .u8 n117) ∧ (
                                                            ((((n117 : Int) ≤ 122) → (
                                                            Does Tryd.prog 44 [(.int .u8 n86)] H116 fun v118 H119 => ∃ n120 : Int, v118 = (.int .u8 n120) ∧ (
                                                            ∀ q121 : Int, q121 = IntKind.wrap .u8 (n120 - 97) → (
                                                            ∀ q122 : Int, q122 = IntKind.wrap .u8 (q121 + 10) → (
                                                            I87 q122 t80 H119))))) ∧ (¬ ((n117 : Int) ≤ 122) → (
                                                            R (.tuple #[(.int .u64 0), (.iface 64 (.int .i64 2))]) H116)))))) ∧ (¬ ((97 : Int) ≤ n114) → (
                                                            R (.tuple #[(.int .u64 0), (.iface 64 (.int .i64 2))]) H113))))))))) ∧ (¬ ((48 : Int) ≤ n86) → (
                                                Does Tryd.prog 44 [(.int .u8 n86)] H83 fun v123 H124 => ∃ n125 : Int, v123 = (.int .u8 n125) ∧ (
                                                  ((((97 : Int) ≤ n125) → (
                                                        Does Tryd.prog 44 [(.int .u8 n86)] H124 fun v126 H127 => ∃ n128 : Int, v126 = (.int .u8 n128) ∧ (
                                                          ((((n128 : Int) ≤ 122) → (
                                                            Does Tryd.prog 44 [(.int .u8 n86)] H127 fun v129 H130 => ∃ n131 : Int, v129 = (.int .u8 n131) ∧ (
                                                            ∀ q132 : Int, q132 = IntKind.wrap .u8 (n131 - 97) → (
                                                            ∀ q133 : Int, q133 = IntKind.wrap .u8 (q132 + 10) → (
                                                            I87 q133 t80 H130))))) ∧ (¬ ((n128 : Int) ≤ 122) → (
                                                            R (.tuple #[(.int .u64 0), (.iface 64 (.int .i64 2))]) H127)))))) ∧ (¬ ((97 : Int) ≤ n125) → (
                                                        R (.tuple #[(.int .u64 0), (.iface 64 (.int .i64 2))]) H124))))))))))) ∧
                                  ∀ n134 : Int, ∀ t135 : Bool, ∀ H136 : Heap, I87 n134 t135 H136 → (
                                    ∀ q137 : Int, q137 = IntKind.wrap .u8 n61 → (
                                      ((((q137 : Int) ≤ n134) → (
                                            R (.tuple #[(.int .u64 0), (.iface 64 (.int .i64 2))]) H136)) ∧ (¬ ((q137 : Int) ≤ n134) → (
                                            ((((n70 : Int) ≤ n81) → (
                                                  R (.tuple #[(.int .u64 q74), (.iface 64 (.int .i64 1))]) H136)) ∧ (¬ ((n70 : Int) ≤ n81) → (
                                                  ∀ q138 : Int, q138 = IntKind.wrap .u64 n61 → (
                                                    ∀ q139 : Int, q139 = IntKind.wrap .u64 (n81 * q138) → (
                                                      ∀ q140 : Int, q140 = IntKind.wrap .u64 n134 → (
                                                        ∀ q141 : Int, q141 = IntKind.wrap .u64 (q139 + q140) → (
                                                          ((((q141 : Int) < q139) → (
                                                            R (.tuple #[(.int .u64 q74), (.iface 64 (.int .i64 1))]) H136)) ∧ (¬ ((q141 : Int) < q139) → (
                                                            ((((q74 : Int) < q141) → (
                                                            R (.tuple #[(.int .u64 q74), (.iface 64 (.int .i64 1))]) H136)) ∧ (¬ ((q74 : Int) < q141) → (
                                                            (In64 (n82 + 1)) ∧
                                                            (I78 t135 q141 (n82 + 1) H136) ∧ μ79 t135 q141 (n82 + 1) H136 < μ79 t80 n81 n82 H83)))))))))))))))))))))) ∧ (¬ ((n82 : Int) < ((ByteArray.size s60) : Int)) → (
                              ((t80 = true → (
                                    Does Tryd.prog 45 [(.string x0)] H83 fun v142 H143 => ∃ t144 : Bool, v142 = (.bool t144) ∧ (
                                      (((t144 = false) → (
                                            R (.tuple #[(.int .u64 0), (.iface 64 (.int .i64 2))]) H143)) ∧ (¬ (t144 = false) → (
                                            R (.tuple #[(.int .u64 n81), .nilIface]) H143)))))) ∧ (t80 = false → (
                                    R (.tuple #[(.int .u64 n81), .nilIface]) H83)))))))))))))))))) := by kernel_rfl


/-- internal/strconv.lower -/
theorem LowV (x0 : Int) (H : Heap) (R : Value → Heap → Prop) : Walk Tryd.prog 44 [] [(.int .u8 x0)] H R = (
  ∀ q1 : Int, q1 = bits .or .u8 x0 32 → (
    R (.int .u8 q1) H)) := by kernel_rfl


/-- strconv.ParseUint -/
theorem PuaV (x0 : ByteArray) (H : Heap) (R : Value → Heap → Prop) : Walk Tryd.prog 25 [] [(.string x0), (.int .i64 16), (.int .i64 64)] H R = (
  Does Tryd.prog 33 [(.string x0), (.int .i64 16), (.int .i64 64)] H fun v1 H2 => ∃ n3 : Int, ∃ v4 : Value, v1 = (.tuple #[(.int .u64 n3), v4]) ∧ (
    (v4 = Value.nilIface ∨ ∃ t u, v4 = Value.iface t u) ∧ (
      (((¬ (v4 = Value.nilIface)) → (
            Does Tryd.prog 34 [(.string (ByteArray.mk #[80, 97, 114, 115, 101, 85, 105, 110, 116])), (.string x0), (.int .i64 16), (.int .i64 64), v4] H2 fun v5 H6 => ∃ v7 : Value, v5 = v7 ∧ (
              R (.tuple #[(.int .u64 n3), v7]) H6))) ∧ (¬ (¬ (v4 = Value.nilIface)) → (
            R (.tuple #[(.int .u64 n3), .nilIface]) H2)))))) := by kernel_rfl


/-- pentimento/num.Parse -/
theorem ParseV (x0 : ByteArray) (H : Heap) (R : Value → Heap → Prop) : Walk Tryd.prog 10 [] [(.string x0)] H R = (
  Does Tryd.prog 25 [(.string x0), (.int .i64 16), (.int .i64 64)] H fun v1 H2 => ∃ n3 : Int, ∃ v4 : Value, v1 = (.tuple #[(.int .u64 n3), v4]) ∧ (
    (v4 = Value.nilIface ∨ ∃ t u, v4 = Value.iface t u) ∧ (
      (((¬ (v4 = Value.nilIface)) → (
            R (.tuple #[(.float .f64 0), (.bool false)]) H2)) ∧ (¬ (¬ (v4 = Value.nilIface)) → (
            Does Tryd.prog 8 [(.float .f64 (Int.toNat n3))] H2 fun v5 H6 => ∃ s7 : ByteArray, v5 = (.string s7) ∧ (
              ((((s7 : ByteArray) ≠ x0) → (
                    R (.tuple #[(.float .f64 0), (.bool false)]) H6)) ∧ (¬ ((s7 : ByteArray) ≠ x0) → (
                    R (.tuple #[(.float .f64 (Int.toNat n3)), (.bool true)]) H6)))))))))) := by kernel_rfl


/-- pentimento/pentimentoref1.Text -/
theorem RTextV (x0 : Nat) (H : Heap) (R : Value → Heap → Prop) : Walk Tryd.prog 7 [] [(.float .f64 x0)] H R = (
  Does Tryd.prog 23 [(.float .f64 x0)] H fun v1 H2 => ∃ n3 : Int, v1 = (.int .u64 n3) ∧ (
    ∃ I4 : ByteArray → Int → Heap → Prop, ∃ μ5 : ByteArray → Int → Heap → Nat, (I4 (ByteArray.mk #[]) 60 H2) ∧
    ∀ s6 : ByteArray, ∀ n7 : Int, ∀ H8 : Heap, I4 s6 n7 H8 → (
      ((((0 : Int) ≤ n7) → (
            ∀ q9 : Int, q9 = IntKind.wrap .u64 n7 → (
              ((0 : Int) ≤ q9) ∧
              ∀ q10 : Int, q10 = Int.fdiv n3 (2 ^ (min (Int.toNat q9) (IntKind.bits .u64))) → (
                ∀ q11 : Int, q11 = bits .and .u64 q10 15 → (
                  ∀ q12 : Int, q12 = IntKind.wrap .i64 q11 → (
                    (In64 (q12 + 1)) ∧
                    (0 : Int) ≤ q12 ∧ (q12 : Int) ≤ (q12 + 1) ∧ ((q12 + 1) : Int) ≤ ((ByteArray.size (ByteArray.mk #[48, 49, 50, 51, 52, 53, 54, 55, 56, 57, 97, 98, 99, 100, 101, 102])) : Int) ∧ (
                      (In64 (((ByteArray.size s6) + (ByteArray.size (ByteArray.extract (ByteArray.mk #[48, 49, 50, 51, 52, 53, 54, 55, 56, 57, 97, 98, 99, 100, 101, 102]) (Int.toNat q12) (Int.toNat (q12 + 1)))) : Nat) : Int)) ∧
                      (In64 (n7 - 4)) ∧
                      (I4 (s6 ++ (ByteArray.extract (ByteArray.mk #[48, 49, 50, 51, 52, 53, 54, 55, 56, 57, 97, 98, 99, 100, 101, 102]) (Int.toNat q12) (Int.toNat (q12 + 1)))) (n7 - 4) H8) ∧ μ5 (s6 ++ (ByteArray.extract (ByteArray.mk #[48, 49, 50, 51, 52, 53, 54, 55, 56, 57, 97, 98, 99, 100, 101, 102]) (Int.toNat q12) (Int.toNat (q12 + 1)))) (n7 - 4) H8 < μ5 s6 n7 H8))))))) ∧ (¬ ((0 : Int) ≤ n7) → (
            R (.string s6) H8)))))) := by kernel_rfl


/-- pentimento/pentimentoref1.Parse -/
theorem RParseV (x0 : ByteArray) (H : Heap) (R : Value → Heap → Prop) : Walk Tryd.prog 11 [(13, [(4, (.int .u64 0))])] [(.string x0)] H R = (
  (((((ByteArray.size x0 : Int) : Int) ≠ 16) → (
        R (.tuple #[(.float .f64 0), (.bool false)]) H)) ∧ (¬ (((ByteArray.size x0 : Int) : Int) ≠ 16) → (
        ∃ I1 : Int → Heap → Prop, (
          ∃ I2 : Int → Int → Heap → Prop, ∃ μ3 : Int → Int → Heap → Nat, (I2 0 0 H) ∧
          ∀ n4 : Int, ∀ n5 : Int, ∀ H6 : Heap, I2 n4 n5 H6 → (
            ((((n5 : Int) < 16) → (
                  (0 : Int) ≤ n5 ∧ (n5 : Int) < (ByteArray.size x0 : Int) ∧ ∀ q7 : Int, q7 = (((ByteArray.data x0).toList.getD (Int.toNat n5) 0).toNat : Int) → (
                    ((((48 : Int) ≤ q7) → (
                          ((((q7 : Int) ≤ 57) → (
                                ((0 : Int) ≤ 4) ∧
                                ∀ q8 : Int, q8 = IntKind.wrap .u64 (n4 * 2 ^ (min (Int.toNat 4) (IntKind.bits .u64))) → (
                                  ∀ q9 : Int, q9 = IntKind.wrap .u8 (q7 - 48) → (
                                    ∀ q10 : Int, q10 = IntKind.wrap .u64 q9 → (
                                      ∀ q11 : Int, q11 = IntKind.wrap .u64 (q8 + q10) → (
                                        (In64 (n5 + 1)) ∧
                                        (I2 q11 (n5 + 1) H6) ∧ μ3 q11 (n5 + 1) H6 < μ3 n4 n5 H6)))))) ∧ (¬ ((q7 : Int) ≤ 57) → (
                                ((((97 : Int) ≤ q7) → (
                                      ((((q7 : Int) ≤ 102) → (
                                            ((0 : Int) ≤ 4) ∧
                                            ∀ q12 : Int, q12 = IntKind.wrap .u64 (n4 * 2 ^ (min (Int.toNat 4) (IntKind.bits .u64))) → (
                                              ∀ q13 : Int, q13 = IntKind.wrap .u8 (q7 - 97) → (
                                                ∀ q14 : Int, q14 = IntKind.wrap .u64 q13 → (
                                                  ∀ q15 : Int, q15 = IntKind.wrap .u64 (q12 + q14) → (
                                                    ∀ q16 : Int, q16 = IntKind.wrap .u64 (q15 + 10) → (
                                                      (In64 (n5 + 1)) ∧
                                                      (I2 q16 (n5 + 1) H6) ∧ μ3 q16 (n5 + 1) H6 < μ3 n4 n5 H6))))))) ∧ (¬ ((q7 : Int) ≤ 102) → (
                                            R (.tuple #[(.float .f64 0), (.bool false)]) H6))))) ∧ (¬ ((97 : Int) ≤ q7) → (
                                      R (.tuple #[(.float .f64 0), (.bool false)]) H6)))))))) ∧ (¬ ((48 : Int) ≤ q7) → (
                          ((((97 : Int) ≤ q7) → (
                                ((((q7 : Int) ≤ 102) → (
                                      ((0 : Int) ≤ 4) ∧
                                      ∀ q17 : Int, q17 = IntKind.wrap .u64 (n4 * 2 ^ (min (Int.toNat 4) (IntKind.bits .u64))) → (
                                        ∀ q18 : Int, q18 = IntKind.wrap .u8 (q7 - 97) → (
                                          ∀ q19 : Int, q19 = IntKind.wrap .u64 q18 → (
                                            ∀ q20 : Int, q20 = IntKind.wrap .u64 (q17 + q19) → (
                                              ∀ q21 : Int, q21 = IntKind.wrap .u64 (q20 + 10) → (
                                                (In64 (n5 + 1)) ∧
                                                (I2 q21 (n5 + 1) H6) ∧ μ3 q21 (n5 + 1) H6 < μ3 n4 n5 H6))))))) ∧ (¬ ((q7 : Int) ≤ 102) → (
                                      R (.tuple #[(.float .f64 0), (.bool false)]) H6))))) ∧ (¬ ((97 : Int) ≤ q7) → (
                                R (.tuple #[(.float .f64 0), (.bool false)]) H6))))))))) ∧ (¬ ((n5 : Int) < 16) → (
                  I1 n4 H6))))) ∧
        ∀ n22 : Int, ∀ H23 : Heap, I1 n22 H23 → (
          Does Tryd.prog 23 [(.float .f64 (Int.toNat n22))] H23 fun v24 H25 => ∃ n26 : Int, v24 = (.int .u64 n26) ∧ (
            ((((n26 : Int) ≠ n22) → (
                  R (.tuple #[(.float .f64 0), (.bool false)]) H25)) ∧ (¬ ((n26 : Int) ≠ n22) → (
                  R (.tuple #[(.float .f64 (Int.toNat n22)), (.bool true)]) H25))))))))) := by kernel_rfl


end Go.Proofs
end

section
open Go Go.Vc
namespace Go.Proofs

theorem wrap_u8 (n : Int) : IntKind.wrap .u8 n = n % 256 := by
  simp only [IntKind.wrap, IntKind.bits, IntKind.signed]
  simp

theorem _root_.Go.Vc.NewB.ext {H H' : Heap} {b c : Nat} {s : ByteArray} {e : TypeId} (h : NewB H b s c e H') : Ext [] H H' := by
  obtain ⟨rfl, _, rfl⟩ := h
  refine ⟨by simp, fun k hk _ => ?_⟩
  rw [Array.getElem?_push, if_neg (by omega)]
theorem _root_.Go.Vc.NewB.cell {H H' : Heap} {b c : Nat} {s : ByteArray} {e : TypeId} (h : NewB H b s c e H') {j : Nat} (hj : j < s.size) : hcell H' b j = some (.int .u8 ((s.data.toList.getD j 0).toNat : Int)) := by
  obtain ⟨rfl, _, rfl⟩ := h
  have hj' : j < s.data.size := hj
  simp [hcell, bytesRow, Array.getElem?_append, hj]

/-- A letter made small. -/
def lowI (c : Int) : Int := bits .or .u8 c 32
theorem lowI_le : ∀ c : Nat, c < 256 → 0 ≤ lowI c ∧ lowI c ≤ 255 := by decide +kernel
/-- What a byte is worth as a digit (of whatever base). -/
def hraw (c : Int) : Option Int := if 48 ≤ c ∧ c ≤ 57 then some (c - 48) else if 97 ≤ lowI c ∧ lowI c ≤ 122 then some (lowI c - 87) else none
theorem hraw_le {c : Nat} (h : c < 256) {d : Int} (hd : hraw c = some d) : 0 ≤ d ∧ d ≤ 35 := by
  unfold hraw at hd
  split at hd
  · simp only [Option.some.injEq] at hd; omega
  · split at hd
    · simp only [Option.some.injEq] at hd; omega
    · cases hd

inductive PR where
  | ok (n : Int)
  | syn
  | rng
/-- What comes of the digits behind n. -/
def pu (n : Int) : List UInt8 → PR
  | [] => .ok n
  | c :: r => match hraw c.toNat with
    | none => .syn
    | some d => if 16 ≤ d then .syn else if 1152921504606846976 ≤ n then .rng else pu (n * 16 + d) r
def puT (s : ByteArray) : PR := if s = .empty then .syn else pu 0 s.data.toList
def PR.v : PR → Value
  | .ok n => .tuple #[.int .u64 n, .nilIface]
  | .syn => .tuple #[.int .u64 0, .iface 64 (.int .i64 2)]
  | .rng => .tuple #[.int .u64 18446744073709551615, .iface 64 (.int .i64 1)]

theorem low_ok (c : Int) (H : Heap) : Does Tryd.prog 44 [.int .u8 c] H fun v H' => v = .int .u8 (lowI c) ∧ H = H' := by
  refine Fn_of_vc Tryd.mixed (LowV _ _ _) ?_
  rintro q rfl
  exact ⟨rfl, rfl⟩

def letP (cn : Int) (H : Heap) (X : Value → Heap → Prop) (K : Int → Heap → Prop) : Prop :=
  Does Tryd.prog 44 [(.int .u8 cn)] H fun v89 H90 => ∃ n91 : Int, v89 = (.int .u8 n91) ∧
    ((97 : Int) ≤ n91 →
      Does Tryd.prog 44 [(.int .u8 cn)] H90 fun v92 H93 => ∃ n94 : Int, v92 = (.int .u8 n94) ∧
        ((n94 : Int) ≤ 122 →
          Does Tryd.prog 44 [(.int .u8 cn)] H93 fun v95 H96 => ∃ n97 : Int, v95 = (.int .u8 n97) ∧
            ∀ q98 : Int, q98 = IntKind.wrap .u8 (n97 - 97) → ∀ q99 : Int, q99 = IntKind.wrap .u8 (q98 + 10) → K q99 H96) ∧
        (¬ ((n94 : Int) ≤ 122) → X (.tuple #[(.int .u64 0), (.iface 64 (.int .i64 2))]) H93)) ∧
    (¬ ((97 : Int) ≤ n91) → X (.tuple #[(.int .u64 0), (.iface 64 (.int .i64 2))]) H90)

theorem let_ok {cn : Nat} (hc : cn < 256) {H : Heap} {X : Value → Heap → Prop} {K : Int → Heap → Prop} (hn : ¬ (48 ≤ (cn : Int) ∧ (cn : Int) ≤ 57)) (hx : hraw cn = none → X (PR.v .syn) H) (hk : ∀ d, hraw cn = some d → K d H) : letP cn H X K := by
  obtain ⟨l0, l1⟩ := lowI_le cn hc
  refine (low_ok _ _).mono ?_
  rintro _ _ ⟨rfl, rfl⟩
  refine ⟨_, rfl, fun h1 => (low_ok _ _).mono ?_, fun h1 => hx (by rw [hraw, if_neg hn, if_neg (by omega)])⟩
  rintro _ _ ⟨rfl, rfl⟩
  refine ⟨_, rfl, fun h2 => (low_ok _ _).mono ?_, fun h2 => hx (by rw [hraw, if_neg hn, if_neg (by omega)])⟩
  rintro _ _ ⟨rfl, rfl⟩
  refine ⟨_, rfl, ?_⟩
  rintro q98 rfl q99 rfl
  rw [wrap_u8, wrap_u8, show ((lowI cn - 97) % 256 + 10) % 256 = lowI cn - 87 by omega]
  exact hk _ (by rw [hraw, if_neg hn, if_pos ⟨h1, h2⟩])

def digP (cn : Int) (H : Heap) (X : Value → Heap → Prop) (K : Int → Heap → Prop) : Prop :=
  ((48 : Int) ≤ cn → ((cn : Int) ≤ 57 → ∀ q88 : Int, q88 = IntKind.wrap .u8 (cn - 48) → K q88 H) ∧ (¬ ((cn : Int) ≤ 57) → letP cn H X K)) ∧
  (¬ ((48 : Int) ≤ cn) → letP cn H X K)

theorem dig_ok {cn : Nat} (hc : cn < 256) {H : Heap} {X : Value → Heap → Prop} {K : Int → Heap → Prop} (hx : hraw cn = none → X (PR.v .syn) H) (hk : ∀ d, hraw cn = some d → K d H) : digP cn H X K := by
  refine ⟨fun h1 => ⟨fun h2 => ?_, fun h2 => let_ok hc (by omega) hx hk⟩, fun h1 => let_ok hc (by omega) hx hk⟩
  rintro q rfl
  rw [wrap_u8, show ((cn : Int) - 48) % 256 = (cn : Int) - 48 by omega]
  exact hk _ (by rw [hraw, if_pos ⟨h1, h2⟩])

theorem pu_ok (s : ByteArray) (hs : s.size ≤ maxLen) (H : Heap) : Does Tryd.prog 33 [.string s, .int .i64 16, .int .i64 64] H fun v H' => v = (puT s).v ∧ Ext [] H H' := by
  refine Fn_of_vc Tryd.mixed (PuV _ _ _) ?_
  refine ⟨fun e => ⟨by rw [puT, if_pos (show s = .empty from e)]; rfl, Ext.refl _ _⟩, fun e => ?_⟩
  have hT : puT s = pu 0 s.data.toList := by rw [puT, if_neg (show ¬ s = .empty from e)]
  rw [hT]
  refine ⟨fun s' n H' => s' = s ∧ n = 16 ∧ H' = H, ⟨fun _ => ⟨fun _ => ⟨rfl, rfl, rfl⟩, fun e => absurd (by decide) e⟩, fun e => absurd (by decide) e⟩, ?_⟩
  rintro s' _ _ ⟨e1, rfl, rfl⟩
  obtain rfl : s = s' := e1.symm
  refine ⟨fun n H' => n = 64 ∧ H' = _, ⟨fun e => absurd e (by decide), fun _ => ⟨fun e => absurd e (by decide), fun _ => ⟨fun e => absurd e (by decide), fun _ => ⟨rfl, rfl⟩⟩⟩⟩, ?_⟩
  rintro _ _ ⟨rfl, rfl⟩
  refine ⟨fun n H' => n = 1152921504606846976 ∧ H' = _, ⟨fun e => absurd e (by decide), fun _ => ⟨fun _ => ⟨rfl, rfl⟩, fun e => absurd rfl e⟩⟩, ?_⟩
  rintro _ H ⟨rfl, rfl⟩
  rintro q72 rfl
  refine ⟨by decide, ?_⟩
  rintro q73 rfl q74 rfl
  rw [show IntKind.wrap .u64 (IntKind.wrap .u64 (1 * 2 ^ (min (Int.toNat (IntKind.wrap .u64 64)) (IntKind.bits .u64))) - 1) = 18446744073709551615 by decide +kernel]
  intro c b H77 hb
  refine ⟨fun t acc i H' => t = false ∧ H' = H77 ∧ ∃ j : Nat, i = j ∧ j ≤ s.size ∧ 0 ≤ acc ∧ acc < 18446744073709551616 ∧ pu 0 s.data.toList = pu acc (s.data.toList.drop j), fun _ _ i _ => s.size - i.toNat, ⟨rfl, rfl, 0, rfl, by omega, by decide, by decide, rfl⟩, ?_⟩
  rintro _ acc _ H83 ⟨rfl, e83, j, rfl, hj, ha0, ha1, hpu⟩
  obtain rfl : H77 = H83 := e83.symm
  rw [hpu]
  have hsl : s.data.toList.length = s.size := Array.length_toList
  refine ⟨fun hlt => ⟨by omega, hlt, b, 0, rfl, ?_⟩, fun hlt => ⟨fun e => (by cases e), fun _ => ?_⟩⟩
  · have hj' : j < s.size := by omega
    have hdrop : s.data.toList.drop j = s.data.toList.getD j 0 :: s.data.toList.drop (j + 1) := by
      rw [List.drop_eq_getElem_cons (by omega), List.getD_eq_getElem?_getD, List.getElem?_eq_getElem (by omega)]; rfl
    refine ⟨_, by rw [Nat.zero_add, Int.toNat_natCast]; exact hb.cell hj', ?_⟩
    rw [hdrop]
    generalize s.data.toList.getD j 0 = cb at *
    have hc : cb.toNat < 256 := cb.toNat_lt
    generalize hcn : cb.toNat = cn at *
    have syn : ∀ (h : hraw cn = none), pu acc (cb :: s.data.toList.drop (j + 1)) = .syn := by
      intro h; simp only [pu, hcn, h]
    have key := dig_ok hc (H := H77) (X := fun v H' => v = (pu acc (cb :: s.data.toList.drop (j + 1))).v ∧ Ext [] H H') (K := fun d H' => false = false ∧ H' = H77 ∧ hraw cn = some d) (fun h => ⟨by rw [syn h], hb.ext⟩) (fun d hd => ⟨rfl, rfl, hd⟩)
    refine ⟨fun d t H' => t = false ∧ H' = H77 ∧ hraw cn = some d, ⟨fun _ => ⟨fun e => absurd e (by decide), fun _ => key⟩, fun _ => key⟩, ?_⟩
    rintro d _ H9 ⟨rfl, e9, hd⟩
    obtain rfl : H77 = H9 := e9.symm
    obtain ⟨d0, d1⟩ := hraw_le hc hd
    rintro q137 rfl
    rw [show IntKind.wrap .u8 16 = 16 by decide]
    refine ⟨fun h16 => ⟨by simp only [pu, hcn, hd]; rw [if_pos h16]; rfl, hb.ext⟩, fun h16 => ⟨fun hn => ⟨by simp only [pu, hcn, hd]; rw [if_neg h16, if_pos hn]; rfl, hb.ext⟩, fun hn => ?_⟩⟩
    rintro q138 rfl q139 rfl q140 rfl q141 rfl
    rw [show IntKind.wrap .u64 16 = 16 by decide, wrap_u64, wrap_u64, wrap_u64, show ((acc * 16) % 18446744073709551616 + d % 18446744073709551616) % 18446744073709551616 = acc * 16 + d by omega]
    refine ⟨fun h => absurd h (by omega), fun _ => ⟨fun h => absurd h (by omega), fun _ => ⟨?_, ⟨rfl, rfl, j + 1, by omega, by omega, by omega, by omega, ?_⟩, ?_⟩⟩⟩
    · unfold maxLen at hs; exact ⟨by omega, by omega⟩
    · simp only [pu, hcn, hd]; rw [if_neg h16, if_neg hn]
    · show s.size - ((j : Int) + 1).toNat < s.size - (j : Int).toNat
      omega
  · have : s.data.toList.drop j = [] := List.drop_of_length_le (by omega)
    rw [this]
    exact ⟨rfl, hb.ext⟩
end Go.Proofs
end

section
open Go Go.Vc
namespace Go.Proofs

theorem fui_ok {x : Nat} (hx : x < 18446744073709551616) {H : Heap} (h : T64 H) :
    Does Tryd.prog 24 [.int .u64 x, .int .i64 16] H fun v H' => ∃ m s, v = .string s ∧ 1 ≤ m ∧ m ≤ 16 ∧ s = ⟨(hexL x m).toArray⟩ ∧ x < 16 ^ m ∧ Ext [] H H' := by
  refine Fn_of_vc Tryd.mixed (FuV _ _ _) ?_
  refine Does.mono (R := fun v H' => ∃ m s, v = .string s ∧ 1 ≤ m ∧ m ≤ 16 ∧ s = ⟨(hexL x m).toArray⟩ ∧ x < 16 ^ m ∧ Ext [] H H') ?_ ?_
  · refine Fn_of_vc Tryd.mixed (FuiV _ _ _) ?_
    refine ⟨fun e => absurd e (by decide), fun _ => (fb_ok hx h).mono ?_⟩
    rintro _ H14 ⟨m, s, rfl, h1, h2, h3, h4, h5⟩
    exact ⟨_, _, _, _, rfl, m, s, rfl, h1, h2, h3, h4, h5⟩
  · rintro _ H2 ⟨m, s, rfl, h1⟩
    exact ⟨_, rfl, m, s, rfl, h1⟩

theorem hexL_zero {x m : Nat} (h : x < 16 ^ m) : (hexL x (m + 1)) = 48 :: hexL x m := by
  have : x / 16 ^ m = 0 := Nat.div_eq_of_lt h
  simp only [hexL, hexd, this]
  rfl

theorem text_ok {w : Nat} (hw : w < 18446744073709551616) {H : Heap} (h : T64 H) : Does Tryd.prog 8 [.float .f64 w] H fun v H' => v = .string (hexS (plainW w)) ∧ Ext [] H H' := by
  refine Fn_of_vc Tryd.mixed (TextV _ _ _) ?_
  refine (plain_ok hw H).mono ?_
  rintro _ _ ⟨rfl, rfl⟩
  refine ⟨_, rfl, (fui_ok (plain_lt hw) h).mono ?_⟩
  rintro _ H5 ⟨m, s, rfl, h1, h2, rfl, h4, hx⟩
  generalize plainW w = x at *
  refine ⟨_, rfl, fun s H' => H' = H5 ∧ ∃ m, 1 ≤ m ∧ m ≤ 16 ∧ s = ⟨(hexL x m).toArray⟩ ∧ x < 16 ^ m, fun s _ => 16 - s.size, ⟨rfl, m, h1, h2, rfl, h4⟩, ?_⟩
  rintro _ _ ⟨rfl, m, h1, h2, rfl, h4⟩
  have hsz : (ByteArray.mk (hexL x m).toArray).size = m := by
    show (hexL x m).toArray.size = m
    simp [hexL_length]
  have hcat : (ByteArray.mk #[48]) ++ (ByteArray.mk (hexL x m).toArray) = ⟨(hexL x (m + 1)).toArray⟩ := by
    rw [hexL_zero h4]
    apply ByteArray.ext
    rw [ByteArray.data_append]
    apply Array.ext'
    simp
  rw [hcat, hsz]
  refine ⟨fun hlt => ⟨⟨by show _ ≤ ((1 + m : Nat) : Int); omega, by show ((1 + m : Nat) : Int) ≤ _; omega⟩, ⟨rfl, m + 1, by omega, by omega, rfl, ?_⟩, ?_⟩, fun hlt => ⟨?_, hx⟩⟩
  · exact Nat.lt_of_lt_of_le h4 (Nat.pow_le_pow_right (by decide) (by omega))
  · show 16 - (ByteArray.mk (hexL x (m + 1)).toArray).size < 16 - (ByteArray.mk (hexL x m).toArray).size
    have : (ByteArray.mk (hexL x (m + 1)).toArray).size = m + 1 := by
      show (hexL x (m + 1)).toArray.size = m + 1
      simp [hexL_length]
    rw [hsz, this]
    omega
  · have : m = 16 := by omega
    subst this
    rfl

theorem hraw_dig : ∀ d : Nat, d < 16 → hraw (digN d) = some (d : Int) := by decide +kernel

theorem pu_hexL {x : Nat} : ∀ (m : Nat) (acc : Nat), m ≤ 16 → acc < 16 ^ (16 - m) → pu acc (hexL x m) = .ok ((acc * 16 ^ m + x % 16 ^ m : Nat) : Int)
  | 0, acc, _, _ => by simp [pu, hexL, Nat.mod_one]
  | m + 1, acc, hm, ha => by
    have hd : x / 16 ^ m % 16 < 16 := Nat.mod_lt _ (by decide)
    have ha' : acc < 1152921504606846976 := by
      have : 16 ^ (16 - (m + 1)) ≤ 16 ^ 15 := Nat.pow_le_pow_right (by decide) (by omega)
      rw [show (16 : Nat) ^ 15 = 1152921504606846976 by decide] at this
      omega
    simp only [hexL, pu, hexd_nat, hraw_dig _ hd]
    rw [if_neg (by omega), if_neg (by omega)]
    have e : ((acc : Int) * 16 + ((x / 16 ^ m % 16 : Nat) : Int)) = ((acc * 16 + x / 16 ^ m % 16 : Nat) : Int) := by omega
    rw [e, pu_hexL m _ (by omega)]
    · congr 2
      rw [Nat.pow_succ, Nat.mod_mul, Nat.add_mul, Nat.mul_assoc, Nat.mul_comm 16 (16 ^ m), Nat.mul_comm (x / 16 ^ m % 16)]
      omega
    · rw [show 16 - m = (16 - (m + 1)) + 1 by omega, Nat.pow_succ]
      omega

theorem puT_hex {x : Nat} (hx : x < 18446744073709551616) : puT (hexS x) = .ok x := by
  have hne : ¬ hexS x = .empty := fun e => by
    have := hexS_size x
    rw [e] at this
    exact absurd this (by decide)
  rw [puT, if_neg hne]
  have := pu_hexL (x := x) 16 0 (by decide) (by decide)
  rw [show (16 : Nat) ^ 16 = 18446744073709551616 by decide, Nat.mod_eq_of_lt hx] at this
  simpa [hexS] using this

theorem pua_ok {x : Nat} (hx : x < 18446744073709551616) (H : Heap) : Does Tryd.prog 25 [.string (hexS x), .int .i64 16, .int .i64 64] H fun v H' => v = .tuple #[.int .u64 x, .nilIface] ∧ Ext [] H H' := by
  refine Fn_of_vc Tryd.mixed (PuaV _ _ _) ?_
  refine (pu_ok _ (by rw [hexS_size]; decide) H).mono ?_
  rintro _ H2 ⟨rfl, hx2⟩
  rw [puT_hex hx]
  exact ⟨_, _, rfl, .inl rfl, fun h => absurd rfl h, fun _ => ⟨rfl, hx2⟩⟩

/-- What is printed is parsed. -/
theorem parse_hex {x : Nat} (hx : x < 18446744073709551616) {H : Heap} (h : T64 H) : Does Tryd.prog 10 [.string (hexS x)] H fun v H' => v = (if plainW x = x then .tuple #[.float .f64 x, .bool true] else .tuple #[.float .f64 0, .bool false]) ∧ Ext [] H H' := by
  refine Fn_of_vc Tryd.mixed (ParseV _ _ _) ?_
  refine (pua_ok hx H).mono ?_
  rintro _ H2 ⟨rfl, hx2⟩
  refine ⟨_, _, rfl, .inl rfl, fun h => absurd rfl h, fun _ => (text_ok (w := Int.toNat ((x : Nat) : Int)) (by omega) (h.ext hx2)).mono ?_⟩
  rintro _ H6 ⟨rfl, hx6⟩
  rw [Int.toNat_natCast]
  refine ⟨_, rfl, fun e => ⟨?_, hx2.trans hx6⟩, fun e => ⟨?_, hx2.trans hx6⟩⟩
  · rw [if_neg fun h => e (by rw [h])]
  · rw [if_pos]
    have : hexS (plainW x) = hexS x := Classical.not_not.1 e
    exact (hexS_inj (plain_lt hx) hx).1 this
end Go.Proofs
end

