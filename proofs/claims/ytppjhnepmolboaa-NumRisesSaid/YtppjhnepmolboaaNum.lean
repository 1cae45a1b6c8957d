/-
  The order of numbers by their words, and the contracts of the functions of the package num and of its reference. No condition.
-/
import Derived.Test.YtppjhnepmolboaaVc
import Derived.Test.YtppjhnepmolboaaProg

section
open Go Go.Vc
namespace Go.Proofs
open Ieee

def fneg (f : Format) (w : Nat) : Bool := w / f.signWeight % 2 == 1
def frung (f : Format) (w : Nat) : Nat := w % f.signWeight
/-- A rung's number, in units of the least one. -/
def fval (f : Format) (r : Nat) : Nat := if r < f.binade then r else (f.binade + r % f.binade) * 2 ^ (r / f.binade - 1)
/-- What a word is worth in the order of numbers. -/
def fkey (f : Format) (w : Nat) : Int := if fneg f w then -(frung f w : Int) else frung f w

theorem binade_pos (f : Format) : 0 < f.binade := Nat.two_pow_pos _

theorem fval_step (f : Format) (r : Nat) : fval f r < fval f (r + 1) := by
  have hb := binade_pos f
  unfold fval
  generalize f.binade = B at *
  by_cases h1 : r + 1 < B
  · rw [if_pos (by omega), if_pos h1]; omega
  · rw [if_neg h1]
    by_cases h2 : r < B
    · have e : r + 1 = B := by omega
      rw [if_pos h2, e, Nat.mod_self, Nat.div_self hb]
      simp; omega
    · rw [if_neg h2]
      have hq : 1 ≤ r / B := (Nat.le_div_iff_mul_le hb).2 (by omega)
      have hd := Nat.div_add_mod r B
      have hm := Nat.mod_lt r hb
      by_cases h3 : r % B + 1 < B
      · have e1 : (r + 1) / B = r / B := by
          rw [Nat.div_eq_iff hb]
          constructor
          · rw [Nat.mul_comm]; omega
          · rw [Nat.mul_comm]; omega
        have e2 : (r + 1) % B = r % B + 1 := by
          have := Nat.div_add_mod (r + 1) B
          rw [e1] at this; omega
        rw [e1, e2]
        exact Nat.mul_lt_mul_of_pos_right (by omega) (Nat.two_pow_pos _)
      · have e1 : (r + 1) / B = r / B + 1 := by
          have e : r + 1 = B * (r / B + 1) := by rw [Nat.mul_add]; omega
          rw [e, Nat.mul_div_cancel_left _ hb]
        have e2 : (r + 1) % B = 0 := by
          have := Nat.div_add_mod (r + 1) B
          rw [e1, Nat.mul_add] at this; omega
        rw [e1, e2]
        obtain ⟨q, hq'⟩ : ∃ q, r / B = q + 1 := ⟨r / B - 1, by omega⟩
        rw [hq', Nat.add_sub_cancel, Nat.add_sub_cancel, Nat.pow_succ, Nat.mul_comm (2 ^ q) 2, ← Nat.mul_assoc]
        exact Nat.mul_lt_mul_of_pos_right (by omega) (Nat.two_pow_pos _)

theorem fval_lt (f : Format) {r s : Nat} (h : r < s) : fval f r < fval f s := by
  induction s with
  | zero => omega
  | succ s ih =>
    have := fval_step f s
    by_cases h1 : r < s
    · have := ih h1; omega
    · have : r = s := by omega
      subst this; exact fval_step f r

theorem fval_le (f : Format) {r s : Nat} : fval f r ≤ fval f s ↔ r ≤ s := by
  constructor
  · intro h
    by_cases h1 : r ≤ s
    · exact h1
    · have := fval_lt f (show s < r by omega); omega
  · intro h
    by_cases h1 : r = s
    · subst h1; exact Nat.le_refl _
    · exact Nat.le_of_lt (fval_lt f (by omega))

theorem fval_zero (f : Format) : fval f 0 = 0 := by
  unfold fval
  rw [if_pos (binade_pos f)]

theorem read_fin {f : Format} {w : Nat} (h : frung f w < f.infRung) : ∃ (m k : Nat), f.read w = .number (fneg f w) m (f.leastPlace + k) ∧ m * 2 ^ k = fval f (frung f w) := by
  unfold Format.read fval
  show ∃ m k : Nat, (if frung f w < f.binade then _ else _) = _ ∧ _
  by_cases h1 : frung f w < f.binade
  · refine ⟨frung f w, 0, ?_, ?_⟩
    · rw [if_pos h1]; simp [frung, fneg]
    · rw [if_pos h1]; simp
  · refine ⟨f.binade + frung f w % f.binade, frung f w / f.binade - 1, ?_, ?_⟩
    · rw [if_neg h1]; simp only [frung] at h ⊢; rw [if_pos h]; rfl
    · rw [if_neg h1]
theorem read_inf {f : Format} {w : Nat} (h : frung f w = f.infRung) (hb : f.binade ≤ f.infRung) : f.read w = .infinity (fneg f w) := by
  unfold Format.read
  show (if frung f w < f.binade then _ else _) = _
  rw [if_neg (by omega)]
  simp only [frung] at h ⊢
  rw [if_neg (by omega), if_pos h]; rfl
theorem read_nan {f : Format} {w : Nat} (h : f.infRung < frung f w) (hb : f.binade ≤ f.infRung) : f.read w = .nan (fneg f w) (frung f w - f.infRung) := by
  unfold Format.read
  show (if frung f w < f.binade then _ else _) = _
  rw [if_neg (by omega)]
  simp only [frung] at h ⊢
  rw [if_neg (by omega), if_neg (by omega)]; rfl

theorem cmp_int (a b : Int) : (compare a b = .lt ↔ a < b) ∧ (compare a b = .eq ↔ a = b) ∧ (compare a b = .gt ↔ b < a) := by
  simp only [compare, compareOfLessAndEq]
  refine ⟨?_, ?_, ?_⟩ <;> (split <;> (try split) <;> simp <;> omega)

/-- A number's worth, in units of the least one. -/
def fsv (f : Format) (w : Nat) : Int := if fneg f w then -(fval f (frung f w) : Int) else fval f (frung f w)

theorem fsv_key (f : Format) (a b : Nat) : (fsv f a < fsv f b ↔ fkey f a < fkey f b) ∧ (fsv f a = fsv f b ↔ fkey f a = fkey f b) := by
  have h1 := fval_le f (r := frung f a) (s := frung f b)
  have h2 := fval_le f (r := frung f b) (s := frung f a)
  have h3 := fval_le f (r := frung f a) (s := 0)
  have h4 := fval_le f (r := frung f b) (s := 0)
  rw [fval_zero] at h3 h4
  unfold fsv fkey
  cases fneg f a <;> cases fneg f b <;> simp only [Bool.false_eq_true, if_true, if_false] <;> constructor <;> constructor <;> intro h <;> omega

theorem order_fin {f : Format} {a b : Nat} (ha : frung f a < f.infRung) (hb : frung f b < f.infRung) : ∃ D : Int, 0 < D ∧ ∃ x y : Int, f.order a b = some (compare x y) ∧ x * D = fsv f a ∧ y * D = fsv f b := by
  obtain ⟨m, k, e1, v1⟩ := read_fin ha
  obtain ⟨n, l, e2, v2⟩ := read_fin hb
  refine ⟨((2 ^ min k l : Nat) : Int), by have := Nat.two_pow_pos (min k l); omega, _, _, by unfold Format.order; rw [e1, e2]; rfl, ?_, ?_⟩
  · have ek : (f.leastPlace + k - min (f.leastPlace + k) (f.leastPlace + l)).toNat = k - min k l := by omega
    rw [ek]
    unfold signed fsv
    rw [Nat.shiftLeft_eq, ← v1]
    have : m * 2 ^ (k - min k l) * 2 ^ min k l = m * 2 ^ k := by
      rw [Nat.mul_assoc, ← Nat.pow_add]; congr 2; omega
    have h2 : ((m * 2 ^ (k - min k l) : Nat) : Int) * ((2 ^ min k l : Nat) : Int) = ((m * 2 ^ k : Nat) : Int) := by rw [← this]; exact (Int.natCast_mul _ _).symm
    split
    · rw [Int.neg_mul, h2]
    · exact h2
  · have ek : (f.leastPlace + l - min (f.leastPlace + k) (f.leastPlace + l)).toNat = l - min k l := by omega
    rw [ek]
    unfold signed fsv
    rw [Nat.shiftLeft_eq, ← v2]
    have : n * 2 ^ (l - min k l) * 2 ^ min k l = n * 2 ^ l := by
      rw [Nat.mul_assoc, ← Nat.pow_add]; congr 2; omega
    have h2 : ((n * 2 ^ (l - min k l) : Nat) : Int) * ((2 ^ min k l : Nat) : Int) = ((n * 2 ^ l : Nat) : Int) := by rw [← this]; exact (Int.natCast_mul _ _).symm
    split
    · rw [Int.neg_mul, h2]
    · exact h2

/-- THE ORDER OF NUMBERS, by their words. -/
theorem order_key {f : Format} (hbi : f.binade ≤ f.infRung) {a b : Nat} (ha : frung f a ≤ f.infRung) (hb : frung f b ≤ f.infRung) : ∃ o, f.order a b = some o ∧ (o = .lt ↔ fkey f a < fkey f b) ∧ (o = .eq ↔ fkey f a = fkey f b) ∧ (o = .gt ↔ fkey f b < fkey f a) := by
  have hpos : 0 < f.infRung := Nat.lt_of_lt_of_le (binade_pos f) hbi
  by_cases h1 : frung f a < f.infRung
  · by_cases h2 : frung f b < f.infRung
    · obtain ⟨D, hD, x, y, e, ex, ey⟩ := order_fin h1 h2
      refine ⟨_, e, ?_⟩
      obtain ⟨c1, c2, c3⟩ := cmp_int x y
      rw [c1, c2, c3]
      obtain ⟨k1, k2⟩ := fsv_key f a b
      obtain ⟨k3, _⟩ := fsv_key f b a
      rw [← k1, ← k2, ← k3, ← ex, ← ey]
      exact ⟨(Int.mul_lt_mul_right hD).symm, (Int.mul_eq_mul_right_iff (by omega)).symm, (Int.mul_lt_mul_right hD).symm⟩
    · have e2 : frung f b = f.infRung := by omega
      obtain ⟨m, k, e1, v1⟩ := read_fin h1
      refine ⟨_, by unfold Format.order; rw [e1, read_inf e2 hbi]; rfl, ?_⟩
      unfold fkey
      cases fneg f b <;> cases fneg f a <;> simp <;> omega
  · have e1 : frung f a = f.infRung := by omega
    by_cases h2 : frung f b < f.infRung
    · obtain ⟨m, k, e2, v2⟩ := read_fin h2
      refine ⟨_, by unfold Format.order; rw [read_inf e1 hbi, e2]; rfl, ?_⟩
      unfold fkey
      cases fneg f b <;> cases fneg f a <;> simp <;> omega
    · have e2 : frung f b = f.infRung := by omega
      refine ⟨_, by unfold Format.order; rw [read_inf e1 hbi, read_inf e2 hbi]; rfl, ?_⟩
      unfold fkey
      cases fneg f b <;> cases fneg f a <;> simp [compare, compareOfLessAndEq] <;> omega
end Go.Proofs
namespace Go.Proofs
open Ieee
/-! ### Words of 64 bits -/
theorem d_sign : Ieee.double.signWeight = 9223372036854775808 := by decide
theorem d_inf : Ieee.double.infRung = 9218868437227405312 := by decide +kernel
theorem d_bin : Ieee.double.binade = 4503599627370496 := by decide
theorem d_bi : Ieee.double.binade ≤ Ieee.double.infRung := by rw [d_inf, d_bin]; omega

/-- A NaN's word. -/
def nanW (w : Nat) : Bool := decide (9218868437227405312 < w % 9223372036854775808)
def negW (w : Nat) : Bool := decide (9223372036854775808 ≤ w)
def keyW (w : Nat) : Int := if 9223372036854775808 ≤ w then -((w : Int) - 9223372036854775808) else w

theorem fneg_w {w : Nat} (h : w < 18446744073709551616) : fneg Ieee.double w = negW w := by
  unfold fneg negW
  rw [d_sign]
  by_cases h1 : 9223372036854775808 ≤ w
  · have : w / 9223372036854775808 = 1 := by omega
    rw [this, decide_eq_true h1]; rfl
  · have : w / 9223372036854775808 = 0 := by omega
    rw [this, decide_eq_false h1]; rfl

theorem frung_w (w : Nat) : frung Ieee.double w = w % 9223372036854775808 := by unfold frung; rw [d_sign]

theorem fkey_w {w : Nat} (h : w < 18446744073709551616) : fkey Ieee.double w = keyW w := by
  unfold fkey keyW
  rw [fneg_w h, frung_w, negW]
  by_cases h1 : 9223372036854775808 ≤ w
  · rw [decide_eq_true h1, if_pos rfl, if_pos h1]; omega
  · rw [decide_eq_false h1, if_neg (by simp), if_neg h1]; omega

theorem fnan_w (w : Nat) : FNan w ↔ nanW w = true := by
  unfold FNan nanW
  rw [decide_eq_true_eq]
  have hr := frung_w w
  have hi := d_inf
  by_cases h1 : frung Ieee.double w < Ieee.double.infRung
  · obtain ⟨m, k, e, _⟩ := read_fin h1
    rw [e]
    simp [Datum.isNaN]; omega
  · by_cases h2 : frung Ieee.double w = Ieee.double.infRung
    · rw [read_inf h2 d_bi]
      simp [Datum.isNaN]; omega
    · rw [read_nan (by omega) d_bi]
      simp [Datum.isNaN]; omega

theorem order_nan {a b : Nat} (h : nanW a = true ∨ nanW b = true) : Ieee.double.order a b = none := by
  rw [← fnan_w, ← fnan_w] at h
  unfold FNan at h
  unfold Format.order
  generalize Ieee.double.read a = x at *
  generalize Ieee.double.read b = y at *
  cases x <;> cases y <;> simp_all [Datum.isNaN, Datum.order]

theorem order_w {a b : Nat} (ha : a < 18446744073709551616) (hb : b < 18446744073709551616) (na : nanW a = false) (nb : nanW b = false) : (FLt a b ↔ keyW a < keyW b) ∧ (FEq a b ↔ keyW a = keyW b) ∧ (FGt a b ↔ keyW b < keyW a) := by
  have hna : ¬ (9218868437227405312 < a % 9223372036854775808) := by simpa [nanW] using na
  have hnb : ¬ (9218868437227405312 < b % 9223372036854775808) := by simpa [nanW] using nb
  obtain ⟨o, e, h1, h2, h3⟩ := order_key d_bi (a := a) (b := b) (by rw [frung_w, d_inf]; omega) (by rw [frung_w, d_inf]; omega)
  rw [fkey_w ha, fkey_w hb] at h1 h2 h3
  unfold FLt FEq FGt
  rw [e]
  simp only [Option.some.injEq]
  exact ⟨h1, h2, h3⟩

theorem no_order {a b : Nat} (h : nanW a = true ∨ nanW b = true) : ¬ FLt a b ∧ ¬ FEq a b ∧ ¬ FGt a b := by
  unfold FLt FEq FGt
  rw [order_nan h]
  simp
end Go.Proofs
end

section
open Go Go.Vc
namespace Go.Proofs
set_option maxRecDepth 100000
/-- math.IsNaN -/
theorem vc_isnan (x0 : Nat) (H : Heap) (R : Value → Heap → Prop) : Walk Try.prog 59 [] [(.float .f64 x0)] H R = (
  R (.bool (@decide (¬ FEq x0 x0) (Classical.propDecidable _))) H) := by kernel_rfl


/-- cmp.isNaN[float64] -/
theorem vc_isnanf (x0 : Nat) (H : Heap) (R : Value → Heap → Prop) : Walk Try.prog 88 [] [(.float .f64 x0)] H R = (
  R (.bool (@decide (¬ FEq x0 x0) (Classical.propDecidable _))) H) := by kernel_rfl


/-- cmp.isNaN[int] -/
theorem vc_isnani (x0 : Int) (H : Heap) (R : Value → Heap → Prop) : Walk Try.prog 87 [] [(.int .i64 x0)] H R = (
  R (.bool (@decide ((x0 : Int) ≠ x0) (Classical.propDecidable _))) H) := by kernel_rfl


/-- math.NaN -/
theorem vc_nan (H : Heap) (R : Value → Heap → Prop) : Walk Try.prog 51 [] [] H R = (
  R (.float .f64 (Int.toNat 9221120237041090561)) H) := by kernel_rfl


/-- math.Inf -/
theorem vc_inf (x0 : Int) (H : Heap) (R : Value → Heap → Prop) : Walk Try.prog 50 [] [(.int .i64 x0)] H R = (
  ((((0 : Int) ≤ x0) → (
        R (.float .f64 (Int.toNat 9218868437227405312)) H)) ∧ (¬ ((0 : Int) ≤ x0) → (
        R (.float .f64 (Int.toNat 18442240474082181120)) H)))) := by kernel_rfl


/-- math.Signbit -/
theorem vc_signbit (x0 : Nat) (H : Heap) (R : Value → Heap → Prop) : Walk Try.prog 13 [] [(.float .f64 x0)] H R = (
  ∀ q1 : Int, q1 = IntKind.wrap .i64 (x0 : Nat) → (
    R (.bool (@decide ((q1 : Int) < 0) (Classical.propDecidable _))) H)) := by kernel_rfl


/-- math.Copysign -/
theorem vc_copysign (x0 : Nat) (x1 : Nat) (H : Heap) (R : Value → Heap → Prop) : Walk Try.prog 49 [] [(.float .f64 x0), (.float .f64 x1)] H R = (
  ∀ q1 : Int, q1 = bits .andNot .u64 (x0 : Nat) 9223372036854775808 → (
    ∀ q2 : Int, q2 = bits .and .u64 (x1 : Nat) 9223372036854775808 → (
      ∀ q3 : Int, q3 = bits .or .u64 q1 q2 → (
        R (.float .f64 (Int.toNat q3)) H)))) := by kernel_rfl


/-- math.Floor -/
theorem vc_floor (x0 : Nat) (H : Heap) (R : Value → Heap → Prop) : Walk Try.prog 60 [] [(.float .f64 x0)] H R = (
  (¬ FNan x0) ∧ ∀ f1 : Nat, f1 = FloatKind.encode .f64 (Ieee.Datum.integral .down (Ieee.Format.read Ieee.double x0)) → (
    R (.float .f64 f1) H)) := by kernel_rfl


/-- pentimento/pentimentohand.Pick -/
theorem vc_pick (x0 : Int) (x1 : Int) (H : Heap) (R : Value → Heap → Prop) : Walk Try.prog 23 [] [(.int .i64 x0), (.int .i64 x1)] H R = (
  ((x1 : Int) ≠ 0) ∧
  ∀ q1 : Int, q1 = Int.tmod x0 x1 → (
    ((((q1 : Int) < 0) → (
          (In64 (q1 + x1)) ∧
          R (.int .i64 (q1 + x1)) H)) ∧ (¬ ((q1 : Int) < 0) → (
          R (.int .i64 q1) H))))) := by kernel_rfl


/-- pentimento/pentimentohand.Time -/
theorem vc_time (x0 : Int) (x1 : Nat) (H : Heap) (R : Value → Heap → Prop) : Walk Try.prog 11 [] [(.int .i64 x0), (.float .f64 x1)] H R = (
  Does Try.prog 49 [(.float .f64 0), (.float .f64 13830554455654793216)] H fun v1 H2 => ∃ f3 : Nat, v1 = (.float .f64 f3) ∧ (
    Does Try.prog 50 [(.int .i64 1)] H2 fun v4 H5 => ∃ f6 : Nat, v4 = (.float .f64 f6) ∧ (
      Does Try.prog 50 [(.int .i64 (-1))] H5 fun v7 H8 => ∃ f9 : Nat, v7 = (.float .f64 f9) ∧ (
        Does Try.prog 51 [] H8 fun v10 H11 => ∃ f12 : Nat, v10 = (.float .f64 f12) ∧ (
          ∀ b13 : Nat, ∀ H14 : Heap, New H11 b13 [(.float .f64 0), (.float .f64 0), (.float .f64 0), (.float .f64 0), (.float .f64 0), (.float .f64 0), (.float .f64 0), (.float .f64 0), (.float .f64 0), (.float .f64 0), (.float .f64 0), (.float .f64 0)] 69 H14 → (
            Cells H14 b13 0 12 ∧ ∀ H15 : Heap, Puts H14 b13 0 [(.float .f64 0), (.float .f64 f3), (.float .f64 4607182418800017408), (.float .f64 13830554455654793216), (.float .f64 f6), (.float .f64 f9), (.float .f64 f12), (.float .f64 4612811918334230528), (.float .f64 1), (.float .f64 9223372036854775809), (.float .f64 9218868437227405311), (.float .f64 (Int.toNat 18444492273895866373))] H15 → (
              Does Try.prog 23 [(.int .i64 x0), (.int .i64 15)] H15 fun v16 H17 => ∃ n18 : Int, v16 = (.int .i64 n18) ∧ (
                ((((n18 : Int) < 12) → (
                      (0 : Int) ≤ n18 ∧ (n18 : Int) < (12 : Nat) ∧ (
                        ∃ f19 : Nat, hcell H17 b13 (0 + (Int.toNat n18)) = some (.float .f64 f19) ∧ (
                          R (.float .f64 f19) H17)))) ∧ (¬ ((n18 : Int) < 12) → (
                      R (.float .f64 x1) H17))))))))))) := by kernel_rfl


/-- pentimento/num.sides -/
theorem vc_sides (x0 : Nat) (H : Heap) (R : Value → Heap → Prop) : Walk Try.prog 53 [] [(.float .f64 x0)] H R = (
  Does Try.prog 59 [(.float .f64 x0)] H fun v1 H2 => ∃ t3 : Bool, v1 = (.bool t3) ∧ (
    ((t3 = true → (
          R (.tuple #[(.int .i64 1), (.int .i64 0)]) H2)) ∧ (t3 = false → (
          (((FEq x0 0) → (
                Does Try.prog 13 [(.float .f64 x0)] H2 fun v4 H5 => ∃ t6 : Bool, v4 = (.bool t6) ∧ (
                  ((t6 = true → (
                        R (.tuple #[(.int .i64 0), (.int .i64 (-1))]) H5)) ∧ (t6 = false → (
                        R (.tuple #[(.int .i64 0), (.int .i64 0)]) H5)))))) ∧ (¬ (FEq x0 0) → (
                R (.tuple #[(.int .i64 0), (.int .i64 0)]) H2)))))))) := by kernel_rfl


/-- cmp.Compare[int] -/
theorem vc_cmpi (x0 : Int) (x1 : Int) (H : Heap) (R : Value → Heap → Prop) : Walk Try.prog 54 [] [(.int .i64 x0), (.int .i64 x1)] H R = (
  Does Try.prog 87 [(.int .i64 x0)] H fun v1 H2 => ∃ t3 : Bool, v1 = (.bool t3) ∧ (
    Does Try.prog 87 [(.int .i64 x1)] H2 fun v4 H5 => ∃ t6 : Bool, v4 = (.bool t6) ∧ (
      ((t3 = true → (
            ((t6 = true → (
                  R (.int .i64 0) H5)) ∧ (t6 = false → (
                  R (.int .i64 (-1)) H5))))) ∧ (t3 = false → (
            ((t6 = true → (
                  R (.int .i64 1) H5)) ∧ (t6 = false → (
                  ((((x0 : Int) < x1) → (
                        R (.int .i64 (-1)) H5)) ∧ (¬ ((x0 : Int) < x1) → (
                        ((((x1 : Int) < x0) → (
                              R (.int .i64 1) H5)) ∧ (¬ ((x1 : Int) < x0) → (
                              R (.int .i64 0) H5))))))))))))))) := by kernel_rfl


/-- cmp.Compare[float64] -/
theorem vc_cmpf (x0 : Nat) (x1 : Nat) (H : Heap) (R : Value → Heap → Prop) : Walk Try.prog 56 [] [(.float .f64 x0), (.float .f64 x1)] H R = (
  Does Try.prog 88 [(.float .f64 x0)] H fun v1 H2 => ∃ t3 : Bool, v1 = (.bool t3) ∧ (
    Does Try.prog 88 [(.float .f64 x1)] H2 fun v4 H5 => ∃ t6 : Bool, v4 = (.bool t6) ∧ (
      ((t3 = true → (
            ((t6 = true → (
                  R (.int .i64 0) H5)) ∧ (t6 = false → (
                  R (.int .i64 (-1)) H5))))) ∧ (t3 = false → (
            ((t6 = true → (
                  R (.int .i64 1) H5)) ∧ (t6 = false → (
                  (((FLt x0 x1) → (
                        R (.int .i64 (-1)) H5)) ∧ (¬ (FLt x0 x1) → (
                        (((FGt x0 x1) → (
                              R (.int .i64 1) H5)) ∧ (¬ (FGt x0 x1) → (
                              R (.int .i64 0) H5))))))))))))))) := by kernel_rfl


/-- cmp.Or[int] -/
theorem vc_or (x0 : Option Addr) (x0l : Nat) (x0c : Nat) (H : Heap) (R : Value → Heap → Prop) : Walk Try.prog 55 [] [(.slice x0 x0l x0c)] H R = (
  ∃ I1 : Int → Heap → Prop, ∃ μ2 : Int → Heap → Nat, (I1 0 H) ∧
  ∀ n3 : Int, ∀ H4 : Heap, I1 n3 H4 → (
    ((((n3 : Int) < (x0l : Int)) → (
          (0 : Int) ≤ n3 ∧ (n3 : Int) < (x0l : Int) ∧ ∃ b5 o6 : Nat, x0 = some (⟨b5, o6, none⟩ : Addr) ∧ (
            ∃ n7 : Int, hcell H4 b5 (o6 + (Int.toNat n3)) = some (.int .i64 n7) ∧ (
              ((((n7 : Int) ≠ 0) → (
                    R (.int .i64 n7) H4)) ∧ (¬ ((n7 : Int) ≠ 0) → (
                    (In64 (n3 + 1)) ∧
                    (I1 (n3 + 1) H4) ∧ μ2 (n3 + 1) H4 < μ2 n3 H4))))))) ∧ (¬ ((n3 : Int) < (x0l : Int)) → (
          R (.int .i64 0) H4))))) := by kernel_rfl


/-- pentimento/num.Compare -/
theorem vc_compare (x0 : Nat) (x1 : Nat) (H : Heap) (R : Value → Heap → Prop) : Walk Try.prog 12 [] [(.float .f64 x0), (.float .f64 x1)] H R = (
  Does Try.prog 53 [(.float .f64 x0)] H fun v1 H2 => ∃ n3 : Int, ∃ n4 : Int, v1 = (.tuple #[(.int .i64 n3), (.int .i64 n4)]) ∧ (
    Does Try.prog 53 [(.float .f64 x1)] H2 fun v5 H6 => ∃ n7 : Int, ∃ n8 : Int, v5 = (.tuple #[(.int .i64 n7), (.int .i64 n8)]) ∧ (
      (In64 (n3 + n7)) ∧
      ((((0 : Int) < (n3 + n7)) → (
            Does Try.prog 54 [(.int .i64 n3), (.int .i64 n7)] H6 fun v9 H10 => ∃ n11 : Int, v9 = (.int .i64 n11) ∧ (
              R (.int .i64 n11) H10))) ∧ (¬ ((0 : Int) < (n3 + n7)) → (
            Does Try.prog 56 [(.float .f64 x0), (.float .f64 x1)] H6 fun v12 H13 => ∃ n14 : Int, v12 = (.int .i64 n14) ∧ (
              Does Try.prog 54 [(.int .i64 n4), (.int .i64 n8)] H13 fun v15 H16 => ∃ n17 : Int, v15 = (.int .i64 n17) ∧ (
                ∀ b18 : Nat, ∀ H19 : Heap, New H16 b18 [(.int .i64 n14), (.int .i64 n17)] 3 H19 → (
                  Does Try.prog 55 [(.slice (some (⟨b18, 0, none⟩ : Addr)) 2 2)] H19 fun v20 H21 => ∃ n22 : Int, v20 = (.int .i64 n22) ∧ (
                    R (.int .i64 n22) H21)))))))))) := by kernel_rfl


/-- pentimento/num.Same -/
theorem vc_same (x0 : Nat) (x1 : Nat) (H : Heap) (R : Value → Heap → Prop) : Walk Try.prog 16 [] [(.float .f64 x0), (.float .f64 x1)] H R = (
  Does Try.prog 12 [(.float .f64 x0), (.float .f64 x1)] H fun v1 H2 => ∃ n3 : Int, v1 = (.int .i64 n3) ∧ (
    R (.bool (@decide ((n3 : Int) = 0) (Classical.propDecidable _))) H2)) := by kernel_rfl


/-- pentimento/num.Plain -/
theorem vc_plain (x0 : Nat) (H : Heap) (R : Value → Heap → Prop) : Walk Try.prog 22 [] [(.float .f64 x0)] H R = (
  Does Try.prog 59 [(.float .f64 x0)] H fun v1 H2 => ∃ t3 : Bool, v1 = (.bool t3) ∧ (
    ((t3 = true → (
          R (.float .f64 (Int.toNat 9221120237041090561)) H2)) ∧ (t3 = false → (
          R (.float .f64 x0) H2))))) := by kernel_rfl


/-- pentimento/num.Later -/
theorem vc_later (x0 : Nat) (x1 : Nat) (H : Heap) (R : Value → Heap → Prop) : Walk Try.prog 19 [] [(.float .f64 x0), (.float .f64 x1)] H R = (
  Does Try.prog 12 [(.float .f64 x0), (.float .f64 x1)] H fun v1 H2 => ∃ n3 : Int, v1 = (.int .i64 n3) ∧ (
    ((((n3 : Int) < 0) → (
          Does Try.prog 22 [(.float .f64 x1)] H2 fun v4 H5 => ∃ f6 : Nat, v4 = (.float .f64 f6) ∧ (
            R (.float .f64 f6) H5))) ∧ (¬ ((n3 : Int) < 0) → (
          Does Try.prog 22 [(.float .f64 x0)] H2 fun v7 H8 => ∃ f9 : Nat, v7 = (.float .f64 f9) ∧ (
            R (.float .f64 f9) H8)))))) := by kernel_rfl


/-- pentimento/pentimentoref1.Bits -/
theorem vc_bits (x0 : Nat) (H : Heap) (R : Value → Heap → Prop) : Walk Try.prog 20 [] [(.float .f64 x0)] H R = (
  (((¬ FEq x0 x0) → (
        R (.int .u64 9221120237041090561) H)) ∧ (¬ (¬ FEq x0 x0) → (
        R (.int .u64 (x0 : Nat)) H)))) := by kernel_rfl


/-- pentimento/pentimentoref1.rank -/
theorem vc_rank (x0 : Nat) (H : Heap) (R : Value → Heap → Prop) : Walk Try.prog 57 [] [(.float .f64 x0)] H R = (
  Does Try.prog 20 [(.float .f64 x0)] H fun v1 H2 => ∃ n3 : Int, v1 = (.int .u64 n3) ∧ (
    ((0 : Int) ≤ 63) ∧
    ∀ q4 : Int, q4 = Int.fdiv n3 (2 ^ (min (Int.toNat 63) (IntKind.bits .u64))) → (
      ((((q4 : Int) = 1) → (
            ∀ q5 : Int, q5 = bits .xor .u64 18446744073709551615 n3 → (
              R (.int .u64 q5) H2))) ∧ (¬ ((q4 : Int) = 1) → (
            ∀ q6 : Int, q6 = bits .or .u64 n3 9223372036854775808 → (
              R (.int .u64 q6) H2))))))) := by kernel_rfl


/-- pentimento/pentimentoref1.Compare -/
theorem vc_rcompare (x0 : Nat) (x1 : Nat) (H : Heap) (R : Value → Heap → Prop) : Walk Try.prog 15 [] [(.float .f64 x0), (.float .f64 x1)] H R = (
  Does Try.prog 57 [(.float .f64 x0)] H fun v1 H2 => ∃ n3 : Int, v1 = (.int .u64 n3) ∧ (
    Does Try.prog 57 [(.float .f64 x1)] H2 fun v4 H5 => ∃ n6 : Int, v4 = (.int .u64 n6) ∧ (
      ((((n3 : Int) < n6) → (
            R (.int .i64 (-1)) H5)) ∧ (¬ ((n3 : Int) < n6) → (
            ((((n6 : Int) < n3) → (
                  R (.int .i64 1) H5)) ∧ (¬ ((n6 : Int) < n3) → (
                  R (.int .i64 0) H5))))))))) := by kernel_rfl


/-- pentimento/pentimentoref1.Same -/
theorem vc_rsame (x0 : Nat) (x1 : Nat) (H : Heap) (R : Value → Heap → Prop) : Walk Try.prog 17 [] [(.float .f64 x0), (.float .f64 x1)] H R = (
  Does Try.prog 20 [(.float .f64 x0)] H fun v1 H2 => ∃ n3 : Int, v1 = (.int .u64 n3) ∧ (
    Does Try.prog 20 [(.float .f64 x1)] H2 fun v4 H5 => ∃ n6 : Int, v4 = (.int .u64 n6) ∧ (
      R (.bool (@decide ((n3 : Int) = n6) (Classical.propDecidable _))) H5))) := by kernel_rfl


/-- pentimento/pentimentoref1.Plain -/
theorem vc_rplain (x0 : Nat) (H : Heap) (R : Value → Heap → Prop) : Walk Try.prog 58 [] [(.float .f64 x0)] H R = (
  Does Try.prog 20 [(.float .f64 x0)] H fun v1 H2 => ∃ n3 : Int, v1 = (.int .u64 n3) ∧ (
    R (.float .f64 (Int.toNat n3)) H2)) := by kernel_rfl


/-- pentimento/pentimentoref1.Later -/
theorem vc_rlater (x0 : Nat) (x1 : Nat) (H : Heap) (R : Value → Heap → Prop) : Walk Try.prog 21 [] [(.float .f64 x0), (.float .f64 x1)] H R = (
  Does Try.prog 15 [(.float .f64 x0), (.float .f64 x1)] H fun v1 H2 => ∃ n3 : Int, v1 = (.int .i64 n3) ∧ (
    ((((n3 : Int) < 0) → (
          Does Try.prog 58 [(.float .f64 x1)] H2 fun v4 H5 => ∃ f6 : Nat, v4 = (.float .f64 f6) ∧ (
            R (.float .f64 f6) H5))) ∧ (¬ ((n3 : Int) < 0) → (
          Does Try.prog 58 [(.float .f64 x0)] H2 fun v7 H8 => ∃ f9 : Nat, v7 = (.float .f64 f9) ∧ (
            R (.float .f64 f9) H8)))))) := by kernel_rfl


/-- pentimento/num.Share -/
theorem vc_share (x0 : Nat) (x1 : Int) (H : Heap) (R : Value → Heap → Prop) : Walk Try.prog 24 [] [(.float .f64 x0), (.int .i64 x1)] H R = (
  Does Try.prog 59 [(.float .f64 x0)] H fun v1 H2 => ∃ t3 : Bool, v1 = (.bool t3) ∧ (
    ((t3 = true → (
          R (.tuple #[(.int .i64 0), (.bool false)]) H2)) ∧ (t3 = false → (
          (((FLt x0 0) → (
                R (.tuple #[(.int .i64 0), (.bool false)]) H2)) ∧ (¬ (FLt x0 0) → (
                ((((x1 : Int) < 0) → (
                      R (.tuple #[(.int .i64 0), (.bool false)]) H2)) ∧ (¬ ((x1 : Int) < 0) → (
                      ((((2147483647 : Int) < x1) → (
                            R (.tuple #[(.int .i64 0), (.bool false)]) H2)) ∧ (¬ ((2147483647 : Int) < x1) → (
                            (¬ FNan x0) ∧ (¬ FNan 4607182418800017408) ∧ ∀ f4 : Nat, f4 = fMin x0 4607182418800017408 → (
                              ∀ f5 : Nat, f5 = FloatKind.nearest .f64 x1 → (
                                ∃ f6 : Nat, Ieee.Format.mul Ieee.double f4 f5 = some f6 ∧ (
                                  Does Try.prog 60 [(.float .f64 f6)] H2 fun v7 H8 => ∃ f9 : Nat, v7 = (.float .f64 f9) ∧ (
                                    ∃ n10 : Int, Ieee.Datum.toInt .zero (Ieee.Format.read Ieee.double f9) = some n10 ∧ In64 n10 ∧ (
                                      R (.tuple #[(.int .i64 n10), (.bool true)]) H8))))))))))))))))))) := by kernel_rfl


/-- pentimento/pentimentoref1.Share -/
theorem vc_rshare (x0 : Nat) (x1 : Int) (H : Heap) (R : Value → Heap → Prop) : Walk Try.prog 25 [] [(.float .f64 x0), (.int .i64 x1)] H R = (
  ((((x1 : Int) < 0) → (
        R (.tuple #[(.int .i64 0), (.bool false)]) H)) ∧ (¬ ((x1 : Int) < 0) → (
        ((((2147483647 : Int) < x1) → (
              R (.tuple #[(.int .i64 0), (.bool false)]) H)) ∧ (¬ ((2147483647 : Int) < x1) → (
              (((¬ FEq x0 x0) → (
                    R (.tuple #[(.int .i64 0), (.bool false)]) H)) ∧ (¬ (¬ FEq x0 x0) → (
                    (((FLt x0 0) → (
                          R (.tuple #[(.int .i64 0), (.bool false)]) H)) ∧ (¬ (FLt x0 0) → (
                          (((FGt x0 4607182418800017408) → (
                                ∀ f1 : Nat, f1 = FloatKind.nearest .f64 x1 → (
                                  ∃ f2 : Nat, Ieee.Format.mul Ieee.double 4607182418800017408 f1 = some f2 ∧ (
                                    Does Try.prog 60 [(.float .f64 f2)] H fun v3 H4 => ∃ f5 : Nat, v3 = (.float .f64 f5) ∧ (
                                      ∃ n6 : Int, Ieee.Datum.toInt .zero (Ieee.Format.read Ieee.double f5) = some n6 ∧ In64 n6 ∧ (
                                        R (.tuple #[(.int .i64 n6), (.bool true)]) H4)))))) ∧ (¬ (FGt x0 4607182418800017408) → (
                                ∀ f7 : Nat, f7 = FloatKind.nearest .f64 x1 → (
                                  ∃ f8 : Nat, Ieee.Format.mul Ieee.double x0 f7 = some f8 ∧ (
                                    Does Try.prog 60 [(.float .f64 f8)] H fun v9 H10 => ∃ f11 : Nat, v9 = (.float .f64 f11) ∧ (
                                      ∃ n12 : Int, Ieee.Datum.toInt .zero (Ieee.Format.read Ieee.double f11) = some n12 ∧ In64 n12 ∧ (
                                        R (.tuple #[(.int .i64 n12), (.bool true)]) H10)))))))))))))))))))) := by kernel_rfl


/-- pentimento/pentimentolaw2.known -/
theorem vc_known (H : Heap) (R : Value → Heap → Prop) : Walk Try.prog 14 [] [] H R = (
  Does Try.prog 49 [(.float .f64 0), (.float .f64 13830554455654793216)] H fun v1 H2 => ∃ f3 : Nat, v1 = (.float .f64 f3) ∧ (
    Does Try.prog 12 [(.float .f64 f3), (.float .f64 0)] H2 fun v4 H5 => ∃ n6 : Int, v4 = (.int .i64 n6) ∧ (
      ((((n6 : Int) = (-1)) → (
            Does Try.prog 51 [] H5 fun v7 H8 => ∃ f9 : Nat, v7 = (.float .f64 f9) ∧ (
              Does Try.prog 50 [(.int .i64 1)] H8 fun v10 H11 => ∃ f12 : Nat, v10 = (.float .f64 f12) ∧ (
                Does Try.prog 12 [(.float .f64 f9), (.float .f64 f12)] H11 fun v13 H14 => ∃ n15 : Int, v13 = (.int .i64 n15) ∧ (
                  ((((n15 : Int) = 1) → (
                        Does Try.prog 51 [] H14 fun v16 H17 => ∃ f18 : Nat, v16 = (.float .f64 f18) ∧ (
                          Does Try.prog 51 [] H17 fun v19 H20 => ∃ f21 : Nat, v19 = (.float .f64 f21) ∧ (
                            Does Try.prog 16 [(.float .f64 f18), (.float .f64 f21)] H20 fun v22 H23 => ∃ t24 : Bool, v22 = (.bool t24) ∧ (
                              R (.bool t24) H23))))) ∧ (¬ ((n15 : Int) = 1) → (
                        R (.bool false) H14)))))))) ∧ (¬ ((n6 : Int) = (-1)) → (
            R (.bool false) H5)))))) := by kernel_rfl


/-- pentimento/pentimentolaw2.NumCompares -/
theorem vc_ncompares (x0 : Int) (x1 : Int) (x2 : Nat) (x3 : Nat) (H : Heap) (R : Value → Heap → Prop) : Walk Try.prog 4 [] [(.int .i64 x0), (.int .i64 x1), (.float .f64 x2), (.float .f64 x3)] H R = (
  Does Try.prog 11 [(.int .i64 x0), (.float .f64 x2)] H fun v1 H2 => ∃ f3 : Nat, v1 = (.float .f64 f3) ∧ (
    Does Try.prog 11 [(.int .i64 x1), (.float .f64 x3)] H2 fun v4 H5 => ∃ f6 : Nat, v4 = (.float .f64 f6) ∧ (
      Does Try.prog 14 [] H5 fun v7 H8 => ∃ t9 : Bool, v7 = (.bool t9) ∧ (
        ((t9 = true → (
              Does Try.prog 12 [(.float .f64 f3), (.float .f64 f6)] H8 fun v10 H11 => ∃ n12 : Int, v10 = (.int .i64 n12) ∧ (
                Does Try.prog 15 [(.float .f64 f3), (.float .f64 f6)] H11 fun v13 H14 => ∃ n15 : Int, v13 = (.int .i64 n15) ∧ (
                  ((((n12 : Int) = n15) → (
                        Does Try.prog 16 [(.float .f64 f3), (.float .f64 f6)] H14 fun v16 H17 => ∃ t18 : Bool, v16 = (.bool t18) ∧ (
                          Does Try.prog 17 [(.float .f64 f3), (.float .f64 f6)] H17 fun v19 H20 => ∃ t21 : Bool, v19 = (.bool t21) ∧ (
                            ((((t18 = true) ↔ (t21 = true)) → (
                                  Does Try.prog 19 [(.float .f64 f3), (.float .f64 f6)] H20 fun v22 H23 => ∃ f24 : Nat, v22 = (.float .f64 f24) ∧ (
                                    Does Try.prog 21 [(.float .f64 f3), (.float .f64 f6)] H23 fun v25 H26 => ∃ f27 : Nat, v25 = (.float .f64 f27) ∧ (
                                      Does Try.prog 20 [(.float .f64 f27)] H26 fun v28 H29 => ∃ n30 : Int, v28 = (.int .u64 n30) ∧ (
                                        (((((f24 : Nat) : Int) = n30) → (
                                              Does Try.prog 22 [(.float .f64 f3)] H29 fun v31 H32 => ∃ f33 : Nat, v31 = (.float .f64 f33) ∧ (
                                                Does Try.prog 20 [(.float .f64 f3)] H32 fun v34 H35 => ∃ n36 : Int, v34 = (.int .u64 n36) ∧ (
                                                  R (.bool (@decide (((f33 : Nat) : Int) = n36) (Classical.propDecidable _))) H35)))) ∧ (¬ (((f24 : Nat) : Int) = n30) → (
                                              R (.bool false) H29)))))))) ∧ (¬ ((t18 = true) ↔ (t21 = true)) → (
                                  R (.bool false) H20))))))) ∧ (¬ ((n12 : Int) = n15) → (
                        R (.bool false) H14))))))) ∧ (t9 = false → (
              R (.bool false) H8))))))) := by kernel_rfl


/-- pentimento/pentimentolaw2.NumShares -/
theorem vc_nshares (x0 : Int) (x1 : Nat) (x2 : Int) (x3 : Bool) (H : Heap) (R : Value → Heap → Prop) : Walk Try.prog 5 [(5, [(2, (.int .i64 0)), (9, (.float .f64 0))])] [(.int .i64 x0), (.float .f64 x1), (.int .i64 x2), (.bool x3)] H R = (
  Does Try.prog 11 [(.int .i64 x0), (.float .f64 x1)] H fun v1 H2 => ∃ f3 : Nat, v1 = (.float .f64 f3) ∧ (
    ∃ I4 : Int → Nat → Heap → Prop, (
      ((x3 = true → (
            Does Try.prog 23 [(.int .i64 x0), (.int .i64 1001)] H2 fun v5 H6 => ∃ n7 : Int, v5 = (.int .i64 n7) ∧ (
              ∀ f8 : Nat, f8 = FloatKind.nearest .f64 n7 → (
                ∃ f9 : Nat, Ieee.Format.div Ieee.double f8 4652007308841189376 = some f9 ∧ (
                  Does Try.prog 23 [(.int .i64 x2), (.int .i64 5000)] H6 fun v10 H11 => ∃ n12 : Int, v10 = (.int .i64 n12) ∧ (
                    I4 n12 f9 H11)))))) ∧ (x3 = false → (
            I4 x2 f3 H2)))) ∧
    ∀ n13 : Int, ∀ f14 : Nat, ∀ H15 : Heap, I4 n13 f14 H15 → (
      Does Try.prog 24 [(.float .f64 f14), (.int .i64 n13)] H15 fun v16 H17 => ∃ n18 : Int, ∃ t19 : Bool, v16 = (.tuple #[(.int .i64 n18), (.bool t19)]) ∧ (
        Does Try.prog 25 [(.float .f64 f14), (.int .i64 n13)] H17 fun v20 H21 => ∃ n22 : Int, ∃ t23 : Bool, v20 = (.tuple #[(.int .i64 n22), (.bool t23)]) ∧ (
          Does Try.prog 14 [] H21 fun v24 H25 => ∃ t26 : Bool, v24 = (.bool t26) ∧ (
            ((t26 = true → (
                  ((((n18 : Int) = n22) → (
                        R (.bool (@decide ((t19 = true) ↔ (t23 = true)) (Classical.propDecidable _))) H25)) ∧ (¬ ((n18 : Int) = n22) → (
                        R (.bool false) H25))))) ∧ (t26 = false → (
                  R (.bool false) H25))))))))) := by kernel_rfl


/-- pentimento/pentimentolaw2.NumRises -/
theorem vc_nrises (x0 : Int) (x1 : Int) (x2 : Nat) (x3 : Nat) (x4 : Int) (H : Heap) (R : Value → Heap → Prop) : Walk Try.prog 6 [] [(.int .i64 x0), (.int .i64 x1), (.float .f64 x2), (.float .f64 x3), (.int .i64 x4)] H R = (
  Does Try.prog 11 [(.int .i64 x0), (.float .f64 x2)] H fun v1 H2 => ∃ f3 : Nat, v1 = (.float .f64 f3) ∧ (
    Does Try.prog 11 [(.int .i64 x1), (.float .f64 x3)] H2 fun v4 H5 => ∃ f6 : Nat, v4 = (.float .f64 f6) ∧ (
      Does Try.prog 23 [(.int .i64 x4), (.int .i64 2147483648)] H5 fun v7 H8 => ∃ n9 : Int, v7 = (.int .i64 n9) ∧ (
        Does Try.prog 24 [(.float .f64 f3), (.int .i64 n9)] H8 fun v10 H11 => ∃ n12 : Int, ∃ t13 : Bool, v10 = (.tuple #[(.int .i64 n12), (.bool t13)]) ∧ (
          Does Try.prog 24 [(.float .f64 f6), (.int .i64 n9)] H11 fun v14 H15 => ∃ n16 : Int, ∃ t17 : Bool, v14 = (.tuple #[(.int .i64 n16), (.bool t17)]) ∧ (
            Does Try.prog 24 [(.float .f64 4607182418800017408), (.int .i64 n9)] H15 fun v18 H19 => ∃ n20 : Int, ∃ t21 : Bool, v18 = (.tuple #[(.int .i64 n20), (.bool t21)]) ∧ (
              Does Try.prog 14 [] H19 fun v22 H23 => ∃ t24 : Bool, v22 = (.bool t24) ∧ (
                (((t24 = false) → (
                      R (.bool false) H23)) ∧ (¬ (t24 = false) → (
                      (((¬ ((t13 = true) ↔ (FGt f3 0 ∨ FEq f3 0))) → (
                            R (.bool false) H23)) ∧ (¬ (¬ ((t13 = true) ↔ (FGt f3 0 ∨ FEq f3 0))) → (
                            (((¬ ((t17 = true) ↔ (FGt f6 0 ∨ FEq f6 0))) → (
                                  R (.bool false) H23)) ∧ (¬ (¬ ((t17 = true) ↔ (FGt f6 0 ∨ FEq f6 0))) → (
                                  (((t21 = false) → (
                                        R (.bool false) H23)) ∧ (¬ (t21 = false) → (
                                        ((((n20 : Int) ≠ n9) → (
                                              R (.bool false) H23)) ∧ (¬ ((n20 : Int) ≠ n9) → (
                                              ((((n12 : Int) < 0) → (
                                                    R (.bool false) H23)) ∧ (¬ ((n12 : Int) < 0) → (
                                                    ((((n9 : Int) < n12) → (
                                                          R (.bool false) H23)) ∧ (¬ ((n9 : Int) < n12) → (
                                                          (((t13 = false) → (
                                                            ((((n12 : Int) ≠ 0) → (
                                                            R (.bool false) H23)) ∧ (¬ ((n12 : Int) ≠ 0) → (
                                                            (((t13 = false) → (
                                                            R (.bool true) H23)) ∧ (¬ (t13 = false) → (
                                                            (((t17 = false) → (
                                                            R (.bool true) H23)) ∧ (¬ (t17 = false) → (
                                                            (((FGt f3 f6) → (
                                                            R (.bool true) H23)) ∧ (¬ (FGt f3 f6) → (
                                                            R (.bool (@decide ((n12 : Int) ≤ n16) (Classical.propDecidable _))) H23)))))))))))))) ∧ (¬ (t13 = false) → (
                                                            (((t13 = false) → (
                                                            R (.bool true) H23)) ∧ (¬ (t13 = false) → (
                                                            (((t17 = false) → (
                                                            R (.bool true) H23)) ∧ (¬ (t17 = false) → (
                                                            (((FGt f3 f6) → (
                                                            R (.bool true) H23)) ∧ (¬ (FGt f3 f6) → (
                                                            R (.bool (@decide ((n12 : Int) ≤ n16) (Classical.propDecidable _))) H23))))))))))))))))))))))))))))))))))))))))) := by kernel_rfl


/-- pentimento/pentimentolaw2.NumSorts -/
theorem vc_nsorts (x0 : Option Addr) (x0l : Nat) (x0c : Nat) (x1 : Option Addr) (x1l : Nat) (x1c : Nat) (H : Heap) (R : Value → Heap → Prop) : Walk Try.prog 3 [(8, [(7, (.float .f64 0))]), (9, [(5, (.slice none 0 0))]), (18, [])] [(.slice x0 x0l x0c), (.slice x1 x1l x1c)] H R = (
  ∃ I1 : Option Addr → Nat → Nat → Heap → Prop, (
    ∃ I2 : Option Addr → Nat → Nat → Int → Heap → Prop, ∃ μ3 : Option Addr → Nat → Nat → Int → Heap → Nat, (I2 none 0 0 0 H) ∧
    ∀ a4 : Option Addr, ∀ l5 : Nat, ∀ c6 : Nat, ∀ n7 : Int, ∀ H8 : Heap, I2 a4 l5 c6 n7 H8 → (
      ((((n7 : Int) < (x0l : Int)) → (
            ((((n7 : Int) < 25) → (
                  ∃ I9 : Nat → Heap → Prop, (
                    ((((n7 : Int) < (x1l : Int)) → (
                          (0 : Int) ≤ n7 ∧ (n7 : Int) < (x1l : Int) ∧ ∃ b10 o11 : Nat, x1 = some (⟨b10, o11, none⟩ : Addr) ∧ (
                            ∃ f12 : Nat, hcell H8 b10 (o11 + (Int.toNat n7)) = some (.float .f64 f12) ∧ (
                              I9 f12 H8)))) ∧ (¬ ((n7 : Int) < (x1l : Int)) → (
                          I9 4602678819172646912 H8)))) ∧
                  ∀ f13 : Nat, ∀ H14 : Heap, I9 f13 H14 → (
                    (0 : Int) ≤ n7 ∧ (n7 : Int) < (x0l : Int) ∧ ∃ b15 o16 : Nat, x0 = some (⟨b15, o16, none⟩ : Addr) ∧ (
                      ∃ n17 : Int, hcell H14 b15 (o16 + (Int.toNat n7)) = some (.int .i64 n17) ∧ (
                        Does Try.prog 11 [(.int .i64 n17), (.float .f64 f13)] H14 fun v18 H19 => ∃ f20 : Nat, v18 = (.float .f64 f20) ∧ (
                          ∀ b21 : Nat, ∀ H22 : Heap, New H19 b21 [(.float .f64 f20)] 24 H22 → (
                            ∃ old23 new24 : List Value, SRow H22 1 l5 (.slice a4 l5 c6) old23 ∧ SRow H22 1 1 (.slice (some (⟨b21, 0, none⟩ : Addr)) 1 1) new24 ∧ (∀ u ∈ new24, Value.oneCell' u = true) ∧ (l5 + 1) * 8 ≤ 140737488355328 ∧ (l5 + 1 ≤ c6 → roomOf H22 a4 (l5 * 1) (1 * 1)) ∧ ∀ a25 : Option Addr, ∀ c26 : Nat, ∀ H27 : Heap, App H22 1 24 [(.float .f64 0)] a4 l5 c6 old23 new24 1 a25 c26 H27 → (
                              (In64 (n7 + 1)) ∧
                              (I2 a25 (l5 + 1) c26 (n7 + 1) H27) ∧ μ3 a25 (l5 + 1) c26 (n7 + 1) H27 < μ3 a4 l5 c6 n7 H8)))))))) ∧ (¬ ((n7 : Int) < 25) → (
                  I1 a4 l5 c6 H8))))) ∧ (¬ ((n7 : Int) < (x0l : Int)) → (
            I1 a4 l5 c6 H8))))) ∧
  ∀ a28 : Option Addr, ∀ l29 : Nat, ∀ c30 : Nat, ∀ H31 : Heap, I1 a28 l29 c30 H31 → (
    ∃ I32 : Int → Heap → Prop, ∃ μ33 : Int → Heap → Nat, (I32 1 H31) ∧
    ∀ n34 : Int, ∀ H35 : Heap, I32 n34 H35 → (
      ((((n34 : Int) < (l29 : Int)) → (
            ∃ I36 : Int → Heap → Prop, ∃ μ37 : Int → Heap → Nat, (I36 n34 H35) ∧
            ∀ n38 : Int, ∀ H39 : Heap, I36 n38 H39 → (
              ((((0 : Int) < n38) → (
                    (0 : Int) ≤ n38 ∧ (n38 : Int) < (l29 : Int) ∧ ∃ b40 o41 : Nat, a28 = some (⟨b40, o41, none⟩ : Addr) ∧ (
                      ∃ f42 : Nat, hcell H39 b40 (o41 + (Int.toNat n38)) = some (.float .f64 f42) ∧ (
                        (In64 (n38 - 1)) ∧
                        (0 : Int) ≤ (n38 - 1) ∧ ((n38 - 1) : Int) < (l29 : Int) ∧ ∃ b43 o44 : Nat, a28 = some (⟨b43, o44, none⟩ : Addr) ∧ (
                          ∃ f45 : Nat, hcell H39 b43 (o44 + (Int.toNat (n38 - 1))) = some (.float .f64 f45) ∧ (
                            Does Try.prog 12 [(.float .f64 f42), (.float .f64 f45)] H39 fun v46 H47 => ∃ n48 : Int, v46 = (.int .i64 n48) ∧ (
                              (((((n48 : Int) < 0) → (
                                      (In64 (n38 - 1)) ∧
                                      (In64 (n38 - 1)) ∧
                                      (0 : Int) ≤ (n38 - 1) ∧ ((n38 - 1) : Int) < (l29 : Int) ∧ ∃ b49 o50 : Nat, a28 = some (⟨b49, o50, none⟩ : Addr) ∧ (
                                        ∃ f51 : Nat, hcell H47 b49 (o50 + (Int.toNat (n38 - 1))) = some (.float .f64 f51) ∧ (
                                          (0 : Int) ≤ n38 ∧ (n38 : Int) < (l29 : Int) ∧ ∃ b52 o53 : Nat, a28 = some (⟨b52, o53, none⟩ : Addr) ∧ (
                                            ∃ f54 : Nat, hcell H47 b52 (o53 + (Int.toNat n38)) = some (.float .f64 f54) ∧ (
                                              (0 : Int) ≤ n38 ∧ (n38 : Int) < (l29 : Int) ∧ ∃ b55 o56 : Nat, a28 = some (⟨b55, o56, none⟩ : Addr) ∧ (
                                                Cells H47 b55 (o56 + (Int.toNat n38)) 1 ∧ ∀ H57 : Heap, Puts H47 b55 (o56 + (Int.toNat n38)) [(.float .f64 f51)] H57 → (
                                                  ((0 : Int) ≤ (n38 - 1) ∧ ((n38 - 1) : Int) < (l29 : Int) ∧ ∃ b58 o59 : Nat, a28 = some (⟨b58, o59, none⟩ : Addr) ∧ (
                                                      Cells H57 b58 (o59 + (Int.toNat (n38 - 1))) 1 ∧ ∀ H60 : Heap, Puts H57 b58 (o59 + (Int.toNat (n38 - 1))) [(.float .f64 f54)] H60 → (
                                                        ((In64 (n38 - 1)) ∧
                                                          (I36 (n38 - 1) H60) ∧ μ37 (n38 - 1) H60 < μ37 n38 H39)))))))))))) ∧ (¬ ((n48 : Int) < 0) → (
                                      (In64 (n34 + 1)) ∧
                                      (I32 (n34 + 1) H47) ∧ μ33 (n34 + 1) H47 < μ33 n34 H35))))))))))) ∧ (¬ ((0 : Int) < n38) → (
                    (In64 (n34 + 1)) ∧
                    (I32 (n34 + 1) H39) ∧ μ33 (n34 + 1) H39 < μ33 n34 H35)))))) ∧ (¬ ((n34 : Int) < (l29 : Int)) → (
            ∃ I61 : Int → Heap → Prop, ∃ μ62 : Int → Heap → Nat, (I61 1 H35) ∧
            ∀ n63 : Int, ∀ H64 : Heap, I61 n63 H64 → (
              ((((n63 : Int) < (l29 : Int)) → (
                    ∃ I65 : Heap → Prop, (
                      (In64 (n63 - 1)) ∧
                      (0 : Int) ≤ (n63 - 1) ∧ ((n63 - 1) : Int) < (l29 : Int) ∧ ∃ b66 o67 : Nat, a28 = some (⟨b66, o67, none⟩ : Addr) ∧ (
                        ∃ f68 : Nat, hcell H64 b66 (o67 + (Int.toNat (n63 - 1))) = some (.float .f64 f68) ∧ (
                          (0 : Int) ≤ n63 ∧ (n63 : Int) < (l29 : Int) ∧ ∃ b69 o70 : Nat, a28 = some (⟨b69, o70, none⟩ : Addr) ∧ (
                            ∃ f71 : Nat, hcell H64 b69 (o70 + (Int.toNat n63)) = some (.float .f64 f71) ∧ (
                              (((FGt f68 f71) → (
                                    R (.bool false) H64)) ∧ (¬ (FGt f68 f71) → (
                                    (((¬ FEq f68 f68) → (
                                          (((FEq f71 f71) → (
                                                R (.bool false) H64)) ∧ (¬ (FEq f71 f71) → (
                                                (((FEq f68 0) → (
                                                      (((FEq f71 0) → (
                                                            Does Try.prog 13 [(.float .f64 f68)] H64 fun v72 H73 => ∃ t74 : Bool, v72 = (.bool t74) ∧ (
                                                            (((t74 = false) → (
                                                            Does Try.prog 13 [(.float .f64 f71)] H73 fun v75 H76 => ∃ t77 : Bool, v75 = (.bool t77) ∧ (
                                                            ((t77 = true → (
                                                            R (.bool false) H76)) ∧ (t77 = false → (
                                                            I65 H76)))))) ∧ (¬ (t74 = false) → (
                                                            I65 H73)))))) ∧ (¬ (FEq f71 0) → (
                                                            I65 H64))))) ∧ (¬ (FEq f68 0) → (
                                                      I65 H64)))))))) ∧ (¬ (¬ FEq f68 f68) → (
                                          (((FEq f68 0) → (
                                                (((FEq f71 0) → (
                                                      Does Try.prog 13 [(.float .f64 f68)] H64 fun v78 H79 => ∃ t80 : Bool, v78 = (.bool t80) ∧ (
                                                        (((t80 = false) → (
                                                            Does Try.prog 13 [(.float .f64 f71)] H79 fun v81 H82 => ∃ t83 : Bool, v81 = (.bool t83) ∧ (
                                                            ((t83 = true → (
                                                            R (.bool false) H82)) ∧ (t83 = false → (
                                                            I65 H82)))))) ∧ (¬ (t80 = false) → (
                                                            I65 H79)))))) ∧ (¬ (FEq f71 0) → (
                                                      I65 H64))))) ∧ (¬ (FEq f68 0) → (
                                                I65 H64)))))))))))))) ∧
                    ∀ H84 : Heap, I65 H84 → (
                      (In64 (n63 + 1)) ∧
                      (I61 (n63 + 1) H84) ∧ μ62 (n63 + 1) H84 < μ62 n63 H64))) ∧ (¬ ((n63 : Int) < (l29 : Int)) → (
                    Does Try.prog 14 [] H64 fun v85 H86 => ∃ t87 : Bool, v85 = (.bool t87) ∧ (
                      R (.bool t87) H86))))))))))) := by kernel_rfl


end Go.Proofs
end

section
open Go Go.Vc
namespace Go.Proofs

theorem Try.mixed : Try.prog.follows .mixedOrders = true := by kernel_rfl

theorem dec_eq {p : Prop} {i : Decidable p} {b : Bool} (h : p ↔ b = true) : @decide p i = b := by
  cases b
  · simp only [decide_eq_false_iff_not]; intro hp; exact absurd (h.1 hp) (by simp)
  · simpa using h

theorem feq_self {w : Nat} (h : w < 18446744073709551616) : FEq w w ↔ nanW w = false := by
  cases hn : nanW w
  · have := (order_w h h hn hn).2.1
    simp [this]
  · have := (no_order (a := w) (b := w) (.inl hn)).2.1
    simp [this]

theorem isnan_ok {w : Nat} (h : w < 18446744073709551616) (H : Heap) : Does Try.prog 59 [.float .f64 w] H fun v H' => v = .bool (nanW w) ∧ H = H' := by
  refine Fn_of_vc Try.mixed (vc_isnan _ _ _) ?_
  refine ⟨congrArg _ (dec_eq ?_), rfl⟩
  rw [feq_self h]; simp
theorem isnanf_ok {w : Nat} (h : w < 18446744073709551616) (H : Heap) : Does Try.prog 88 [.float .f64 w] H fun v H' => v = .bool (nanW w) ∧ H = H' := by
  refine Fn_of_vc Try.mixed (vc_isnanf _ _ _) ?_
  refine ⟨congrArg _ (dec_eq ?_), rfl⟩
  rw [feq_self h]; simp
theorem isnani_ok (n : Int) (H : Heap) : Does Try.prog 87 [.int .i64 n] H fun v H' => v = .bool false ∧ H = H' := by
  refine Fn_of_vc Try.mixed (vc_isnani _ _ _) ?_
  exact ⟨congrArg _ (dec_eq (by simp)), rfl⟩
theorem nan_ok (H : Heap) : Does Try.prog 51 [] H fun v H' => v = .float .f64 9221120237041090561 ∧ H = H' :=
  Fn_of_vc Try.mixed (vc_nan _ _) ⟨rfl, rfl⟩
theorem inf_ok (n : Int) (H : Heap) : Does Try.prog 50 [.int .i64 n] H fun v H' => v = .float .f64 (if 0 ≤ n then 9218868437227405312 else 18442240474082181120) ∧ H = H' := by
  refine Fn_of_vc Try.mixed (vc_inf _ _ _) ?_
  refine ⟨fun h => ⟨?_, rfl⟩, fun h => ⟨?_, rfl⟩⟩
  · rw [if_pos h]; rfl
  · rw [if_neg h]; rfl

theorem signbit_ok {w : Nat} (h : w < 18446744073709551616) (H : Heap) : Does Try.prog 13 [.float .f64 w] H fun v H' => v = .bool (negW w) ∧ H = H' := by
  refine Fn_of_vc Try.mixed (vc_signbit _ _ _) ?_
  rintro q rfl
  refine ⟨congrArg _ (dec_eq ?_), rfl⟩
  unfold negW
  rw [decide_eq_true_eq]
  simp only [IntKind.wrap, IntKind.bits, IntKind.signed, Bool.true_and, ge_iff_le, decide_eq_true_eq]
  split <;> omega

theorem copysign_ok (H : Heap) : Does Try.prog 49 [.float .f64 0, .float .f64 13830554455654793216] H fun v H' => v = .float .f64 9223372036854775808 ∧ H = H' := by
  refine Fn_of_vc Try.mixed (vc_copysign _ _ _ _) ?_
  rintro _ rfl _ rfl _ rfl
  refine ⟨?_, rfl⟩
  have : (bits .or .u64 (bits .andNot .u64 ((0 : Nat) : Int) 9223372036854775808) (bits .and .u64 ((13830554455654793216 : Nat) : Int) 9223372036854775808)) = 9223372036854775808 := by decide +kernel
  rw [this]; rfl

theorem pick_ok (n m : Int) (H : Heap) (hm : 0 < m) (hm' : m ≤ 1000000000000) : Does Try.prog 23 [.int .i64 n, .int .i64 m] H fun v H' => v = .int .i64 (n % m) ∧ H = H' := by
  refine Fn_of_vc Try.mixed (vc_pick _ _ _ _) ?_
  refine ⟨by omega, ?_⟩
  rintro q rfl
  have h1 := Int.tmod_lt_of_pos n hm
  have h2 := Int.lt_tmod_of_pos n hm
  have h3 : n.tmod m = if 0 ≤ n ∨ m ∣ n then n % m else n % m - m := by
    rw [Int.tmod_eq_emod]
    split <;> simp <;> omega
  have h4 := Int.emod_nonneg n (show m ≠ 0 by omega)
  have h5 := Int.emod_lt_of_pos n hm
  refine ⟨fun h => ⟨⟨by omega, by omega⟩, ?_, rfl⟩, fun h => ⟨?_, rfl⟩⟩
  · rw [h3] at h ⊢
    split at h <;> (simp_all; try omega)
  · rw [h3] at h ⊢
    split at h <;> (simp_all; try omega)

/-- A time is a number. -/
theorem time_ok (n : Int) {x : Nat} (hx : x < 18446744073709551616) (H : Heap) : Does Try.prog 11 [.int .i64 n, .float .f64 x] H fun v H' => ∃ r : Nat, v = .float .f64 r ∧ r < 18446744073709551616 ∧ Ext [] H H' := by
  refine Fn_of_vc Try.mixed (vc_time _ _ _ _) ?_
  refine (copysign_ok H).mono ?_
  rintro _ _ ⟨rfl, rfl⟩
  refine ⟨_, rfl, (inf_ok _ _).mono ?_⟩
  rintro _ _ ⟨rfl, rfl⟩
  refine ⟨_, rfl, (inf_ok _ _).mono ?_⟩
  rintro _ _ ⟨rfl, rfl⟩
  refine ⟨_, rfl, (nan_ok _).mono ?_⟩
  rintro _ _ ⟨rfl, rfl⟩
  refine ⟨_, rfl, fun b13 H14 hn => ⟨hn.blk.cells 12 0 (by simp), fun H15 hp => (pick_ok n 15 H15 (by decide) (by decide)).mono ?_⟩⟩
  rintro _ _ ⟨rfl, rfl⟩
  have hb := hp.blk hn.blk (by simp)
  have hx15 : Ext [] H H15 := hn.ext.trans' hp.ext (by intro i hi; simp only [List.mem_singleton] at hi; have := hn.eq; omega)
  have p0 := Int.emod_nonneg n (show (15 : Int) ≠ 0 by decide)
  refine ⟨_, rfl, fun h1 => ⟨p0, h1, ?_⟩, fun h1 => ⟨_, rfl, hx, hx15⟩⟩
  generalize n % 15 = k at *
  obtain ⟨j, rfl⟩ : ∃ j : Nat, k = j := ⟨k.toNat, by omega⟩
  rw [Int.toNat_natCast]
  simp only [hb.cell, Nat.zero_add]
  match j, h1 with
  | 0, _ => exact ⟨_, rfl, _, rfl, by decide, hx15⟩
  | 1, _ => exact ⟨_, rfl, _, rfl, by decide, hx15⟩
  | 2, _ => exact ⟨_, rfl, _, rfl, by decide, hx15⟩
  | 3, _ => exact ⟨_, rfl, _, rfl, by decide, hx15⟩
  | 4, _ => exact ⟨_, rfl, _, rfl, by decide, hx15⟩
  | 5, _ => exact ⟨_, rfl, _, rfl, by decide, hx15⟩
  | 6, _ => exact ⟨_, rfl, _, rfl, by decide, hx15⟩
  | 7, _ => exact ⟨_, rfl, _, rfl, by decide, hx15⟩
  | 8, _ => exact ⟨_, rfl, _, rfl, by decide, hx15⟩
  | 9, _ => exact ⟨_, rfl, _, rfl, by decide, hx15⟩
  | 10, _ => exact ⟨_, rfl, _, rfl, by decide, hx15⟩
  | 11, _ => exact ⟨_, rfl, _, rfl, by decide, hx15⟩
  | j + 12, h1 => omega

/-- NaNs as one. -/
def plainW (w : Nat) : Nat := if nanW w then 9221120237041090561 else w
/-- Where a number stands: NaN above all, -0 below +0. -/
def rk (w : Nat) : Int := if 9223372036854775808 ≤ plainW w then -((plainW w : Int) - 9223372036854775808) - 1 else plainW w
def sgn (a b : Int) : Int := if a < b then -1 else if b < a then 1 else 0
def zeroW (w : Nat) : Int := if w = 9223372036854775808 then -1 else 0

theorem keyW_zero {w : Nat} : keyW w = 0 ↔ w = 0 ∨ w = 9223372036854775808 := by
  unfold keyW
  split <;> omega

theorem sides_ok {w : Nat} (h : w < 18446744073709551616) (H : Heap) : Does Try.prog 53 [.float .f64 w] H fun v H' => v = .tuple #[.int .i64 (if nanW w then 1 else 0), .int .i64 (zeroW w)] ∧ H = H' := by
  refine Fn_of_vc Try.mixed (vc_sides _ _ _) ?_
  refine (isnan_ok h H).mono ?_
  rintro _ _ ⟨rfl, rfl⟩
  refine ⟨_, rfl, fun hn => ⟨?_, rfl⟩, fun hn => ?_⟩
  · rw [hn, if_pos rfl]
    have : zeroW w = 0 := by
      unfold zeroW
      rw [if_neg]
      rintro rfl
      exact absurd hn (by decide)
    rw [this]
  · have hz := (order_w h (b := 0) (by decide) hn (by decide)).2.1
    have hk0 : keyW 0 = 0 := by decide
    rw [hk0, keyW_zero] at hz
    refine ⟨fun h1 => (signbit_ok h H).mono ?_, fun h1 => ⟨?_, rfl⟩⟩
    · rintro _ _ ⟨rfl, rfl⟩
      refine ⟨_, rfl, fun h2 => ⟨?_, rfl⟩, fun h2 => ⟨?_, rfl⟩⟩
      · rw [hn]
        have : w = 9223372036854775808 := by
          rcases hz.1 h1 with rfl | h3
          · exact absurd h2 (by decide)
          · exact h3
        rw [zeroW, if_pos this]; rfl
      · rw [hn]
        have : w ≠ 9223372036854775808 := by
          rintro rfl; exact absurd h2 (by decide)
        rw [zeroW, if_neg this]; rfl
    · rw [hn]
      have : w ≠ 9223372036854775808 := fun e => h1 (hz.2 (.inr e))
      rw [zeroW, if_neg this]; rfl

theorem cmpi_ok (n m : Int) (H : Heap) : Does Try.prog 54 [.int .i64 n, .int .i64 m] H fun v H' => v = .int .i64 (sgn n m) ∧ H = H' := by
  refine Fn_of_vc Try.mixed (vc_cmpi _ _ _ _) ?_
  refine (isnani_ok n H).mono ?_
  rintro _ _ ⟨rfl, rfl⟩
  refine ⟨_, rfl, (isnani_ok m H).mono ?_⟩
  rintro _ _ ⟨rfl, rfl⟩
  unfold sgn
  refine ⟨_, rfl, fun e => (by cases e), fun _ => ⟨fun e => (by cases e), fun _ => ⟨fun h => ⟨?_, rfl⟩, fun h => ⟨fun h2 => ⟨?_, rfl⟩, fun h2 => ⟨?_, rfl⟩⟩⟩⟩⟩
  · rw [if_pos h]
  · rw [if_neg h, if_pos h2]
  · rw [if_neg h, if_neg h2]

theorem cmpf_ok {a b : Nat} (ha : a < 18446744073709551616) (hb : b < 18446744073709551616) (na : nanW a = false) (nb : nanW b = false) (H : Heap) : Does Try.prog 56 [.float .f64 a, .float .f64 b] H fun v H' => v = .int .i64 (sgn (keyW a) (keyW b)) ∧ H = H' := by
  refine Fn_of_vc Try.mixed (vc_cmpf _ _ _ _) ?_
  refine (isnanf_ok ha H).mono ?_
  rintro _ _ ⟨rfl, rfl⟩
  refine ⟨_, rfl, (isnanf_ok hb H).mono ?_⟩
  rintro _ _ ⟨rfl, rfl⟩
  obtain ⟨h1, h2, h3⟩ := order_w ha hb na nb
  rw [na, nb, h1, h3]
  unfold sgn
  refine ⟨_, rfl, fun e => (by cases e), fun _ => ⟨fun e => (by cases e), fun _ => ⟨fun h => ⟨?_, rfl⟩, fun h => ⟨fun h2 => ⟨?_, rfl⟩, fun h2 => ⟨?_, rfl⟩⟩⟩⟩⟩
  · rw [if_pos h]
  · rw [if_neg h, if_pos h2]
  · rw [if_neg h, if_neg h2]

theorem or_ok {b : Nat} {n m : Int} {H : Heap} (hb : Blk H b [.int .i64 n, .int .i64 m]) : Does Try.prog 55 [.slice (some ⟨b, 0, none⟩) 2 2] H fun v H' => v = .int .i64 (if n ≠ 0 then n else m) ∧ H = H' := by
  refine Fn_of_vc Try.mixed (vc_or _ _ _ _ _) ?_
  refine ⟨fun i H' => ∃ j : Nat, i = j ∧ j ≤ 2 ∧ H' = H ∧ (1 ≤ j → n = 0) ∧ (2 ≤ j → m = 0), fun i _ => 2 - i.toNat, ⟨0, rfl, by decide, rfl, by omega, by omega⟩, ?_⟩
  rintro _ _ ⟨j, rfl, hj, rfl, h1, h2⟩
  refine ⟨fun h3 => ⟨by omega, h3, b, 0, rfl, ?_⟩, fun h3 => ⟨?_, rfl⟩⟩
  · simp only [hb.cell, Nat.zero_add, Int.toNat_natCast]
    match j, h3 with
    | 0, _ =>
      refine ⟨n, rfl, fun h4 => ⟨by rw [if_pos h4], trivial⟩, fun h4 => ⟨⟨by decide, by decide⟩, ⟨1, rfl, by decide, trivial, fun _ => by omega, by omega⟩, by decide⟩⟩
    | 1, _ =>
      have hn := h1 (by decide)
      refine ⟨m, rfl, fun h4 => ⟨by rw [if_neg (by omega)], trivial⟩, fun h4 => ⟨⟨by decide, by decide⟩, ⟨2, rfl, by decide, trivial, fun _ => hn, fun _ => by omega⟩, by decide⟩⟩
    | j + 2, h3 => omega
  · have hn := h1 (by omega)
    have hm := h2 (by omega)
    rw [hn, hm]; rfl
end Go.Proofs
end

section
open Go Go.Vc
namespace Go.Proofs

theorem plain_lt {w : Nat} (h : w < 18446744073709551616) : plainW w < 18446744073709551616 := by
  unfold plainW; split <;> omega

theorem rk_nan {w : Nat} (h : nanW w = true) : rk w = 9221120237041090561 := by
  unfold rk plainW; rw [if_pos h]; rfl

theorem rk_num {w : Nat} (_ : w < 18446744073709551616) (hn : nanW w = false) : rk w ≤ 9218868437227405312 ∧ rk w = if 9223372036854775808 ≤ w then -((w : Int) - 9223372036854775808) - 1 else w := by
  have hn' : ¬ (9218868437227405312 < w % 9223372036854775808) := by simpa [nanW] using hn
  have e : plainW w = w := by unfold plainW; rw [hn]; rfl
  unfold rk
  rw [e]
  refine ⟨?_, rfl⟩
  split <;> omega

theorem rk_inj {a b : Nat} : rk a = rk b ↔ plainW a = plainW b := by
  unfold rk
  split <;> split <;> omega

theorem sgn_nan {a b : Nat} (ha : a < 18446744073709551616) (hb : b < 18446744073709551616) (h : nanW a = true ∨ nanW b = true) : sgn (if nanW a then 1 else 0) (if nanW b then 1 else 0) = sgn (rk a) (rk b) := by
  cases na : nanW a <;> cases nb : nanW b
  · rw [na, nb] at h; simp at h
  · rw [rk_nan nb]
    have := (rk_num ha na).1
    simp only [sgn, Bool.false_eq_true, if_true, if_false]
    rw [if_pos (show rk a < 9221120237041090561 by omega)]; rfl
  · rw [rk_nan na]
    have := (rk_num hb nb).1
    simp only [sgn, Bool.false_eq_true, if_true, if_false]
    rw [if_neg (show ¬ (9221120237041090561 < rk b) by omega), if_pos (show rk b < 9221120237041090561 by omega)]; rfl
  · rw [rk_nan na, rk_nan nb]; rfl

theorem sgn_lt {a b : Int} (h : a < b) : sgn a b = -1 := by unfold sgn; rw [if_pos h]
theorem sgn_gt {a b : Int} (h : b < a) : sgn a b = 1 := by unfold sgn; rw [if_neg (by omega), if_pos h]
theorem sgn_eq {a b : Int} (h : a = b) : sgn a b = 0 := by unfold sgn; rw [if_neg (by omega), if_neg (by omega)]

theorem sgn_num {a b : Nat} (ha : a < 18446744073709551616) (hb : b < 18446744073709551616) (na : nanW a = false) (nb : nanW b = false) : (if sgn (keyW a) (keyW b) ≠ 0 then sgn (keyW a) (keyW b) else sgn (zeroW a) (zeroW b)) = sgn (rk a) (rk b) := by
  obtain ⟨_, ea⟩ := rk_num ha na
  obtain ⟨_, eb⟩ := rk_num hb nb
  have ka : keyW a = if 9223372036854775808 ≤ a then -((a : Int) - 9223372036854775808) else a := rfl
  have kb : keyW b = if 9223372036854775808 ≤ b then -((b : Int) - 9223372036854775808) else b := rfl
  have za : zeroW a = if a = 9223372036854775808 then -1 else 0 := rfl
  have zb : zeroW b = if b = 9223372036854775808 then -1 else 0 := rfl
  generalize rk a = ra at *
  generalize rk b = rb at *
  generalize keyW a = x at *
  generalize keyW b = y at *
  generalize zeroW a = u at *
  generalize zeroW b = v at *
  by_cases h1 : x < y
  · rw [sgn_lt h1, if_pos (by decide), sgn_lt]
    split at ea <;> split at eb <;> split at ka <;> split at kb <;> omega
  · by_cases h2 : y < x
    · rw [sgn_gt h2, if_pos (by decide), sgn_gt]
      split at ea <;> split at eb <;> split at ka <;> split at kb <;> omega
    · rw [sgn_eq (by omega), if_neg (by decide)]
      by_cases h3 : u < v
      · rw [sgn_lt h3, sgn_lt]
        split at ea <;> split at eb <;> split at ka <;> split at kb <;> split at za <;> split at zb <;> omega
      · by_cases h4 : v < u
        · rw [sgn_gt h4, sgn_gt]
          split at ea <;> split at eb <;> split at ka <;> split at kb <;> split at za <;> split at zb <;> omega
        · rw [sgn_eq (by omega), sgn_eq]
          split at ea <;> split at eb <;> split at ka <;> split at kb <;> split at za <;> split at zb <;> omega

theorem compare_ok {a b : Nat} (ha : a < 18446744073709551616) (hb : b < 18446744073709551616) (H : Heap) : Does Try.prog 12 [.float .f64 a, .float .f64 b] H fun v H' => v = .int .i64 (sgn (rk a) (rk b)) ∧ Ext [] H H' := by
  refine Fn_of_vc Try.mixed (vc_compare _ _ _ _) ?_
  refine (sides_ok ha H).mono ?_
  rintro _ _ ⟨rfl, rfl⟩
  refine ⟨_, _, rfl, (sides_ok hb H).mono ?_⟩
  rintro _ _ ⟨rfl, rfl⟩
  refine ⟨_, _, rfl, ?_⟩
  have na01 : (0 : Int) ≤ (if nanW a then 1 else 0) ∧ (if nanW a then (1 : Int) else 0) ≤ 1 := by split <;> omega
  have nb01 : (0 : Int) ≤ (if nanW b then 1 else 0) ∧ (if nanW b then (1 : Int) else 0) ≤ 1 := by split <;> omega
  refine ⟨⟨by omega, by omega⟩, fun h => (cmpi_ok _ _ H).mono ?_, fun h => ?_⟩
  · rintro _ _ ⟨rfl, rfl⟩
    refine ⟨_, rfl, ?_, Ext.refl _ _⟩
    rw [sgn_nan ha hb]
    cases na : nanW a <;> cases nb : nanW b <;> simp_all
  · have na : nanW a = false := by cases na : nanW a <;> simp_all; omega
    have nb : nanW b = false := by cases nb : nanW b <;> simp_all
    refine (cmpf_ok ha hb na nb H).mono ?_
    rintro _ _ ⟨rfl, rfl⟩
    refine ⟨_, rfl, (cmpi_ok _ _ H).mono ?_⟩
    rintro _ _ ⟨rfl, rfl⟩
    refine ⟨_, rfl, fun b18 H19 hn => (or_ok hn.blk).mono ?_⟩
    rintro _ _ ⟨rfl, rfl⟩
    refine ⟨_, rfl, ?_, hn.ext⟩
    rw [sgn_num ha hb na nb]

theorem sgn_zero {a b : Int} : sgn a b = 0 ↔ a = b := by
  unfold sgn
  split
  · simp; omega
  · split <;> (simp; try omega)
theorem sgn_neg {a b : Int} : sgn a b < 0 ↔ a < b := by
  unfold sgn
  split
  · simp; omega
  · split <;> (simp; try omega)

theorem same_ok {a b : Nat} (ha : a < 18446744073709551616) (hb : b < 18446744073709551616) (H : Heap) : Does Try.prog 16 [.float .f64 a, .float .f64 b] H fun v H' => v = .bool (decide (rk a = rk b)) ∧ Ext [] H H' := by
  refine Fn_of_vc Try.mixed (vc_same _ _ _ _) ?_
  refine (compare_ok ha hb H).mono ?_
  rintro _ H2 ⟨rfl, hx⟩
  exact ⟨_, rfl, congrArg _ (dec_eq (by rw [sgn_zero, decide_eq_true_eq])), hx⟩

theorem plain_ok {w : Nat} (h : w < 18446744073709551616) (H : Heap) : Does Try.prog 22 [.float .f64 w] H fun v H' => v = .float .f64 (plainW w) ∧ H = H' := by
  refine Fn_of_vc Try.mixed (vc_plain _ _ _) ?_
  refine (isnan_ok h H).mono ?_
  rintro _ _ ⟨rfl, rfl⟩
  refine ⟨_, rfl, fun hn => ⟨?_, rfl⟩, fun hn => ⟨?_, rfl⟩⟩
  · unfold plainW; rw [if_pos hn]; rfl
  · unfold plainW; rw [hn]; rfl

def laterW (a b : Nat) : Nat := if rk a < rk b then plainW b else plainW a

theorem later_ok {a b : Nat} (ha : a < 18446744073709551616) (hb : b < 18446744073709551616) (H : Heap) : Does Try.prog 19 [.float .f64 a, .float .f64 b] H fun v H' => v = .float .f64 (laterW a b) ∧ Ext [] H H' := by
  refine Fn_of_vc Try.mixed (vc_later _ _ _ _) ?_
  refine (compare_ok ha hb H).mono ?_
  rintro _ H2 ⟨rfl, hx⟩
  refine ⟨_, rfl, fun h => (plain_ok hb H2).mono ?_, fun h => (plain_ok ha H2).mono ?_⟩
  · rintro _ _ ⟨rfl, rfl⟩
    rw [sgn_neg] at h
    exact ⟨_, rfl, by rw [laterW, if_pos h], hx⟩
  · rintro _ _ ⟨rfl, rfl⟩
    rw [sgn_neg] at h
    exact ⟨_, rfl, by rw [laterW, if_neg h], hx⟩

/-! ### The document -/
theorem bits_ok {w : Nat} (h : w < 18446744073709551616) (H : Heap) : Does Try.prog 20 [.float .f64 w] H fun v H' => v = .int .u64 (plainW w) ∧ H = H' := by
  refine Fn_of_vc Try.mixed (vc_bits _ _ _) ?_
  have hf := feq_self h
  refine ⟨fun h1 => ⟨?_, rfl⟩, fun h1 => ⟨?_, rfl⟩⟩
  · have hn : nanW w = true := by cases hn : nanW w <;> simp_all
    unfold plainW; rw [if_pos hn]; rfl
  · have hn : nanW w = false := by cases hn : nanW w <;> simp_all
    unfold plainW; rw [hn]; rfl

theorem wrap_u64 (n : Int) : IntKind.wrap .u64 n = n % 18446744073709551616 := by
  simp only [IntKind.wrap, IntKind.bits, IntKind.signed]
  simp

theorem of_nat (n : Nat) (h : n < 18446744073709551616) : (BitVec.ofInt 64 (n : Int)).toNat = n := by
  rw [BitVec.toNat_ofInt]
  show ((n : Int) % 18446744073709551616).toNat = n
  omega

theorem xor_ones (n : Nat) (h : n < 18446744073709551616) : bits .xor .u64 18446744073709551615 n = 18446744073709551615 - (n : Int) := by
  unfold bits
  have e1 : BitVec.ofInt 64 18446744073709551615 = BitVec.allOnes 64 := by decide
  show IntKind.wrap .u64 ((BitVec.ofInt 64 18446744073709551615 ^^^ BitVec.ofInt 64 (n : Int)).toNat : Int) = _
  rw [e1]
  show IntKind.wrap .u64 ((BitVec.allOnes 64 ^^^ BitVec.ofInt 64 (n : Int)).toNat : Int) = _
  rw [BitVec.allOnes_xor, BitVec.toNat_not, of_nat n h, wrap_u64]
  omega

theorem or_top (n : Nat) (h : n < 9223372036854775808) : bits .or .u64 n 9223372036854775808 = (n : Int) + 9223372036854775808 := by
  unfold bits
  show IntKind.wrap .u64 ((BitVec.ofInt 64 (n : Int) ||| BitVec.ofInt 64 ((9223372036854775808 : Nat) : Int)).toNat : Int) = _
  rw [BitVec.toNat_or, of_nat n (by omega), of_nat _ (by decide), wrap_u64]
  have := Nat.two_pow_add_eq_or_of_lt (i := 63) (b := n) h 1
  rw [Nat.or_comm, show (9223372036854775808 : Nat) = 2 ^ 63 * 1 from rfl, ← this]
  omega

theorem rank_ok {w : Nat} (h : w < 18446744073709551616) (H : Heap) : Does Try.prog 57 [.float .f64 w] H fun v H' => v = .int .u64 (rk w + 9223372036854775808) ∧ H = H' := by
  refine Fn_of_vc Try.mixed (vc_rank _ _ _) ?_
  refine (bits_ok h H).mono ?_
  rintro _ _ ⟨rfl, rfl⟩
  have hp := plain_lt h
  refine ⟨_, rfl, by decide, ?_⟩
  rintro q rfl
  have ef : Int.fdiv (plainW w : Int) (2 ^ (min (Int.toNat 63) (IntKind.bits .u64))) = (plainW w : Int) / 9223372036854775808 := by
    rw [Int.fdiv_eq_ediv_of_nonneg]
    · rfl
    · decide
  rw [ef]
  unfold rk
  refine ⟨?_, ?_⟩
  · rintro h1 _ rfl
    refine ⟨?_, rfl⟩
    rw [xor_ones _ hp, if_pos (by omega)]
    congr 1; omega
  · rintro h1 _ rfl
    refine ⟨?_, rfl⟩
    rw [or_top _ (by omega), if_neg (by omega)]

theorem rcompare_ok {a b : Nat} (ha : a < 18446744073709551616) (hb : b < 18446744073709551616) (H : Heap) : Does Try.prog 15 [.float .f64 a, .float .f64 b] H fun v H' => v = .int .i64 (sgn (rk a) (rk b)) ∧ H = H' := by
  refine Fn_of_vc Try.mixed (vc_rcompare _ _ _ _) ?_
  refine (rank_ok ha H).mono ?_
  rintro _ _ ⟨rfl, rfl⟩
  refine ⟨_, rfl, (rank_ok hb H).mono ?_⟩
  rintro _ _ ⟨rfl, rfl⟩
  unfold sgn
  refine ⟨_, rfl, fun h => ⟨?_, rfl⟩, fun h => ⟨fun h2 => ⟨?_, rfl⟩, fun h2 => ⟨?_, rfl⟩⟩⟩
  · rw [if_pos (by omega)]
  · rw [if_neg (by omega), if_pos (by omega)]
  · rw [if_neg (by omega), if_neg (by omega)]

theorem rsame_ok {a b : Nat} (ha : a < 18446744073709551616) (hb : b < 18446744073709551616) (H : Heap) : Does Try.prog 17 [.float .f64 a, .float .f64 b] H fun v H' => v = .bool (decide (rk a = rk b)) ∧ H = H' := by
  refine Fn_of_vc Try.mixed (vc_rsame _ _ _ _) ?_
  refine (bits_ok ha H).mono ?_
  rintro _ _ ⟨rfl, rfl⟩
  refine ⟨_, rfl, (bits_ok hb H).mono ?_⟩
  rintro _ _ ⟨rfl, rfl⟩
  exact ⟨_, rfl, congrArg _ (dec_eq (by rw [decide_eq_true_eq, rk_inj]; omega)), rfl⟩

theorem rplain_ok {w : Nat} (h : w < 18446744073709551616) (H : Heap) : Does Try.prog 58 [.float .f64 w] H fun v H' => v = .float .f64 (plainW w) ∧ H = H' := by
  refine Fn_of_vc Try.mixed (vc_rplain _ _ _) ?_
  refine (bits_ok h H).mono ?_
  rintro _ _ ⟨rfl, rfl⟩
  exact ⟨_, rfl, rfl, rfl⟩

theorem rlater_ok {a b : Nat} (ha : a < 18446744073709551616) (hb : b < 18446744073709551616) (H : Heap) : Does Try.prog 21 [.float .f64 a, .float .f64 b] H fun v H' => v = .float .f64 (laterW a b) ∧ H = H' := by
  refine Fn_of_vc Try.mixed (vc_rlater _ _ _ _) ?_
  refine (rcompare_ok ha hb H).mono ?_
  rintro _ _ ⟨rfl, rfl⟩
  refine ⟨_, rfl, fun h => (rplain_ok hb H).mono ?_, fun h => (rplain_ok ha H).mono ?_⟩
  · rintro _ _ ⟨rfl, rfl⟩
    rw [sgn_neg] at h
    exact ⟨_, rfl, by rw [laterW, if_pos h], rfl⟩
  · rintro _ _ ⟨rfl, rfl⟩
    rw [sgn_neg] at h
    exact ⟨_, rfl, by rw [laterW, if_neg h], rfl⟩

theorem known2_ok (H : Heap) : Does Try.prog 14 [] H fun v H' => v = .bool true ∧ Ext [] H H' := by
  refine Fn_of_vc Try.mixed (vc_known _ _) ?_
  refine (copysign_ok H).mono ?_
  rintro _ _ ⟨rfl, rfl⟩
  refine ⟨_, rfl, (compare_ok (by decide) (by decide) H).mono ?_⟩
  rintro _ H5 ⟨rfl, hx5⟩
  refine ⟨_, rfl, fun _ => (nan_ok H5).mono ?_, fun h => absurd (by decide) h⟩
  rintro _ _ ⟨rfl, rfl⟩
  refine ⟨_, rfl, (inf_ok _ H5).mono ?_⟩
  rintro _ _ ⟨rfl, rfl⟩
  refine ⟨_, rfl, (compare_ok (by decide) (by decide) H5).mono ?_⟩
  rintro _ H14 ⟨rfl, hx14⟩
  refine ⟨_, rfl, fun _ => (nan_ok H14).mono ?_, fun h => absurd (by decide) h⟩
  rintro _ _ ⟨rfl, rfl⟩
  refine ⟨_, rfl, (nan_ok H14).mono ?_⟩
  rintro _ _ ⟨rfl, rfl⟩
  refine ⟨_, rfl, (same_ok (by decide) (by decide) H14).mono ?_⟩
  rintro _ H23 ⟨rfl, hx23⟩
  exact ⟨_, rfl, rfl, (hx5.trans hx14).trans hx23⟩

theorem ncompares_law (H : Heap) (n0 : Int) (_ : (Lit.int .i64 n0).wf = true) (n1 : Int) (_ : (Lit.int .i64 n1).wf = true) (x : Nat) (wx : (Lit.float .f64 x).wf = true) (y : Nat) (wy : (Lit.float .f64 y).wf = true) :
    Does Try.prog 4 [.int .i64 n0, .int .i64 n1, .float .f64 x, .float .f64 y] H fun v H' => v = .bool true ∧ Ext [] H H' := by
  have hx : x < 18446744073709551616 := by simpa [Lit.wf] using wx
  have hy : y < 18446744073709551616 := by simpa [Lit.wf] using wy
  refine Fn_of_vc Try.mixed (vc_ncompares _ _ _ _ _ _) ?_
  refine (time_ok n0 hx H).mono ?_
  rintro _ H2 ⟨p, rfl, hp, hx2⟩
  refine ⟨_, rfl, (time_ok n1 hy H2).mono ?_⟩
  rintro _ H5 ⟨q, rfl, hq, hx5⟩
  refine ⟨_, rfl, (known2_ok H5).mono ?_⟩
  rintro _ H8 ⟨rfl, hx8⟩
  refine ⟨_, rfl, fun _ => (compare_ok hp hq H8).mono ?_, fun h => by cases h⟩
  rintro _ H11 ⟨rfl, hx11⟩
  refine ⟨_, rfl, (rcompare_ok hp hq H11).mono ?_⟩
  rintro _ _ ⟨rfl, rfl⟩
  refine ⟨_, rfl, fun _ => (same_ok hp hq H11).mono ?_, fun h => absurd rfl h⟩
  rintro _ H17 ⟨rfl, hx17⟩
  refine ⟨_, rfl, (rsame_ok hp hq H17).mono ?_⟩
  rintro _ _ ⟨rfl, rfl⟩
  refine ⟨_, rfl, fun _ => (later_ok hp hq H17).mono ?_, fun h => absurd Iff.rfl h⟩
  rintro _ H23 ⟨rfl, hx23⟩
  refine ⟨_, rfl, (rlater_ok hp hq H23).mono ?_⟩
  rintro _ _ ⟨rfl, rfl⟩
  have hlt : laterW p q < 18446744073709551616 := by unfold laterW; split <;> exact plain_lt ‹_›
  have hll : plainW (laterW p q) = laterW p q := by
    have : ∀ w, plainW (plainW w) = plainW w := by
      intro w
      by_cases hw : nanW w = true
      · have : plainW w = 9221120237041090561 := by unfold plainW; rw [if_pos hw]
        rw [this]; rfl
      · have : plainW w = w := by unfold plainW; rw [if_neg hw]
        rw [this, this]
    unfold laterW; split <;> exact this _
  refine ⟨_, rfl, (bits_ok hlt H23).mono ?_⟩
  rintro _ _ ⟨rfl, rfl⟩
  refine ⟨_, rfl, fun _ => (plain_ok hp H23).mono ?_, fun h => absurd (by rw [hll]) h⟩
  rintro _ _ ⟨rfl, rfl⟩
  refine ⟨_, rfl, (bits_ok hp H23).mono ?_⟩
  rintro _ _ ⟨rfl, rfl⟩
  exact ⟨_, rfl, yes rfl, ((((hx2.trans hx5).trans hx8).trans hx11).trans hx17).trans hx23⟩
end Go.Proofs
end

