/-
  The contracts of the functions that the law reaches, part 1. No condition.
-/
import Derived.Test.YtmoelmapcdmllaaGreatDoorVb
import Derived.Test.YtmoelmapcdmllaaGreatDoorProg
import Derived.Lib.ItoaNum
import Derived.Test.YtmoelmapcdmllaaGreatDoorCards
import Derived.Test.YtmoelmapcdmllaaGreatDoorTie
import Derived.WalkKit
import Derived.ProofKit
import Derived.OpenShut
import Derived.ShutString
import Derived.ChangeOld
import Derived.Below
import Derived.Deep.DeepHandedRow
import Derived.Lib.LaidTab
import Derived.Stop.LaidErr
import Derived.RowKitTokens
import Derived.Shelf.Vars
import Derived.Shelf.Strings.Builder1
import Derived.Shelf.Strings.OnBuilder
import Derived.Shelf.Small.Strs
import Derived.Shelf.LaysM
import Derived.Shelf.Strconv.Itoa3
import Derived.Shelf.LaysC
import Derived.Shelf.Strconv.AtoiAll
import Derived.Shelf.Strings.Cut
import Derived.Shelf.Strings.Split

section
open Go Go.Vc
namespace Go.Proofs
open Ieee

def fneg (f : Format) (w : Nat) : Bool := w / f.signWeight % 2 == 1
def frung (f : Format) (w : Nat) : Nat := w % f.signWeight
/-- A rung's number, in units of the least one. -/
def fval (f : Format) (r : Nat) : Nat := if r < f.binade then r else (f.binade + r % f.binade) * 2 ^ (r / f.binade - 1)
/-- What a word is worth in the order of numbers. -/
def fkey (f : Format) (w : Nat) : Int := if fneg f w then -(frung f w : Int) else frung f w

theorem binade_pos (f : Format) : 0 < f.binade := Nat.two_pow_pos _

theorem fval_step (f : Format) (r : Nat) : fval f r < fval f (r + 1) := by
  have hb := binade_pos f
  unfold fval
  generalize f.binade = B at *
  by_cases h1 : r + 1 < B
  · rw [if_pos (by omega), if_pos h1]; omega
  · rw [if_neg h1]
    by_cases h2 : r < B
    · have e : r + 1 = B := by omega
      rw [if_pos h2, e, Nat.mod_self, Nat.div_self hb]
      simp; omega
    · rw [if_neg h2]
      have hq : 1 ≤ r / B := (Nat.le_div_iff_mul_le hb).2 (by omega)
      have hd := Nat.div_add_mod r B
      have hm := Nat.mod_lt r hb
      by_cases h3 : r % B + 1 < B
      · have e1 : (r + 1) / B = r / B := by
          rw [Nat.div_eq_iff hb]
          constructor
          · rw [Nat.mul_comm]; omega
          · rw [Nat.mul_comm]; omega
        have e2 : (r + 1) % B = r % B + 1 := by
          have := Nat.div_add_mod (r + 1) B
          rw [e1] at this; omega
        rw [e1, e2]
        exact Nat.mul_lt_mul_of_pos_right (by omega) (Nat.two_pow_pos _)
      · have e1 : (r + 1) / B = r / B + 1 := by
          have e : r + 1 = B * (r / B + 1) := by rw [Nat.mul_add]; omega
          rw [e, Nat.mul_div_cancel_left _ hb]
        have e2 : (r + 1) % B = 0 := by
          have := Nat.div_add_mod (r + 1) B
          rw [e1, Nat.mul_add] at this; omega
        rw [e1, e2]
        obtain ⟨q, hq'⟩ : ∃ q, r / B = q + 1 := ⟨r / B - 1, by omega⟩
        rw [hq', Nat.add_sub_cancel, Nat.add_sub_cancel, Nat.pow_succ, Nat.mul_comm (2 ^ q) 2, ← Nat.mul_assoc]
        exact Nat.mul_lt_mul_of_pos_right (by omega) (Nat.two_pow_pos _)

theorem fval_lt (f : Format) {r s : Nat} (h : r < s) : fval f r < fval f s := by
  induction s with
  | zero => omega
  | succ s ih =>
    have := fval_step f s
    by_cases h1 : r < s
    · have := ih h1; omega
    · have : r = s := by omega
      subst this; exact fval_step f r

theorem fval_le (f : Format) {r s : Nat} : fval f r ≤ fval f s ↔ r ≤ s := by
  constructor
  · intro h
    by_cases h1 : r ≤ s
    · exact h1
    · have := fval_lt f (show s < r by omega); omega
  · intro h
    by_cases h1 : r = s
    · subst h1; exact Nat.le_refl _
    · exact Nat.le_of_lt (fval_lt f (by omega))

theorem fval_zero (f : Format) : fval f 0 = 0 := by
  unfold fval
  rw [if_pos (binade_pos f)]

theorem read_fin {f : Format} {w : Nat} (h : frung f w < f.infRung) : ∃ (m k : Nat), f.read w = .number (fneg f w) m (f.leastPlace + k) ∧ m * 2 ^ k = fval f (frung f w) := by
  unfold Format.read fval
  show ∃ m k : Nat, (if frung f w < f.binade then _ else _) = _ ∧ _
  by_cases h1 : frung f w < f.binade
  · refine ⟨frung f w, 0, ?_, ?_⟩
    · rw [if_pos h1]; simp [frung, fneg]
    · rw [if_pos h1]; simp
  · refine ⟨f.binade + frung f w % f.binade, frung f w / f.binade - 1, ?_, ?_⟩
    · rw [if_neg h1]; simp only [frung] at h ⊢; rw [if_pos h]; rfl
    · rw [if_neg h1]
theorem read_inf {f : Format} {w : Nat} (h : frung f w = f.infRung) (hb : f.binade ≤ f.infRung) : f.read w = .infinity (fneg f w) := by
  unfold Format.read
  show (if frung f w < f.binade then _ else _) = _
  rw [if_neg (by omega)]
  simp only [frung] at h ⊢
  rw [if_neg (by omega), if_pos h]; rfl
theorem read_nan {f : Format} {w : Nat} (h : f.infRung < frung f w) (hb : f.binade ≤ f.infRung) : f.read w = .nan (fneg f w) (frung f w - f.infRung) := by
  unfold Format.read
  show (if frung f w < f.binade then _ else _) = _
  rw [if_neg (by omega)]
  simp only [frung] at h ⊢
  rw [if_neg (by omega), if_neg (by omega)]; rfl

theorem cmp_int (a b : Int) : (compare a b = .lt ↔ a < b) ∧ (compare a b = .eq ↔ a = b) ∧ (compare a b = .gt ↔ b < a) := by
  simp only [compare, compareOfLessAndEq]
  refine ⟨?_, ?_, ?_⟩ <;> (split <;> (try split) <;> simp <;> omega)

/-- A number's worth, in units of the least one. -/
def fsv (f : Format) (w : Nat) : Int := if fneg f w then -(fval f (frung f w) : Int) else fval f (frung f w)

theorem fsv_key (f : Format) (a b : Nat) : (fsv f a < fsv f b ↔ fkey f a < fkey f b) ∧ (fsv f a = fsv f b ↔ fkey f a = fkey f b) := by
  have h1 := fval_le f (r := frung f a) (s := frung f b)
  have h2 := fval_le f (r := frung f b) (s := frung f a)
  have h3 := fval_le f (r := frung f a) (s := 0)
  have h4 := fval_le f (r := frung f b) (s := 0)
  rw [fval_zero] at h3 h4
  unfold fsv fkey
  cases fneg f a <;> cases fneg f b <;> simp only [Bool.false_eq_true, if_true, if_false] <;> constructor <;> constructor <;> intro h <;> omega

theorem order_fin {f : Format} {a b : Nat} (ha : frung f a < f.infRung) (hb : frung f b < f.infRung) : ∃ D : Int, 0 < D ∧ ∃ x y : Int, f.order a b = some (compare x y) ∧ x * D = fsv f a ∧ y * D = fsv f b := by
  obtain ⟨m, k, e1, v1⟩ := read_fin ha
  obtain ⟨n, l, e2, v2⟩ := read_fin hb
  refine ⟨((2 ^ min k l : Nat) : Int), by have := Nat.two_pow_pos (min k l); omega, _, _, by unfold Format.order; rw [e1, e2]; rfl, ?_, ?_⟩
  · have ek : (f.leastPlace + k - min (f.leastPlace + k) (f.leastPlace + l)).toNat = k - min k l := by omega
    rw [ek]
    unfold signed fsv
    rw [Nat.shiftLeft_eq, ← v1]
    have : m * 2 ^ (k - min k l) * 2 ^ min k l = m * 2 ^ k := by
      rw [Nat.mul_assoc, ← Nat.pow_add]; congr 2; omega
    have h2 : ((m * 2 ^ (k - min k l) : Nat) : Int) * ((2 ^ min k l : Nat) : Int) = ((m * 2 ^ k : Nat) : Int) := by rw [← this]; exact (Int.natCast_mul _ _).symm
    split
    · rw [Int.neg_mul, h2]
    · exact h2
  · have ek : (f.leastPlace + l - min (f.leastPlace + k) (f.leastPlace + l)).toNat = l - min k l := by omega
    rw [ek]
    unfold signed fsv
    rw [Nat.shiftLeft_eq, ← v2]
    have : n * 2 ^ (l - min k l) * 2 ^ min k l = n * 2 ^ l := by
      rw [Nat.mul_assoc, ← Nat.pow_add]; congr 2; omega
    have h2 : ((n * 2 ^ (l - min k l) : Nat) : Int) * ((2 ^ min k l : Nat) : Int) = ((n * 2 ^ l : Nat) : Int) := by rw [← this]; exact (Int.natCast_mul _ _).symm
    split
    · rw [Int.neg_mul, h2]
    · exact h2

/-- THE ORDER OF NUMBERS, by their words. -/
theorem order_key {f : Format} (hbi : f.binade ≤ f.infRung) {a b : Nat} (ha : frung f a ≤ f.infRung) (hb : frung f b ≤ f.infRung) : ∃ o, f.order a b = some o ∧ (o = .lt ↔ fkey f a < fkey f b) ∧ (o = .eq ↔ fkey f a = fkey f b) ∧ (o = .gt ↔ fkey f b < fkey f a) := by
  have hpos : 0 < f.infRung := Nat.lt_of_lt_of_le (binade_pos f) hbi
  by_cases h1 : frung f a < f.infRung
  · by_cases h2 : frung f b < f.infRung
    · obtain ⟨D, hD, x, y, e, ex, ey⟩ := order_fin h1 h2
      refine ⟨_, e, ?_⟩
      obtain ⟨c1, c2, c3⟩ := cmp_int x y
      rw [c1, c2, c3]
      obtain ⟨k1, k2⟩ := fsv_key f a b
      obtain ⟨k3, _⟩ := fsv_key f b a
      rw [← k1, ← k2, ← k3, ← ex, ← ey]
      exact ⟨(Int.mul_lt_mul_right hD).symm, (Int.mul_eq_mul_right_iff (by omega)).symm, (Int.mul_lt_mul_right hD).symm⟩
    · have e2 : frung f b = f.infRung := by omega
      obtain ⟨m, k, e1, v1⟩ := read_fin h1
      refine ⟨_, by unfold Format.order; rw [e1, read_inf e2 hbi]; rfl, ?_⟩
      unfold fkey
      cases fneg f b <;> cases fneg f a <;> simp <;> omega
  · have e1 : frung f a = f.infRung := by omega
    by_cases h2 : frung f b < f.infRung
    · obtain ⟨m, k, e2, v2⟩ := read_fin h2
      refine ⟨_, by unfold Format.order; rw [read_inf e1 hbi, e2]; rfl, ?_⟩
      unfold fkey
      cases fneg f b <;> cases fneg f a <;> simp <;> omega
    · have e2 : frung f b = f.infRung := by omega
      refine ⟨_, by unfold Format.order; rw [read_inf e1 hbi, read_inf e2 hbi]; rfl, ?_⟩
      unfold fkey
      cases fneg f b <;> cases fneg f a <;> simp [compare, compareOfLessAndEq] <;> omega
end Go.Proofs
namespace Go.Proofs
open Ieee
/-! ### Words of 64 bits -/
theorem d_sign : Ieee.double.signWeight = 9223372036854775808 := by decide
theorem d_inf : Ieee.double.infRung = 9218868437227405312 := by decide +kernel
theorem d_bin : Ieee.double.binade = 4503599627370496 := by decide
theorem d_bi : Ieee.double.binade ≤ Ieee.double.infRung := by rw [d_inf, d_bin]; omega

/-- A NaN's word. -/
def nanW (w : Nat) : Bool := decide (9218868437227405312 < w % 9223372036854775808)
def negW (w : Nat) : Bool := decide (9223372036854775808 ≤ w)
def keyW (w : Nat) : Int := if 9223372036854775808 ≤ w then -((w : Int) - 9223372036854775808) else w

theorem fneg_w {w : Nat} (h : w < 18446744073709551616) : fneg Ieee.double w = negW w := by
  unfold fneg negW
  rw [d_sign]
  by_cases h1 : 9223372036854775808 ≤ w
  · have : w / 9223372036854775808 = 1 := by omega
    rw [this, decide_eq_true h1]; rfl
  · have : w / 9223372036854775808 = 0 := by omega
    rw [this, decide_eq_false h1]; rfl

theorem frung_w (w : Nat) : frung Ieee.double w = w % 9223372036854775808 := by unfold frung; rw [d_sign]

theorem fkey_w {w : Nat} (h : w < 18446744073709551616) : fkey Ieee.double w = keyW w := by
  unfold fkey keyW
  rw [fneg_w h, frung_w, negW]
  by_cases h1 : 9223372036854775808 ≤ w
  · rw [decide_eq_true h1, if_pos rfl, if_pos h1]; omega
  · rw [decide_eq_false h1, if_neg (by simp), if_neg h1]; omega

theorem fnan_w (w : Nat) : FNan w ↔ nanW w = true := by
  unfold FNan nanW
  rw [decide_eq_true_eq]
  have hr := frung_w w
  have hi := d_inf
  by_cases h1 : frung Ieee.double w < Ieee.double.infRung
  · obtain ⟨m, k, e, _⟩ := read_fin h1
    rw [e]
    simp [Datum.isNaN]; omega
  · by_cases h2 : frung Ieee.double w = Ieee.double.infRung
    · rw [read_inf h2 d_bi]
      simp [Datum.isNaN]; omega
    · rw [read_nan (by omega) d_bi]
      simp [Datum.isNaN]; omega

theorem order_nan {a b : Nat} (h : nanW a = true ∨ nanW b = true) : Ieee.double.order a b = none := by
  rw [← fnan_w, ← fnan_w] at h
  unfold FNan at h
  unfold Format.order
  generalize Ieee.double.read a = x at *
  generalize Ieee.double.read b = y at *
  cases x <;> cases y <;> simp_all [Datum.isNaN, Datum.order]

theorem order_w {a b : Nat} (ha : a < 18446744073709551616) (hb : b < 18446744073709551616) (na : nanW a = false) (nb : nanW b = false) : (FLt a b ↔ keyW a < keyW b) ∧ (FEq a b ↔ keyW a = keyW b) ∧ (FGt a b ↔ keyW b < keyW a) := by
  have hna : ¬ (9218868437227405312 < a % 9223372036854775808) := by simpa [nanW] using na
  have hnb : ¬ (9218868437227405312 < b % 9223372036854775808) := by simpa [nanW] using nb
  obtain ⟨o, e, h1, h2, h3⟩ := order_key d_bi (a := a) (b := b) (by rw [frung_w, d_inf]; omega) (by rw [frung_w, d_inf]; omega)
  rw [fkey_w ha, fkey_w hb] at h1 h2 h3
  unfold FLt FEq FGt
  rw [e]
  simp only [Option.some.injEq]
  exact ⟨h1, h2, h3⟩

theorem no_order {a b : Nat} (h : nanW a = true ∨ nanW b = true) : ¬ FLt a b ∧ ¬ FEq a b ∧ ¬ FGt a b := by
  unfold FLt FEq FGt
  rw [order_nan h]
  simp
end Go.Proofs
end

section
open Go Go.Vc
namespace Go.Proofs
set_option maxRecDepth 100000
/-- math.IsNaN -/
theorem vc_isnan (x0 : Nat) (H : Heap) (R : Value → Heap → Prop) : Walk Tryz.prog 81 [] [(.float .f64 x0)] H R = (
 R (.bool (@decide (¬ FEq x0 x0) (Classical.propDecidable _))) H) := by kernel_rfl


/-- math.NaN -/
theorem vc_nan (H : Heap) (R : Value → Heap → Prop) : Walk Tryz.prog 89 [] [] H R = (
 R (.float .f64 (Int.toNat 9221120237041090561)) H) := by kernel_rfl


/-- math.Inf -/
theorem vc_inf (x0 : Int) (H : Heap) (R : Value → Heap → Prop) : Walk Tryz.prog 88 [] [(.int .i64 x0)] H R = (
 ((((0 : Int) ≤ x0) → (
 R (.float .f64 (Int.toNat 9218868437227405312)) H)) ∧ (¬ ((0 : Int) ≤ x0) → (
 R (.float .f64 (Int.toNat 18442240474082181120)) H)))) := by kernel_rfl


/-- math.Copysign -/
theorem vc_copysign (x0 : Nat) (x1 : Nat) (H : Heap) (R : Value → Heap → Prop) : Walk Tryz.prog 87 [] [(.float .f64 x0), (.float .f64 x1)] H R = (
 ∀ q1 : Int, q1 = bits .andNot .u64 (x0 : Nat) 9223372036854775808 → (
 ∀ q2 : Int, q2 = bits .and .u64 (x1 : Nat) 9223372036854775808 → (
 ∀ q3 : Int, q3 = bits .or .u64 q1 q2 → (
 R (.float .f64 (Int.toNat q3)) H)))) := by kernel_rfl


/-- pentimento/pentimentohand.Pick -/
theorem vc_pick (x0 : Int) (x1 : Int) (H : Heap) (R : Value → Heap → Prop) : Walk Tryz.prog 8 [] [(.int .i64 x0), (.int .i64 x1)] H R = (
 ((x1 : Int) ≠ 0) ∧
 ∀ q1 : Int, q1 = Int.tmod x0 x1 → (
 ((((q1 : Int) < 0) → (
 (In64 (q1 + x1)) ∧
 R (.int .i64 (q1 + x1)) H)) ∧ (¬ ((q1 : Int) < 0) → (
 R (.int .i64 q1) H))))) := by kernel_rfl


/-- pentimento/pentimentohand.Time -/
theorem vc_time (x0 : Int) (x1 : Nat) (H : Heap) (R : Value → Heap → Prop) : Walk Tryz.prog 66 [] [(.int .i64 x0), (.float .f64 x1)] H R = (
 Does Tryz.prog 87 [(.float .f64 0), (.float .f64 13830554455654793216)] H fun v1 H2 => ∃ f3 : Nat, v1 = (.float .f64 f3) ∧ (
 Does Tryz.prog 88 [(.int .i64 1)] H2 fun v4 H5 => ∃ f6 : Nat, v4 = (.float .f64 f6) ∧ (
 Does Tryz.prog 88 [(.int .i64 (-1))] H5 fun v7 H8 => ∃ f9 : Nat, v7 = (.float .f64 f9) ∧ (
 Does Tryz.prog 89 [] H8 fun v10 H11 => ∃ f12 : Nat, v10 = (.float .f64 f12) ∧ (
 ∀ b13 : Nat, ∀ H14 : Heap, New H11 b13 [(.float .f64 0), (.float .f64 0), (.float .f64 0), (.float .f64 0), (.float .f64 0), (.float .f64 0), (.float .f64 0), (.float .f64 0), (.float .f64 0), (.float .f64 0), (.float .f64 0), (.float .f64 0)] 132 H14 → (
 Cells H14 b13 0 12 ∧ ∀ H15 : Heap, Puts H14 b13 0 [(.float .f64 0), (.float .f64 f3), (.float .f64 4607182418800017408), (.float .f64 13830554455654793216), (.float .f64 f6), (.float .f64 f9), (.float .f64 f12), (.float .f64 4612811918334230528), (.float .f64 1), (.float .f64 9223372036854775809), (.float .f64 9218868437227405311), (.float .f64 (Int.toNat 18444492273895866373))] H15 → (
 Does Tryz.prog 8 [(.int .i64 x0), (.int .i64 15)] H15 fun v16 H17 => ∃ n18 : Int, v16 = (.int .i64 n18) ∧ (
 ((((n18 : Int) < 12) → (
 (0 : Int) ≤ n18 ∧ (n18 : Int) < (12 : Nat) ∧ (
 ∃ f19 : Nat, hcell H17 b13 (0 + (Int.toNat n18)) = some (.float .f64 f19) ∧ (
 R (.float .f64 f19) H17)))) ∧ (¬ ((n18 : Int) < 12) → (
 R (.float .f64 x1) H17))))))))))) := by kernel_rfl


/-- pentimento/num.Plain -/
theorem vc_plain (x0 : Nat) (H : Heap) (R : Value → Heap → Prop) : Walk Tryz.prog 61 [] [(.float .f64 x0)] H R = (
 Does Tryz.prog 81 [(.float .f64 x0)] H fun v1 H2 => ∃ t3 : Bool, v1 = (.bool t3) ∧ (
 ((t3 = true → (
 R (.float .f64 (Int.toNat 9221120237041090561)) H2)) ∧ (t3 = false → (
 R (.float .f64 x0) H2))))) := by kernel_rfl


/-- pentimento/pentimentoref1.Bits -/
theorem vc_bits (x0 : Nat) (H : Heap) (R : Value → Heap → Prop) : Walk Tryz.prog 64 [] [(.float .f64 x0)] H R = (
 (((¬ FEq x0 x0) → (
 R (.int .u64 9221120237041090561) H)) ∧ (¬ (¬ FEq x0 x0) → (
 R (.int .u64 (x0 : Nat)) H)))) := by kernel_rfl


/-- internal/strconv.formatBits -/
theorem FbV (x1 : Int) (H : Heap) (R : Value → Heap → Prop) : Walk Tryz.prog 107 [(7, [(1, (.int .u64 0))]), (25, [(13, (.int .i64 0)), (1, (.int .u64 0))]), (28, [(13, (.int .i64 0))])] [(.slice none 0 0), (.int .u64 x1), (.int .i64 16), (.bool false), (.bool false)] H R = (
 ((((16 : Int) < 2) → (
 (fun (_ : Value) (_ : Heap) => False) (.iface 9 (.string (ByteArray.mk #[115, 116, 114, 99, 111, 110, 118, 58, 32, 105, 108, 108, 101, 103, 97, 108, 32, 65, 112, 112, 101, 110, 100, 73, 110, 116, 47, 70, 111, 114, 109, 97, 116, 73, 110, 116, 32, 98, 97, 115, 101]))) H)) ∧ (¬ ((16 : Int) < 2) → (
 ((((16 : Int) = 10) → (
 (fun (_ : Value) (_ : Heap) => False) (.iface 9 (.string (ByteArray.mk #[115, 116, 114, 99, 111, 110, 118, 58, 32, 105, 108, 108, 101, 103, 97, 108, 32, 65, 112, 112, 101, 110, 100, 73, 110, 116, 47, 70, 111, 114, 109, 97, 116, 73, 110, 116, 32, 98, 97, 115, 101]))) H)) ∧ (¬ ((16 : Int) = 10) → (
 ((((36 : Int) < 16) → (
 (fun (_ : Value) (_ : Heap) => False) (.iface 9 (.string (ByteArray.mk #[115, 116, 114, 99, 111, 110, 118, 58, 32, 105, 108, 108, 101, 103, 97, 108, 32, 65, 112, 112, 101, 110, 100, 73, 110, 116, 47, 70, 111, 114, 109, 97, 116, 73, 110, 116, 32, 98, 97, 115, 101]))) H)) ∧ (¬ ((36 : Int) < 16) → (
 ∀ b1 : Nat, ∀ H2 : Heap, New H b1 [(.int .u8 0), (.int .u8 0), (.int .u8 0), (.int .u8 0), (.int .u8 0), (.int .u8 0), (.int .u8 0), (.int .u8 0), (.int .u8 0), (.int .u8 0), (.int .u8 0), (.int .u8 0), (.int .u8 0), (.int .u8 0), (.int .u8 0), (.int .u8 0), (.int .u8 0), (.int .u8 0), (.int .u8 0), (.int .u8 0), (.int .u8 0), (.int .u8 0), (.int .u8 0), (.int .u8 0), (.int .u8 0), (.int .u8 0), (.int .u8 0), (.int .u8 0), (.int .u8 0), (.int .u8 0), (.int .u8 0), (.int .u8 0), (.int .u8 0), (.int .u8 0), (.int .u8 0), (.int .u8 0), (.int .u8 0), (.int .u8 0), (.int .u8 0), (.int .u8 0), (.int .u8 0), (.int .u8 0), (.int .u8 0), (.int .u8 0), (.int .u8 0), (.int .u8 0), (.int .u8 0), (.int .u8 0), (.int .u8 0), (.int .u8 0), (.int .u8 0), (.int .u8 0), (.int .u8 0), (.int .u8 0), (.int .u8 0), (.int .u8 0), (.int .u8 0), (.int .u8 0), (.int .u8 0), (.int .u8 0), (.int .u8 0), (.int .u8 0), (.int .u8 0), (.int .u8 0), (.int .u8 0)] 155 H2 → (
 ∃ I3 : Int → Heap → Prop, (
 ((false = true → (
 ∀ q4 : Int, q4 = IntKind.wrap .u64 (0 - x1) → (
 I3 q4 H2))) ∧ (false = false → (
 I3 x1 H2)))) ∧
 ∀ n5 : Int, ∀ H6 : Heap, I3 n5 H6 → (
 ∃ I7 : Int → Int → Heap → Prop, (
 Does Tryz.prog 122 [(.int .i64 16)] H6 fun v8 H9 => ∃ t10 : Bool, v8 = (.bool t10) ∧ (
 ((t10 = true → (
 ∀ q11 : Int, q11 = IntKind.wrap .u64 16 → (
 Does Tryz.prog 123 [(.int .u64 q11)] H9 fun v12 H13 => ∃ n14 : Int, v12 = (.int .i64 n14) ∧ (
 ∀ q15 : Int, q15 = IntKind.wrap .u64 n14 → (
 ∀ q16 : Int, q16 = IntKind.wrap .u64 16 → (
 ∀ q17 : Int, q17 = IntKind.wrap .u64 16 → (
 ∀ q18 : Int, q18 = IntKind.wrap .u64 (q17 - 1) → (
 ∃ I19 : Int → Int → Heap → Prop, ∃ μ20 : Int → Int → Heap → Nat, (I19 65 n5 H13) ∧
 ∀ n21 : Int, ∀ n22 : Int, ∀ H23 : Heap, I19 n21 n22 H23 → (
 ((((q16 : Int) ≤ n22) → (
 (In64 (n21 - 1)) ∧
 ∀ q24 : Int, q24 = bits .and .u64 n22 q18 → (
 (0 : Int) ≤ q24 ∧ (q24 : Int) < (ByteArray.size (ByteArray.mk #[48, 49, 50, 51, 52, 53, 54, 55, 56, 57, 97, 98, 99, 100, 101, 102, 103, 104, 105, 106, 107, 108, 109, 110, 111, 112, 113, 114, 115, 116, 117, 118, 119, 120, 121, 122]) : Int) ∧ ∀ q25 : Int, q25 = (((ByteArray.data (ByteArray.mk #[48, 49, 50, 51, 52, 53, 54, 55, 56, 57, 97, 98, 99, 100, 101, 102, 103, 104, 105, 106, 107, 108, 109, 110, 111, 112, 113, 114, 115, 116, 117, 118, 119, 120, 121, 122])).toList.getD (Int.toNat q24) 0).toNat : Int) → (
 (0 : Int) ≤ (n21 - 1) ∧ ((n21 - 1) : Int) < (65 : Nat) ∧ (
 Cells H23 b1 (0 + (Int.toNat (n21 - 1))) 1 ∧ ∀ H26 : Heap, Puts H23 b1 (0 + (Int.toNat (n21 - 1))) [(.int .u8 q25)] H26 → (
 ((0 : Int) ≤ q15) ∧
 ∀ q27 : Int, q27 = Int.fdiv n22 (2 ^ (min (Int.toNat q15) (IntKind.bits .u64))) → (
 (I19 (n21 - 1) q27 H26) ∧ μ20 (n21 - 1) q27 H26 < μ20 n21 n22 H23))))))) ∧ (¬ ((q16 : Int) ≤ n22) → (
 (In64 (n21 - 1)) ∧
 (0 : Int) ≤ n22 ∧ (n22 : Int) < (ByteArray.size (ByteArray.mk #[48, 49, 50, 51, 52, 53, 54, 55, 56, 57, 97, 98, 99, 100, 101, 102, 103, 104, 105, 106, 107, 108, 109, 110, 111, 112, 113, 114, 115, 116, 117, 118, 119, 120, 121, 122]) : Int) ∧ ∀ q28 : Int, q28 = (((ByteArray.data (ByteArray.mk #[48, 49, 50, 51, 52, 53, 54, 55, 56, 57, 97, 98, 99, 100, 101, 102, 103, 104, 105, 106, 107, 108, 109, 110, 111, 112, 113, 114, 115, 116, 117, 118, 119, 120, 121, 122])).toList.getD (Int.toNat n22) 0).toNat : Int) → (
 (0 : Int) ≤ (n21 - 1) ∧ ((n21 - 1) : Int) < (65 : Nat) ∧ (
 Cells H23 b1 (0 + (Int.toNat (n21 - 1))) 1 ∧ ∀ H29 : Heap, Puts H23 b1 (0 + (Int.toNat (n21 - 1))) [(.int .u8 q28)] H29 → (
 I7 (n21 - 1) n22 H29))))))))))))))) ∧ (t10 = false → (
 ∀ q30 : Int, q30 = IntKind.wrap .u64 16 → (
 ∃ I31 : Int → Int → Heap → Prop, ∃ μ32 : Int → Int → Heap → Nat, (I31 65 n5 H9) ∧
 ∀ n33 : Int, ∀ n34 : Int, ∀ H35 : Heap, I31 n33 n34 H35 → (
 ((((q30 : Int) ≤ n34) → (
 (In64 (n33 - 1)) ∧
 ((q30 : Int) ≠ 0) ∧
 ∀ q36 : Int, q36 = IntKind.wrap .u64 (Int.tdiv n34 q30) → (
 ∀ q37 : Int, q37 = IntKind.wrap .u64 (q36 * q30) → (
 ∀ q38 : Int, q38 = IntKind.wrap .u64 (n34 - q37) → (
 (0 : Int) ≤ q38 ∧ (q38 : Int) < (ByteArray.size (ByteArray.mk #[48, 49, 50, 51, 52, 53, 54, 55, 56, 57, 97, 98, 99, 100, 101, 102, 103, 104, 105, 106, 107, 108, 109, 110, 111, 112, 113, 114, 115, 116, 117, 118, 119, 120, 121, 122]) : Int) ∧ ∀ q39 : Int, q39 = (((ByteArray.data (ByteArray.mk #[48, 49, 50, 51, 52, 53, 54, 55, 56, 57, 97, 98, 99, 100, 101, 102, 103, 104, 105, 106, 107, 108, 109, 110, 111, 112, 113, 114, 115, 116, 117, 118, 119, 120, 121, 122])).toList.getD (Int.toNat q38) 0).toNat : Int) → (
 (0 : Int) ≤ (n33 - 1) ∧ ((n33 - 1) : Int) < (65 : Nat) ∧ (
 Cells H35 b1 (0 + (Int.toNat (n33 - 1))) 1 ∧ ∀ H40 : Heap, Puts H35 b1 (0 + (Int.toNat (n33 - 1))) [(.int .u8 q39)] H40 → (
 (I31 (n33 - 1) q36 H40) ∧ μ32 (n33 - 1) q36 H40 < μ32 n33 n34 H35)))))))) ∧ (¬ ((q30 : Int) ≤ n34) → (
 (In64 (n33 - 1)) ∧
 (0 : Int) ≤ n34 ∧ (n34 : Int) < (ByteArray.size (ByteArray.mk #[48, 49, 50, 51, 52, 53, 54, 55, 56, 57, 97, 98, 99, 100, 101, 102, 103, 104, 105, 106, 107, 108, 109, 110, 111, 112, 113, 114, 115, 116, 117, 118, 119, 120, 121, 122]) : Int) ∧ ∀ q41 : Int, q41 = (((ByteArray.data (ByteArray.mk #[48, 49, 50, 51, 52, 53, 54, 55, 56, 57, 97, 98, 99, 100, 101, 102, 103, 104, 105, 106, 107, 108, 109, 110, 111, 112, 113, 114, 115, 116, 117, 118, 119, 120, 121, 122])).toList.getD (Int.toNat n34) 0).toNat : Int) → (
 (0 : Int) ≤ (n33 - 1) ∧ ((n33 - 1) : Int) < (65 : Nat) ∧ (
 Cells H35 b1 (0 + (Int.toNat (n33 - 1))) 1 ∧ ∀ H42 : Heap, Puts H35 b1 (0 + (Int.toNat (n33 - 1))) [(.int .u8 q41)] H42 → (
 I7 (n33 - 1) n34 H42))))))))))))) ∧
 ∀ n43 : Int, ∀ n44 : Int, ∀ H45 : Heap, I7 n43 n44 H45 → (
 ∃ I46 : Int → Heap → Prop, (
 ((false = true → (
 (In64 (n43 - 1)) ∧
 (0 : Int) ≤ (n43 - 1) ∧ ((n43 - 1) : Int) < (65 : Nat) ∧ (
 Cells H45 b1 (0 + (Int.toNat (n43 - 1))) 1 ∧ ∀ H47 : Heap, Puts H45 b1 (0 + (Int.toNat (n43 - 1))) [(.int .u8 45)] H47 → (
 I46 (n43 - 1) H47)))) ∧ (false = false → (
 I46 n43 H45)))) ∧
 ∀ n48 : Int, ∀ H49 : Heap, I46 n48 H49 → (
 ((false = true → (
 (0 : Int) ≤ n48 ∧ (n48 : Int) ≤ (65 : Nat) ∧ ∀ o50 : Nat, o50 = (if 65 = (Int.toNat n48) then 0 else 0 + (Int.toNat n48) * 1) → (
 ∃ old51 new52 : List Value, SRow H49 1 0 (.slice none 0 0) old51 ∧ SRow H49 1 (65 - (Int.toNat n48)) (.slice (some (⟨b1, o50, none⟩ : Addr)) (65 - (Int.toNat n48)) (65 - (Int.toNat n48))) new52 ∧ (∀ u ∈ new52, Value.oneCell' u = true) ∧ (0 + (65 - (Int.toNat n48))) * 1 ≤ 140737488355328 ∧ (0 + (65 - (Int.toNat n48)) ≤ 0 → roomOf H49 none (0 * 1) ((65 - (Int.toNat n48)) * 1)) ∧ ∀ a53 : Option Addr, ∀ c54 : Nat, ∀ H55 : Heap, App H49 1 5 [(.int .u8 0)] none 0 0 old51 new52 (65 - (Int.toNat n48)) a53 c54 H55 → (
 R (.tuple #[(.slice a53 (0 + (65 - (Int.toNat n48))) c54), (.string (ByteArray.mk #[]))]) H55)))) ∧ (false = false → (
 (0 : Int) ≤ n48 ∧ (n48 : Int) ≤ (65 : Nat) ∧ ∀ o56 : Nat, o56 = (if 65 = (Int.toNat n48) then 0 else 0 + (Int.toNat n48) * 1) → (
 ∃ l57 : List UInt8, SRow H49 1 (65 - (Int.toNat n48)) (.slice (some (⟨b1, o56, none⟩ : Addr)) (65 - (Int.toNat n48)) (65 - (Int.toNat n48))) (List.map (fun (b : UInt8) => Value.int .u8 b.toNat) l57) ∧ (
 R (.tuple #[(.slice none 0 0), (.string (ByteArray.mk (List.toArray l57)))]) H49))))))))))))))))))) := by kernel_rfl


/-- internal/strconv.FormatUint -/
theorem FuiV (x0 : Int) (H : Heap) (R : Value → Heap → Prop) : Walk Tryz.prog 80 [] [(.int .u64 x0), (.int .i64 16)] H R = (
 ((((16 : Int) = 10) → (
 ((((x0 : Int) < 100) → (
 ∀ q1 : Int, q1 = IntKind.wrap .i64 x0 → (
 Does Tryz.prog 104 [(.int .i64 q1)] H fun v2 H3 => ∃ s4 : ByteArray, v2 = (.string s4) ∧ (
 R (.string s4) H3)))) ∧ (¬ ((x0 : Int) < 100) → (
 ∀ b5 : Nat, ∀ H6 : Heap, New H b5 [(.int .u8 0), (.int .u8 0), (.int .u8 0), (.int .u8 0), (.int .u8 0), (.int .u8 0), (.int .u8 0), (.int .u8 0), (.int .u8 0), (.int .u8 0), (.int .u8 0), (.int .u8 0), (.int .u8 0), (.int .u8 0), (.int .u8 0), (.int .u8 0), (.int .u8 0), (.int .u8 0), (.int .u8 0), (.int .u8 0), (.int .u8 0), (.int .u8 0), (.int .u8 0), (.int .u8 0)] 144 H6 → (
 Does Tryz.prog 105 [(.int .u64 x0)] H6 fun v7 H8 => ∃ n9 : Int, v7 = (.int .i64 n9) ∧ (
 (0 : Int) ≤ n9 ∧ (n9 : Int) ≤ (24 : Nat) ∧ (
 Does Tryz.prog 106 [(.slice (some (⟨b5, 0, none⟩ : Addr)) (Int.toNat n9) 24), (.int .u64 x0)] H8 fun v10 H11 => v10 = (.tuple #[]) ∧ (
 (0 : Int) ≤ n9 ∧ (n9 : Int) ≤ (24 : Nat) ∧ (
 ∃ l12 : List UInt8, SRow H11 1 (Int.toNat n9) (.slice (some (⟨b5, 0, none⟩ : Addr)) (Int.toNat n9) 24) (List.map (fun (b : UInt8) => Value.int .u8 b.toNat) l12) ∧ (
 R (.string (ByteArray.mk (List.toArray l12))) H11))))))))))) ∧ (¬ ((16 : Int) = 10) → (
 Does Tryz.prog 107 [(.slice none 0 0), (.int .u64 x0), (.int .i64 16), (.bool false), (.bool false)] H fun v13 H14 => ∃ a15 : Option Addr, ∃ l16 : Nat, ∃ c17 : Nat, ∃ s18 : ByteArray, v13 = (.tuple #[(.slice a15 l16 c17), (.string s18)]) ∧ (
 R (.string s18) H14))))) := by kernel_rfl


/-- strconv.FormatUint -/
theorem FuV (x0 : Int) (H : Heap) (R : Value → Heap → Prop) : Walk Tryz.prog 59 [] [(.int .u64 x0), (.int .i64 16)] H R = (
 Does Tryz.prog 80 [(.int .u64 x0), (.int .i64 16)] H fun v1 H2 => ∃ s3 : ByteArray, v1 = (.string s3) ∧ (
 R (.string s3) H2)) := by kernel_rfl


/-- internal/strconv.isPowerOfTwo -/
theorem Pow2V (x0 : Int) (H : Heap) (R : Value → Heap → Prop) : Walk Tryz.prog 122 [] [(.int .i64 x0)] H R = (
 (In64 (x0 - 1)) ∧
 ∀ q1 : Int, q1 = bits .and .i64 x0 (x0 - 1) → (
 R (.bool (@decide ((q1 : Int) = 0) (Classical.propDecidable _))) H)) := by kernel_rfl


/-- math/bits.TrailingZeros -/
theorem TzV (x0 : Int) (H : Heap) (R : Value → Heap → Prop) : Walk Tryz.prog 123 [] [(.int .u64 x0)] H R = (
 Does Tryz.prog 134 [(.int .u64 x0)] H fun v1 H2 => ∃ n3 : Int, v1 = (.int .i64 n3) ∧ (
 R (.int .i64 n3) H2)) := by kernel_rfl


/-- math/bits.TrailingZeros64 -/
theorem Tz64V (x0 : Int) (H : Heap) (R : Value → Heap → Prop) : Walk Tryz.prog 134 [] [(.int .u64 x0)] H R = (
 ((((x0 : Int) = 0) → (
 R (.int .i64 64) H)) ∧ (¬ ((x0 : Int) = 0) → (
 ∀ q1 : Int, q1 = IntKind.wrap .u64 (0 - x0) → (
 ∀ q2 : Int, q2 = bits .and .u64 x0 q1 → (
 ∀ q3 : Int, q3 = IntKind.wrap .u64 (q2 * 285870213051353865) → (
 ((0 : Int) ≤ 58) ∧
 ∀ q4 : Int, q4 = Int.fdiv q3 (2 ^ (min (Int.toNat 58) (IntKind.bits .u64))) → (
 (0 : Int) ≤ q4 ∧ (q4 : Int) < (64 : Nat) ∧ (
 ∃ n5 : Int, hcell H 10 (0 + (Int.toNat q4)) = some (.int .u8 n5) ∧ (
 (In64 n5) ∧
 R (.int .i64 n5) H)))))))))) := by kernel_rfl


/-- pentimento/num.Text -/
theorem TextV (x0 : Nat) (H : Heap) (R : Value → Heap → Prop) : Walk Tryz.prog 37 [] [(.float .f64 x0)] H R = (
 Does Tryz.prog 61 [(.float .f64 x0)] H fun v1 H2 => ∃ f3 : Nat, v1 = (.float .f64 f3) ∧ (
 Does Tryz.prog 59 [(.int .u64 (f3 : Nat)), (.int .i64 16)] H2 fun v4 H5 => ∃ s6 : ByteArray, v4 = (.string s6) ∧ (
 ∃ I7 : ByteArray → Heap → Prop, ∃ μ8 : ByteArray → Heap → Nat, (I7 s6 H5) ∧
 ∀ s9 : ByteArray, ∀ H10 : Heap, I7 s9 H10 → (
 (((((ByteArray.size s9 : Int) : Int) < 16) → (
 (In64 (((ByteArray.size (ByteArray.mk #[48])) + (ByteArray.size s9) : Nat) : Int)) ∧
 (I7 ((ByteArray.mk #[48]) ++ s9) H10) ∧ μ8 ((ByteArray.mk #[48]) ++ s9) H10 < μ8 s9 H10)) ∧ (¬ (((ByteArray.size s9 : Int) : Int) < 16) → (
 R (.string s9) H10))))))) := by kernel_rfl


/-- internal/strconv.ParseUint -/
theorem PuV (x0 : ByteArray) (H : Heap) (R : Value → Heap → Prop) : Walk Tryz.prog 118 [(21, [(0, (.string (ByteArray.mk #[]))), (1, (.int .i64 0))]), (25, [(2, (.int .i64 0))]), (32, [(10, (.int .u64 0))]), (46, [(16, (.int .u8 0)), (12, (.bool false))])] [(.string x0), (.int .i64 16), (.int .i64 64)] H R = (
 ((((x0 : ByteArray) = (ByteArray.mk #[])) → (
 R (.tuple #[(.int .u64 0), (.iface 164 (.int .i64 2))]) H)) ∧ (¬ ((x0 : ByteArray) = (ByteArray.mk #[])) → (
 ∃ I1 : ByteArray → Int → Heap → Prop, (
 ((((2 : Int) ≤ 16) → (
 ((((16 : Int) ≤ 36) → (
 I1 x0 16 H)) ∧ (¬ ((16 : Int) ≤ 36) → (
 ((((16 : Int) = 0) → (
 (0 : Int) ≤ 0 ∧ (0 : Int) < (ByteArray.size x0 : Int) ∧ ∀ q2 : Int, q2 = (((ByteArray.data x0).toList.getD (Int.toNat 0) 0).toNat : Int) → (
 ((((q2 : Int) = 48) → (
 ((((3 : Int) ≤ (ByteArray.size x0 : Int)) → (
 (0 : Int) ≤ 1 ∧ (1 : Int) < (ByteArray.size x0 : Int) ∧ ∀ q3 : Int, q3 = (((ByteArray.data x0).toList.getD (Int.toNat 1) 0).toNat : Int) → (
 Does Tryz.prog 131 [(.int .u8 q3)] H fun v4 H5 => ∃ n6 : Int, v4 = (.int .u8 n6) ∧ (
 ((((n6 : Int) = 98) → (
 (0 : Int) ≤ 2 ∧ (2 : Int) ≤ ((ByteArray.size x0) : Int) ∧ (
 I1 (ByteArray.extract x0 (Int.toNat 2) (ByteArray.size x0)) 2 H5))) ∧ (¬ ((n6 : Int) = 98) → (
 ((((3 : Int) ≤ (ByteArray.size x0 : Int)) → (
 (0 : Int) ≤ 1 ∧ (1 : Int) < (ByteArray.size x0 : Int) ∧ ∀ q7 : Int, q7 = (((ByteArray.data x0).toList.getD (Int.toNat 1) 0).toNat : Int) → (
 Does Tryz.prog 131 [(.int .u8 q7)] H5 fun v8 H9 => ∃ n10 : Int, v8 = (.int .u8 n10) ∧ (
 ((((n10 : Int) = 111) → (
 (0 : Int) ≤ 2 ∧ (2 : Int) ≤ ((ByteArray.size x0) : Int) ∧ (
 I1 (ByteArray.extract x0 (Int.toNat 2) (ByteArray.size x0)) 8 H9))) ∧ (¬ ((n10 : Int) = 111) → (
 ((((3 : Int) ≤ (ByteArray.size x0 : Int)) → (
 (0 : Int) ≤ 1 ∧ (1 : Int) < (ByteArray.size x0 : Int) ∧ ∀ q11 : Int, q11 = (((ByteArray.data x0).toList.getD (Int.toNat 1) 0).toNat : Int) → (
 Does Tryz.prog 131 [(.int .u8 q11)] H9 fun v12 H13 => ∃ n14 : Int, v12 = (.int .u8 n14) ∧ (
 ((((n14 : Int) = 120) → (
 (0 : Int) ≤ 2 ∧ (2 : Int) ≤ ((ByteArray.size x0) : Int) ∧ (
 I1 (ByteArray.extract x0 (Int.toNat 2) (ByteArray.size x0)) 16 H13))) ∧ (¬ ((n14 : Int) = 120) → (
 (0 : Int) ≤ 1 ∧ (1 : Int) ≤ ((ByteArray.size x0) : Int) ∧ (
 I1 (ByteArray.extract x0 (Int.toNat 1) (ByteArray.size x0)) 8 H13)))))))) ∧ (¬ ((3 : Int) ≤ (ByteArray.size x0 : Int)) → (
 (0 : Int) ≤ 1 ∧ (1 : Int) ≤ ((ByteArray.size x0) : Int) ∧ (
 I1 (ByteArray.extract x0 (Int.toNat 1) (ByteArray.size x0)) 8 H9))))))))))) ∧ (¬ ((3 : Int) ≤ (ByteArray.size x0 : Int)) → (
 ((((3 : Int) ≤ (ByteArray.size x0 : Int)) → (
 (0 : Int) ≤ 1 ∧ (1 : Int) < (ByteArray.size x0 : Int) ∧ ∀ q15 : Int, q15 = (((ByteArray.data x0).toList.getD (Int.toNat 1) 0).toNat : Int) → (
 Does Tryz.prog 131 [(.int .u8 q15)] H5 fun v16 H17 => ∃ n18 : Int, v16 = (.int .u8 n18) ∧ (
 ((((n18 : Int) = 120) → (
 (0 : Int) ≤ 2 ∧ (2 : Int) ≤ ((ByteArray.size x0) : Int) ∧ (
 I1 (ByteArray.extract x0 (Int.toNat 2) (ByteArray.size x0)) 16 H17))) ∧ (¬ ((n18 : Int) = 120) → (
 (0 : Int) ≤ 1 ∧ (1 : Int) ≤ ((ByteArray.size x0) : Int) ∧ (
 I1 (ByteArray.extract x0 (Int.toNat 1) (ByteArray.size x0)) 8 H17)))))))) ∧ (¬ ((3 : Int) ≤ (ByteArray.size x0 : Int)) → (
 (0 : Int) ≤ 1 ∧ (1 : Int) ≤ ((ByteArray.size x0) : Int) ∧ (
 I1 (ByteArray.extract x0 (Int.toNat 1) (ByteArray.size x0)) 8 H5)))))))))))))) ∧ (¬ ((3 : Int) ≤ (ByteArray.size x0 : Int)) → (
 ((((3 : Int) ≤ (ByteArray.size x0 : Int)) → (
 (0 : Int) ≤ 1 ∧ (1 : Int) < (ByteArray.size x0 : Int) ∧ ∀ q19 : Int, q19 = (((ByteArray.data x0).toList.getD (Int.toNat 1) 0).toNat : Int) → (
 Does Tryz.prog 131 [(.int .u8 q19)] H fun v20 H21 => ∃ n22 : Int, v20 = (.int .u8 n22) ∧ (
 ((((n22 : Int) = 111) → (
 (0 : Int) ≤ 2 ∧ (2 : Int) ≤ ((ByteArray.size x0) : Int) ∧ (
 I1 (ByteArray.extract x0 (Int.toNat 2) (ByteArray.size x0)) 8 H21))) ∧ (¬ ((n22 : Int) = 111) → (
 ((((3 : Int) ≤ (ByteArray.size x0 : Int)) → (
 (0 : Int) ≤ 1 ∧ (1 : Int) < (ByteArray.size x0 : Int) ∧ ∀ q23 : Int, q23 = (((ByteArray.data x0).toList.getD (Int.toNat 1) 0).toNat : Int) → (
 Does Tryz.prog 131 [(.int .u8 q23)] H21 fun v24 H25 => ∃ n26 : Int, v24 = (.int .u8 n26) ∧ (
 ((((n26 : Int) = 120) → (
 (0 : Int) ≤ 2 ∧ (2 : Int) ≤ ((ByteArray.size x0) : Int) ∧ (
 I1 (ByteArray.extract x0 (Int.toNat 2) (ByteArray.size x0)) 16 H25))) ∧ (¬ ((n26 : Int) = 120) → (
 (0 : Int) ≤ 1 ∧ (1 : Int) ≤ ((ByteArray.size x0) : Int) ∧ (
 I1 (ByteArray.extract x0 (Int.toNat 1) (ByteArray.size x0)) 8 H25)))))))) ∧ (¬ ((3 : Int) ≤ (ByteArray.size x0 : Int)) → (
 (0 : Int) ≤ 1 ∧ (1 : Int) ≤ ((ByteArray.size x0) : Int) ∧ (
 I1 (ByteArray.extract x0 (Int.toNat 1) (ByteArray.size x0)) 8 H21))))))))))) ∧ (¬ ((3 : Int) ≤ (ByteArray.size x0 : Int)) → (
 ((((3 : Int) ≤ (ByteArray.size x0 : Int)) → (
 (0 : Int) ≤ 1 ∧ (1 : Int) < (ByteArray.size x0 : Int) ∧ ∀ q27 : Int, q27 = (((ByteArray.data x0).toList.getD (Int.toNat 1) 0).toNat : Int) → (
 Does Tryz.prog 131 [(.int .u8 q27)] H fun v28 H29 => ∃ n30 : Int, v28 = (.int .u8 n30) ∧ (
 ((((n30 : Int) = 120) → (
 (0 : Int) ≤ 2 ∧ (2 : Int) ≤ ((ByteArray.size x0) : Int) ∧ (
 I1 (ByteArray.extract x0 (Int.toNat 2) (ByteArray.size x0)) 16 H29))) ∧ (¬ ((n30 : Int) = 120) → (
 (0 : Int) ≤ 1 ∧ (1 : Int) ≤ ((ByteArray.size x0) : Int) ∧ (
 I1 (ByteArray.extract x0 (Int.toNat 1) (ByteArray.size x0)) 8 H29)))))))) ∧ (¬ ((3 : Int) ≤ (ByteArray.size x0 : Int)) → (
 (0 : Int) ≤ 1 ∧ (1 : Int) ≤ ((ByteArray.size x0) : Int) ∧ (
 I1 (ByteArray.extract x0 (Int.toNat 1) (ByteArray.size x0)) 8 H)))))))))))) ∧ (¬ ((q2 : Int) = 48) → (
 I1 x0 10 H)))))) ∧ (¬ ((16 : Int) = 0) → (
 R (.tuple #[(.int .u64 0), (.iface 164 (.int .i64 3))]) H)))))))) ∧ (¬ ((2 : Int) ≤ 16) → (
 ((((16 : Int) = 0) → (
 (0 : Int) ≤ 0 ∧ (0 : Int) < (ByteArray.size x0 : Int) ∧ ∀ q31 : Int, q31 = (((ByteArray.data x0).toList.getD (Int.toNat 0) 0).toNat : Int) → (
 ((((q31 : Int) = 48) → (
 ((((3 : Int) ≤ (ByteArray.size x0 : Int)) → (
 (0 : Int) ≤ 1 ∧ (1 : Int) < (ByteArray.size x0 : Int) ∧ ∀ q32 : Int, q32 = (((ByteArray.data x0).toList.getD (Int.toNat 1) 0).toNat : Int) → (
 Does Tryz.prog 131 [(.int .u8 q32)] H fun v33 H34 => ∃ n35 : Int, v33 = (.int .u8 n35) ∧ (
 ((((n35 : Int) = 98) → (
 (0 : Int) ≤ 2 ∧ (2 : Int) ≤ ((ByteArray.size x0) : Int) ∧ (
 I1 (ByteArray.extract x0 (Int.toNat 2) (ByteArray.size x0)) 2 H34))) ∧ (¬ ((n35 : Int) = 98) → (
 ((((3 : Int) ≤ (ByteArray.size x0 : Int)) → (
 (0 : Int) ≤ 1 ∧ (1 : Int) < (ByteArray.size x0 : Int) ∧ ∀ q36 : Int, q36 = (((ByteArray.data x0).toList.getD (Int.toNat 1) 0).toNat : Int) → (
 Does Tryz.prog 131 [(.int .u8 q36)] H34 fun v37 H38 => ∃ n39 : Int, v37 = (.int .u8 n39) ∧ (
 ((((n39 : Int) = 111) → (
 (0 : Int) ≤ 2 ∧ (2 : Int) ≤ ((ByteArray.size x0) : Int) ∧ (
 I1 (ByteArray.extract x0 (Int.toNat 2) (ByteArray.size x0)) 8 H38))) ∧ (¬ ((n39 : Int) = 111) → (
 ((((3 : Int) ≤ (ByteArray.size x0 : Int)) → (
 (0 : Int) ≤ 1 ∧ (1 : Int) < (ByteArray.size x0 : Int) ∧ ∀ q40 : Int, q40 = (((ByteArray.data x0).toList.getD (Int.toNat 1) 0).toNat : Int) → (
 Does Tryz.prog 131 [(.int .u8 q40)] H38 fun v41 H42 => ∃ n43 : Int, v41 = (.int .u8 n43) ∧ (
 ((((n43 : Int) = 120) → (
 (0 : Int) ≤ 2 ∧ (2 : Int) ≤ ((ByteArray.size x0) : Int) ∧ (
 I1 (ByteArray.extract x0 (Int.toNat 2) (ByteArray.size x0)) 16 H42))) ∧ (¬ ((n43 : Int) = 120) → (
 (0 : Int) ≤ 1 ∧ (1 : Int) ≤ ((ByteArray.size x0) : Int) ∧ (
 I1 (ByteArray.extract x0 (Int.toNat 1) (ByteArray.size x0)) 8 H42)))))))) ∧ (¬ ((3 : Int) ≤ (ByteArray.size x0 : Int)) → (
 (0 : Int) ≤ 1 ∧ (1 : Int) ≤ ((ByteArray.size x0) : Int) ∧ (
 I1 (ByteArray.extract x0 (Int.toNat 1) (ByteArray.size x0)) 8 H38))))))))))) ∧ (¬ ((3 : Int) ≤ (ByteArray.size x0 : Int)) → (
 ((((3 : Int) ≤ (ByteArray.size x0 : Int)) → (
 (0 : Int) ≤ 1 ∧ (1 : Int) < (ByteArray.size x0 : Int) ∧ ∀ q44 : Int, q44 = (((ByteArray.data x0).toList.getD (Int.toNat 1) 0).toNat : Int) → (
 Does Tryz.prog 131 [(.int .u8 q44)] H34 fun v45 H46 => ∃ n47 : Int, v45 = (.int .u8 n47) ∧ (
 ((((n47 : Int) = 120) → (
 (0 : Int) ≤ 2 ∧ (2 : Int) ≤ ((ByteArray.size x0) : Int) ∧ (
 I1 (ByteArray.extract x0 (Int.toNat 2) (ByteArray.size x0)) 16 H46))) ∧ (¬ ((n47 : Int) = 120) → (
 (0 : Int) ≤ 1 ∧ (1 : Int) ≤ ((ByteArray.size x0) : Int) ∧ (
 I1 (ByteArray.extract x0 (Int.toNat 1) (ByteArray.size x0)) 8 H46)))))))) ∧ (¬ ((3 : Int) ≤ (ByteArray.size x0 : Int)) → (
 (0 : Int) ≤ 1 ∧ (1 : Int) ≤ ((ByteArray.size x0) : Int) ∧ (
 I1 (ByteArray.extract x0 (Int.toNat 1) (ByteArray.size x0)) 8 H34)))))))))))))) ∧ (¬ ((3 : Int) ≤ (ByteArray.size x0 : Int)) → (
 ((((3 : Int) ≤ (ByteArray.size x0 : Int)) → (
 (0 : Int) ≤ 1 ∧ (1 : Int) < (ByteArray.size x0 : Int) ∧ ∀ q48 : Int, q48 = (((ByteArray.data x0).toList.getD (Int.toNat 1) 0).toNat : Int) → (
 Does Tryz.prog 131 [(.int .u8 q48)] H fun v49 H50 => ∃ n51 : Int, v49 = (.int .u8 n51) ∧ (
 ((((n51 : Int) = 111) → (
 (0 : Int) ≤ 2 ∧ (2 : Int) ≤ ((ByteArray.size x0) : Int) ∧ (
 I1 (ByteArray.extract x0 (Int.toNat 2) (ByteArray.size x0)) 8 H50))) ∧ (¬ ((n51 : Int) = 111) → (
 ((((3 : Int) ≤ (ByteArray.size x0 : Int)) → (
 (0 : Int) ≤ 1 ∧ (1 : Int) < (ByteArray.size x0 : Int) ∧ ∀ q52 : Int, q52 = (((ByteArray.data x0).toList.getD (Int.toNat 1) 0).toNat : Int) → (
 Does Tryz.prog 131 [(.int .u8 q52)] H50 fun v53 H54 => ∃ n55 : Int, v53 = (.int .u8 n55) ∧ (
 ((((n55 : Int) = 120) → (
 (0 : Int) ≤ 2 ∧ (2 : Int) ≤ ((ByteArray.size x0) : Int) ∧ (
 I1 (ByteArray.extract x0 (Int.toNat 2) (ByteArray.size x0)) 16 H54))) ∧ (¬ ((n55 : Int) = 120) → (
 (0 : Int) ≤ 1 ∧ (1 : Int) ≤ ((ByteArray.size x0) : Int) ∧ (
 I1 (ByteArray.extract x0 (Int.toNat 1) (ByteArray.size x0)) 8 H54)))))))) ∧ (¬ ((3 : Int) ≤ (ByteArray.size x0 : Int)) → (
 (0 : Int) ≤ 1 ∧ (1 : Int) ≤ ((ByteArray.size x0) : Int) ∧ (
 I1 (ByteArray.extract x0 (Int.toNat 1) (ByteArray.size x0)) 8 H50))))))))))) ∧ (¬ ((3 : Int) ≤ (ByteArray.size x0 : Int)) → (
 ((((3 : Int) ≤ (ByteArray.size x0 : Int)) → (
 (0 : Int) ≤ 1 ∧ (1 : Int) < (ByteArray.size x0 : Int) ∧ ∀ q56 : Int, q56 = (((ByteArray.data x0).toList.getD (Int.toNat 1) 0).toNat : Int) → (
 Does Tryz.prog 131 [(.int .u8 q56)] H fun v57 H58 => ∃ n59 : Int, v57 = (.int .u8 n59) ∧ (
 ((((n59 : Int) = 120) → (
 (0 : Int) ≤ 2 ∧ (2 : Int) ≤ ((ByteArray.size x0) : Int) ∧ (
 I1 (ByteArray.extract x0 (Int.toNat 2) (ByteArray.size x0)) 16 H58))) ∧ (¬ ((n59 : Int) = 120) → (
 (0 : Int) ≤ 1 ∧ (1 : Int) ≤ ((ByteArray.size x0) : Int) ∧ (
 I1 (ByteArray.extract x0 (Int.toNat 1) (ByteArray.size x0)) 8 H58)))))))) ∧ (¬ ((3 : Int) ≤ (ByteArray.size x0 : Int)) → (
 (0 : Int) ≤ 1 ∧ (1 : Int) ≤ ((ByteArray.size x0) : Int) ∧ (
 I1 (ByteArray.extract x0 (Int.toNat 1) (ByteArray.size x0)) 8 H)))))))))))) ∧ (¬ ((q31 : Int) = 48) → (
 I1 x0 10 H)))))) ∧ (¬ ((16 : Int) = 0) → (
 R (.tuple #[(.int .u64 0), (.iface 164 (.int .i64 3))]) H))))))) ∧
 ∀ s60 : ByteArray, ∀ n61 : Int, ∀ H62 : Heap, I1 s60 n61 H62 → (
 ∃ I63 : Int → Heap → Prop, (
 ((((64 : Int) = 0) → (
 I63 64 H62)) ∧ (¬ ((64 : Int) = 0) → (
 ((((64 : Int) < 0) → (
 R (.tuple #[(.int .u64 0), (.iface 164 (.int .i64 4))]) H62)) ∧ (¬ ((64 : Int) < 0) → (
 ((((64 : Int) < 64) → (
 R (.tuple #[(.int .u64 0), (.iface 164 (.int .i64 4))]) H62)) ∧ (¬ ((64 : Int) < 64) → (
 I63 64 H62)))))))))) ∧
 ∀ n64 : Int, ∀ H65 : Heap, I63 n64 H65 → (
 ∃ I66 : Int → Heap → Prop, (
 ((((n61 : Int) = 10) → (
 I66 1844674407370955162 H65)) ∧ (¬ ((n61 : Int) = 10) → (
 ((((n61 : Int) = 16) → (
 I66 1152921504606846976 H65)) ∧ (¬ ((n61 : Int) = 16) → (
 ∀ q67 : Int, q67 = IntKind.wrap .u64 n61 → (
 ((q67 : Int) ≠ 0) ∧
 ∀ q68 : Int, q68 = IntKind.wrap .u64 (Int.tdiv 18446744073709551615 q67) → (
 ∀ q69 : Int, q69 = IntKind.wrap .u64 (q68 + 1) → (
 I66 q69 H65)))))))))) ∧
 ∀ n70 : Int, ∀ H71 : Heap, I66 n70 H71 → (
 ∀ q72 : Int, q72 = IntKind.wrap .u64 n64 → (
 ((0 : Int) ≤ q72) ∧
 ∀ q73 : Int, q73 = IntKind.wrap .u64 (1 * 2 ^ (min (Int.toNat q72) (IntKind.bits .u64))) → (
 ∀ q74 : Int, q74 = IntKind.wrap .u64 (q73 - 1) → (
 ∀ c75 b76 : Nat, ∀ H77 : Heap, NewB H71 b76 s60 c75 5 H77 → (
 ∃ I78 : Bool → Int → Int → Heap → Prop, ∃ μ79 : Bool → Int → Int → Heap → Nat, (I78 false 0 0 H77) ∧
 ∀ t80 : Bool, ∀ n81 : Int, ∀ n82 : Int, ∀ H83 : Heap, I78 t80 n81 n82 H83 → (
 ((((n82 : Int) < ((ByteArray.size s60) : Int)) → (
 (0 : Int) ≤ n82 ∧ (n82 : Int) < ((ByteArray.size s60) : Int) ∧ ∃ b84 o85 : Nat, (some (⟨b76, 0, none⟩ : Addr)) = some (⟨b84, o85, none⟩ : Addr) ∧ (
 ∃ n86 : Int, hcell H83 b84 (o85 + (Int.toNat n82)) = some (.int .u8 n86) ∧ (
 ∃ I87 : Int → Bool → Heap → Prop, (
 ((((n86 : Int) = 95) → (
 ((((16 : Int) = 0) → (
 (In64 (n82 + 1)) ∧
 (I78 true n81 (n82 + 1) H83) ∧ μ79 true n81 (n82 + 1) H83 < μ79 t80 n81 n82 H83)) ∧ (¬ ((16 : Int) = 0) → (
 ((((48 : Int) ≤ n86) → (
 ((((n86 : Int) ≤ 57) → (
 ∀ q88 : Int, q88 = IntKind.wrap .u8 (n86 - 48) → (
 I87 q88 t80 H83))) ∧ (¬ ((n86 : Int) ≤ 57) → (
 Does Tryz.prog 131 [(.int .u8 n86)] H83 fun v89 H90 => ∃ n91 : Int, v89 = (.int .u8 n91) ∧ (
 ((((97 : Int) ≤ n91) → (
 Does Tryz.prog 131 [(.int .u8 n86)] H90 fun v92 H93 => ∃ n94 : Int, v92 = (.int .u8 n94) ∧ (
 ((((n94 : Int) ≤ 122) → (
 Does Tryz.prog 131 [(.int .u8 n86)] H93 fun v95 H96 => ∃ n97 : Int, v95 = (.int .u8 n97) ∧ (
 ∀ q98 : Int, q98 = IntKind.wrap .u8 (n97 - 97) → (
 ∀ q99 : Int, q99 = IntKind.wrap .u8 (q98 + 10) → (
 I87 q99 t80 H96))))) ∧ (¬ ((n94 : Int) ≤ 122) → (
 R (.tuple #[(.int .u64 0), (.iface 164 (.int .i64 2))]) H93)))))) ∧ (¬ ((97 : Int) ≤ n91) → (
 R (.tuple #[(.int .u64 0), (.iface 164 (.int .i64 2))]) H90))))))))) ∧ (¬ ((48 : Int) ≤ n86) → (
 Does Tryz.prog 131 [(.int .u8 n86)] H83 fun v100 H101 => ∃ n102 : Int, v100 = (.int .u8 n102) ∧ (
 ((((97 : Int) ≤ n102) → (
 Does Tryz.prog 131 [(.int .u8 n86)] H101 fun v103 H104 => ∃ n105 : Int, v103 = (.int .u8 n105) ∧ (
 ((((n105 : Int) ≤ 122) → (
 Does Tryz.prog 131 [(.int .u8 n86)] H104 fun v106 H107 => ∃ n108 : Int, v106 = (.int .u8 n108) ∧ (
 ∀ q109 : Int, q109 = IntKind.wrap .u8 (n108 - 97) → (
 ∀ q110 : Int, q110 = IntKind.wrap .u8 (q109 + 10) → (
 I87 q110 t80 H107))))) ∧ (¬ ((n105 : Int) ≤ 122) → (
 R (.tuple #[(.int .u64 0), (.iface 164 (.int .i64 2))]) H104)))))) ∧ (¬ ((97 : Int) ≤ n102) → (
 R (.tuple #[(.int .u64 0), (.iface 164 (.int .i64 2))]) H101)))))))))))) ∧ (¬ ((n86 : Int) = 95) → (
 ((((48 : Int) ≤ n86) → (
 ((((n86 : Int) ≤ 57) → (
 ∀ q111 : Int, q111 = IntKind.wrap .u8 (n86 - 48) → (
 I87 q111 t80 H83))) ∧ (¬ ((n86 : Int) ≤ 57) → (
 Does Tryz.prog 131 [(.int .u8 n86)] H83 fun v112 H113 => ∃ n114 : Int, v112 = (.int .u8 n114) ∧ (
 ((((97 : Int) ≤ n114) → (
 Does Tryz.prog 131 [(.int .u8 n86)] H113 fun v115 H116 => ∃ n117 : Int, v115 = (.int .u8 n117) ∧ (
 ((((n117 : Int) ≤ 122) → (
 Does Tryz.prog 131 [(.int .u8 n86)] H116 fun v118 H119 => ∃ n120 : Int, v118 = (.int .u8 n120) ∧ (
 ∀ q121 : Int, q121 = IntKind.wrap .u8 (n120 - 97) → (
 ∀ q122 : Int, q122 = IntKind.wrap .u8 (q121 + 10) → (
 I87 q122 t80 H119))))) ∧ (¬ ((n117 : Int) ≤ 122) → (
 R (.tuple #[(.int .u64 0), (.iface 164 (.int .i64 2))]) H116)))))) ∧ (¬ ((97 : Int) ≤ n114) → (
 R (.tuple #[(.int .u64 0), (.iface 164 (.int .i64 2))]) H113))))))))) ∧ (¬ ((48 : Int) ≤ n86) → (
 Does Tryz.prog 131 [(.int .u8 n86)] H83 fun v123 H124 => ∃ n125 : Int, v123 = (.int .u8 n125) ∧ (
 ((((97 : Int) ≤ n125) → (
 Does Tryz.prog 131 [(.int .u8 n86)] H124 fun v126 H127 => ∃ n128 : Int, v126 = (.int .u8 n128) ∧ (
 ((((n128 : Int) ≤ 122) → (
 Does Tryz.prog 131 [(.int .u8 n86)] H127 fun v129 H130 => ∃ n131 : Int, v129 = (.int .u8 n131) ∧ (
 ∀ q132 : Int, q132 = IntKind.wrap .u8 (n131 - 97) → (
 ∀ q133 : Int, q133 = IntKind.wrap .u8 (q132 + 10) → (
 I87 q133 t80 H130))))) ∧ (¬ ((n128 : Int) ≤ 122) → (
 R (.tuple #[(.int .u64 0), (.iface 164 (.int .i64 2))]) H127)))))) ∧ (¬ ((97 : Int) ≤ n125) → (
 R (.tuple #[(.int .u64 0), (.iface 164 (.int .i64 2))]) H124))))))))))) ∧
 ∀ n134 : Int, ∀ t135 : Bool, ∀ H136 : Heap, I87 n134 t135 H136 → (
 ∀ q137 : Int, q137 = IntKind.wrap .u8 n61 → (
 ((((q137 : Int) ≤ n134) → (
 R (.tuple #[(.int .u64 0), (.iface 164 (.int .i64 2))]) H136)) ∧ (¬ ((q137 : Int) ≤ n134) → (
 ((((n70 : Int) ≤ n81) → (
 R (.tuple #[(.int .u64 q74), (.iface 164 (.int .i64 1))]) H136)) ∧ (¬ ((n70 : Int) ≤ n81) → (
 ∀ q138 : Int, q138 = IntKind.wrap .u64 n61 → (
 ∀ q139 : Int, q139 = IntKind.wrap .u64 (n81 * q138) → (
 ∀ q140 : Int, q140 = IntKind.wrap .u64 n134 → (
 ∀ q141 : Int, q141 = IntKind.wrap .u64 (q139 + q140) → (
 ((((q141 : Int) < q139) → (
 R (.tuple #[(.int .u64 q74), (.iface 164 (.int .i64 1))]) H136)) ∧ (¬ ((q141 : Int) < q139) → (
 ((((q74 : Int) < q141) → (
 R (.tuple #[(.int .u64 q74), (.iface 164 (.int .i64 1))]) H136)) ∧ (¬ ((q74 : Int) < q141) → (
 (In64 (n82 + 1)) ∧
 (I78 t135 q141 (n82 + 1) H136) ∧ μ79 t135 q141 (n82 + 1) H136 < μ79 t80 n81 n82 H83)))))))))))))))))))))) ∧ (¬ ((n82 : Int) < ((ByteArray.size s60) : Int)) → (
 ((t80 = true → (
 Does Tryz.prog 132 [(.string x0)] H83 fun v142 H143 => ∃ t144 : Bool, v142 = (.bool t144) ∧ (
 (((t144 = false) → (
 R (.tuple #[(.int .u64 0), (.iface 164 (.int .i64 2))]) H143)) ∧ (¬ (t144 = false) → (
 R (.tuple #[(.int .u64 n81), .nilIface]) H143)))))) ∧ (t80 = false → (
 R (.tuple #[(.int .u64 n81), .nilIface]) H83)))))))))))))))))) := by kernel_rfl


/-- internal/strconv.lower -/
theorem LowV (x0 : Int) (H : Heap) (R : Value → Heap → Prop) : Walk Tryz.prog 131 [] [(.int .u8 x0)] H R = (
 ∀ q1 : Int, q1 = bits .or .u8 x0 32 → (
 R (.int .u8 q1) H)) := by kernel_rfl


/-- strconv.ParseUint -/
theorem PuaV (x0 : ByteArray) (H : Heap) (R : Value → Heap → Prop) : Walk Tryz.prog 100 [] [(.string x0), (.int .i64 16), (.int .i64 64)] H R = (
 Does Tryz.prog 118 [(.string x0), (.int .i64 16), (.int .i64 64)] H fun v1 H2 => ∃ n3 : Int, ∃ v4 : Value, v1 = (.tuple #[(.int .u64 n3), v4]) ∧ (
 (v4 = Value.nilIface ∨ ∃ t u, v4 = Value.iface t u) ∧ (
 (((¬ (v4 = Value.nilIface)) → (
 Does Tryz.prog 116 [(.string (ByteArray.mk #[80, 97, 114, 115, 101, 85, 105, 110, 116])), (.string x0), (.int .i64 16), (.int .i64 64), v4] H2 fun v5 H6 => ∃ v7 : Value, v5 = v7 ∧ (
 R (.tuple #[(.int .u64 n3), v7]) H6))) ∧ (¬ (¬ (v4 = Value.nilIface)) → (
 R (.tuple #[(.int .u64 n3), .nilIface]) H2)))))) := by kernel_rfl


/-- pentimento/num.Parse -/
theorem ParseV (x0 : ByteArray) (H : Heap) (R : Value → Heap → Prop) : Walk Tryz.prog 75 [] [(.string x0)] H R = (
 Does Tryz.prog 100 [(.string x0), (.int .i64 16), (.int .i64 64)] H fun v1 H2 => ∃ n3 : Int, ∃ v4 : Value, v1 = (.tuple #[(.int .u64 n3), v4]) ∧ (
 (v4 = Value.nilIface ∨ ∃ t u, v4 = Value.iface t u) ∧ (
 (((¬ (v4 = Value.nilIface)) → (
 R (.tuple #[(.float .f64 0), (.bool false)]) H2)) ∧ (¬ (¬ (v4 = Value.nilIface)) → (
 Does Tryz.prog 37 [(.float .f64 (Int.toNat n3))] H2 fun v5 H6 => ∃ s7 : ByteArray, v5 = (.string s7) ∧ (
 ((((s7 : ByteArray) ≠ x0) → (
 R (.tuple #[(.float .f64 0), (.bool false)]) H6)) ∧ (¬ ((s7 : ByteArray) ≠ x0) → (
 R (.tuple #[(.float .f64 (Int.toNat n3)), (.bool true)]) H6)))))))))) := by kernel_rfl


/-- pentimento/pentimentoref1.Text -/
theorem RTextV (x0 : Nat) (H : Heap) (R : Value → Heap → Prop) : Walk Tryz.prog 41 [] [(.float .f64 x0)] H R = (
 Does Tryz.prog 64 [(.float .f64 x0)] H fun v1 H2 => ∃ n3 : Int, v1 = (.int .u64 n3) ∧ (
 ∃ I4 : ByteArray → Int → Heap → Prop, ∃ μ5 : ByteArray → Int → Heap → Nat, (I4 (ByteArray.mk #[]) 60 H2) ∧
 ∀ s6 : ByteArray, ∀ n7 : Int, ∀ H8 : Heap, I4 s6 n7 H8 → (
 ((((0 : Int) ≤ n7) → (
 ∀ q9 : Int, q9 = IntKind.wrap .u64 n7 → (
 ((0 : Int) ≤ q9) ∧
 ∀ q10 : Int, q10 = Int.fdiv n3 (2 ^ (min (Int.toNat q9) (IntKind.bits .u64))) → (
 ∀ q11 : Int, q11 = bits .and .u64 q10 15 → (
 ∀ q12 : Int, q12 = IntKind.wrap .i64 q11 → (
 (In64 (q12 + 1)) ∧
 (0 : Int) ≤ q12 ∧ (q12 : Int) ≤ (q12 + 1) ∧ ((q12 + 1) : Int) ≤ ((ByteArray.size (ByteArray.mk #[48, 49, 50, 51, 52, 53, 54, 55, 56, 57, 97, 98, 99, 100, 101, 102])) : Int) ∧ (
 (In64 (((ByteArray.size s6) + (ByteArray.size (ByteArray.extract (ByteArray.mk #[48, 49, 50, 51, 52, 53, 54, 55, 56, 57, 97, 98, 99, 100, 101, 102]) (Int.toNat q12) (Int.toNat (q12 + 1)))) : Nat) : Int)) ∧
 (In64 (n7 - 4)) ∧
 (I4 (s6 ++ (ByteArray.extract (ByteArray.mk #[48, 49, 50, 51, 52, 53, 54, 55, 56, 57, 97, 98, 99, 100, 101, 102]) (Int.toNat q12) (Int.toNat (q12 + 1)))) (n7 - 4) H8) ∧ μ5 (s6 ++ (ByteArray.extract (ByteArray.mk #[48, 49, 50, 51, 52, 53, 54, 55, 56, 57, 97, 98, 99, 100, 101, 102]) (Int.toNat q12) (Int.toNat (q12 + 1)))) (n7 - 4) H8 < μ5 s6 n7 H8))))))) ∧ (¬ ((0 : Int) ≤ n7) → (
 R (.string s6) H8)))))) := by kernel_rfl


/-- pentimento/pentimentoref1.Parse -/
theorem RParseV (x0 : ByteArray) (H : Heap) (R : Value → Heap → Prop) : Walk Tryz.prog 76 [(13, [(4, (.int .u64 0))])] [(.string x0)] H R = (
 (((((ByteArray.size x0 : Int) : Int) ≠ 16) → (
 R (.tuple #[(.float .f64 0), (.bool false)]) H)) ∧ (¬ (((ByteArray.size x0 : Int) : Int) ≠ 16) → (
 ∃ I1 : Int → Heap → Prop, (
 ∃ I2 : Int → Int → Heap → Prop, ∃ μ3 : Int → Int → Heap → Nat, (I2 0 0 H) ∧
 ∀ n4 : Int, ∀ n5 : Int, ∀ H6 : Heap, I2 n4 n5 H6 → (
 ((((n5 : Int) < 16) → (
 (0 : Int) ≤ n5 ∧ (n5 : Int) < (ByteArray.size x0 : Int) ∧ ∀ q7 : Int, q7 = (((ByteArray.data x0).toList.getD (Int.toNat n5) 0).toNat : Int) → (
 ((((48 : Int) ≤ q7) → (
 ((((q7 : Int) ≤ 57) → (
 ((0 : Int) ≤ 4) ∧
 ∀ q8 : Int, q8 = IntKind.wrap .u64 (n4 * 2 ^ (min (Int.toNat 4) (IntKind.bits .u64))) → (
 ∀ q9 : Int, q9 = IntKind.wrap .u8 (q7 - 48) → (
 ∀ q10 : Int, q10 = IntKind.wrap .u64 q9 → (
 ∀ q11 : Int, q11 = IntKind.wrap .u64 (q8 + q10) → (
 (In64 (n5 + 1)) ∧
 (I2 q11 (n5 + 1) H6) ∧ μ3 q11 (n5 + 1) H6 < μ3 n4 n5 H6)))))) ∧ (¬ ((q7 : Int) ≤ 57) → (
 ((((97 : Int) ≤ q7) → (
 ((((q7 : Int) ≤ 102) → (
 ((0 : Int) ≤ 4) ∧
 ∀ q12 : Int, q12 = IntKind.wrap .u64 (n4 * 2 ^ (min (Int.toNat 4) (IntKind.bits .u64))) → (
 ∀ q13 : Int, q13 = IntKind.wrap .u8 (q7 - 97) → (
 ∀ q14 : Int, q14 = IntKind.wrap .u64 q13 → (
 ∀ q15 : Int, q15 = IntKind.wrap .u64 (q12 + q14) → (
 ∀ q16 : Int, q16 = IntKind.wrap .u64 (q15 + 10) → (
 (In64 (n5 + 1)) ∧
 (I2 q16 (n5 + 1) H6) ∧ μ3 q16 (n5 + 1) H6 < μ3 n4 n5 H6))))))) ∧ (¬ ((q7 : Int) ≤ 102) → (
 R (.tuple #[(.float .f64 0), (.bool false)]) H6))))) ∧ (¬ ((97 : Int) ≤ q7) → (
 R (.tuple #[(.float .f64 0), (.bool false)]) H6)))))))) ∧ (¬ ((48 : Int) ≤ q7) → (
 ((((97 : Int) ≤ q7) → (
 ((((q7 : Int) ≤ 102) → (
 ((0 : Int) ≤ 4) ∧
 ∀ q17 : Int, q17 = IntKind.wrap .u64 (n4 * 2 ^ (min (Int.toNat 4) (IntKind.bits .u64))) → (
 ∀ q18 : Int, q18 = IntKind.wrap .u8 (q7 - 97) → (
 ∀ q19 : Int, q19 = IntKind.wrap .u64 q18 → (
 ∀ q20 : Int, q20 = IntKind.wrap .u64 (q17 + q19) → (
 ∀ q21 : Int, q21 = IntKind.wrap .u64 (q20 + 10) → (
 (In64 (n5 + 1)) ∧
 (I2 q21 (n5 + 1) H6) ∧ μ3 q21 (n5 + 1) H6 < μ3 n4 n5 H6))))))) ∧ (¬ ((q7 : Int) ≤ 102) → (
 R (.tuple #[(.float .f64 0), (.bool false)]) H6))))) ∧ (¬ ((97 : Int) ≤ q7) → (
 R (.tuple #[(.float .f64 0), (.bool false)]) H6))))))))) ∧ (¬ ((n5 : Int) < 16) → (
 I1 n4 H6))))) ∧
 ∀ n22 : Int, ∀ H23 : Heap, I1 n22 H23 → (
 Does Tryz.prog 64 [(.float .f64 (Int.toNat n22))] H23 fun v24 H25 => ∃ n26 : Int, v24 = (.int .u64 n26) ∧ (
 ((((n26 : Int) ≠ n22) → (
 R (.tuple #[(.float .f64 0), (.bool false)]) H25)) ∧ (¬ ((n26 : Int) ≠ n22) → (
 R (.tuple #[(.float .f64 (Int.toNat n22)), (.bool true)]) H25))))))))) := by kernel_rfl


/-- strconv.toError -/
theorem ToErrSynV (x0 : ByteArray) (x1 : ByteArray) (H : Heap) (R : Value → Heap → Prop) : Walk Tryz.prog 116 [] [(.string x0), (.string x1), (.int .i64 16), (.int .i64 64), (.iface 164 (.int .i64 2))] H R = (
 ((((2 : Int) = 2) → (
 Does Tryz.prog 127 [(.string x0), (.string x1)] H fun v1 H2 => ∃ p3 : Option Addr, v1 = (.pointer p3) ∧ (
 R (.iface 167 (.pointer p3)) H2))) ∧ (¬ ((2 : Int) = 2) → (
 ((((2 : Int) = 1) → (
 Does Tryz.prog 128 [(.string x0), (.string x1)] H fun v4 H5 => ∃ p6 : Option Addr, v4 = (.pointer p6) ∧ (
 R (.iface 167 (.pointer p6)) H5))) ∧ (¬ ((2 : Int) = 1) → (
 ((((2 : Int) = 3) → (
 Does Tryz.prog 129 [(.string x0), (.string x1), (.int .i64 16)] H fun v7 H8 => ∃ p9 : Option Addr, v7 = (.pointer p9) ∧ (
 R (.iface 167 (.pointer p9)) H8))) ∧ (¬ ((2 : Int) = 3) → (
 ((((2 : Int) = 4) → (
 Does Tryz.prog 130 [(.string x0), (.string x1), (.int .i64 64)] H fun v10 H11 => ∃ p12 : Option Addr, v10 = (.pointer p12) ∧ (
 R (.iface 167 (.pointer p12)) H11))) ∧ (¬ ((2 : Int) = 4) → (
 R (.iface 164 (.int .i64 2)) H))))))))))))) := by kernel_rfl


/-- strconv.toError -/
theorem ToErrRngV (x0 : ByteArray) (x1 : ByteArray) (H : Heap) (R : Value → Heap → Prop) : Walk Tryz.prog 116 [] [(.string x0), (.string x1), (.int .i64 16), (.int .i64 64), (.iface 164 (.int .i64 1))] H R = (
 ((((1 : Int) = 2) → (
 Does Tryz.prog 127 [(.string x0), (.string x1)] H fun v1 H2 => ∃ p3 : Option Addr, v1 = (.pointer p3) ∧ (
 R (.iface 167 (.pointer p3)) H2))) ∧ (¬ ((1 : Int) = 2) → (
 ((((1 : Int) = 1) → (
 Does Tryz.prog 128 [(.string x0), (.string x1)] H fun v4 H5 => ∃ p6 : Option Addr, v4 = (.pointer p6) ∧ (
 R (.iface 167 (.pointer p6)) H5))) ∧ (¬ ((1 : Int) = 1) → (
 ((((1 : Int) = 3) → (
 Does Tryz.prog 129 [(.string x0), (.string x1), (.int .i64 16)] H fun v7 H8 => ∃ p9 : Option Addr, v7 = (.pointer p9) ∧ (
 R (.iface 167 (.pointer p9)) H8))) ∧ (¬ ((1 : Int) = 3) → (
 ((((1 : Int) = 4) → (
 Does Tryz.prog 130 [(.string x0), (.string x1), (.int .i64 64)] H fun v10 H11 => ∃ p12 : Option Addr, v10 = (.pointer p12) ∧ (
 R (.iface 167 (.pointer p12)) H11))) ∧ (¬ ((1 : Int) = 4) → (
 R (.iface 164 (.int .i64 1)) H))))))))))))) := by kernel_rfl


/-- strconv.syntaxError -/
theorem SynErrV (x0 : ByteArray) (x1 : ByteArray) (H : Heap) (R : Value → Heap → Prop) : Walk Tryz.prog 127 [] [(.string x0), (.string x1)] H R = (
 ∃ v1 : Value, hcell H 7 0 = some v1 ∧ (
 Does Tryz.prog 135 [(.string x1)] H fun v2 H3 => ∃ s4 : ByteArray, v2 = (.string s4) ∧ (
 isL H3 7 0 [v1] ∧ (oneV v1 (fun u5 : Value => (
 ∀ b6 : Nat, ∀ H7 : Heap, New H3 b6 [(.string x0), (.string s4), u5] 173 H7 → (
 (R (.pointer (some (⟨b6, 0, none⟩ : Addr))) H7)))))))) := by kernel_rfl


/-- strconv.rangeError -/
theorem RngErrV (x0 : ByteArray) (x1 : ByteArray) (H : Heap) (R : Value → Heap → Prop) : Walk Tryz.prog 128 [] [(.string x0), (.string x1)] H R = (
 ∃ v1 : Value, hcell H 8 0 = some v1 ∧ (
 Does Tryz.prog 135 [(.string x1)] H fun v2 H3 => ∃ s4 : ByteArray, v2 = (.string s4) ∧ (
 isL H3 8 0 [v1] ∧ (oneV v1 (fun u5 : Value => (
 ∀ b6 : Nat, ∀ H7 : Heap, New H3 b6 [(.string x0), (.string s4), u5] 173 H7 → (
 (R (.pointer (some (⟨b6, 0, none⟩ : Addr))) H7)))))))) := by kernel_rfl


/-- internal/stringslite.Clone -/
theorem CloneV (x0 : ByteArray) (H : Heap) (R : Value → Heap → Prop) : Walk Tryz.prog 135 [] [(.string x0)] H R = (
 (((((ByteArray.size x0 : Int) : Int) = 0) → (
 R (.string (ByteArray.mk #[])) H)) ∧ (¬ (((ByteArray.size x0 : Int) : Int) = 0) → (
 (0 : Int) ≤ (ByteArray.size x0 : Int) ∧ ((ByteArray.size x0 : Int) : Int) ≤ (ByteArray.size x0 : Int) ∧ (1 : Int) * (ByteArray.size x0 : Int) ≤ 281474976710656 ∧ ∀ b1 : Nat, ∀ H2 : Heap, New H b1 (List.replicate (Int.toNat (ByteArray.size x0 : Int)) (.int .u8 0)) 5 H2 → (
 roomOf H2 (some (⟨b1, 0, none⟩ : Addr)) 0 (min (ByteArray.size x0) (Int.toNat (ByteArray.size x0 : Int))) ∧ ∀ H3 : Heap, Copied H2 (some (⟨b1, 0, none⟩ : Addr)) (List.map (fun b => Value.int .u8 (UInt8.toNat b)) (Array.toList (ByteArray.data (ByteArray.extract x0 0 (min (ByteArray.size x0) (Int.toNat (ByteArray.size x0 : Int))))))) H3 → (
 (0 : Int) ≤ 0 ∧ (0 : Int) < ((Int.toNat (ByteArray.size x0 : Int)) : Int) ∧ ∃ b4 o5 : Nat, (some (⟨b1, 0, none⟩ : Addr)) = some (⟨b4, o5, none⟩ : Addr) ∧ (
 ∃ l6 : List UInt8, l6 ≠ [] ∧ (o5 + (Int.toNat 0)) = 0 ∧ (((Int.toNat (ByteArray.size x0 : Int)) : Int) : Int) = (List.length l6 : Nat) ∧ In64 ((Int.toNat (ByteArray.size x0 : Int)) : Int) ∧ Bytes H3 b4 5 l6 ∧ ∀ H7 : Heap, Froz H3 b4 H7 → (
 R (.string (ByteArray.mk (List.toArray l6))) H7)))))))) := by kernel_rfl


end Go.Proofs
end

section
open Go Go.Vc
namespace Go.Proofs

theorem Tryz.mixed : Tryz.prog.follows .mixedOrders = true := by kernel_rfl

theorem dec_eq {p : Prop} {i : Decidable p} {b : Bool} (h : p ↔ b = true) : @decide p i = b := by
  cases b
  · simp only [decide_eq_false_iff_not]; intro hp; exact absurd (h.1 hp) (by simp)
  · simpa using h

theorem feq_self {w : Nat} (h : w < 18446744073709551616) : FEq w w ↔ nanW w = false := by
  cases hn : nanW w
  · have := (order_w h h hn hn).2.1
    simp [this]
  · have := (no_order (a := w) (b := w) (.inl hn)).2.1
    simp [this]

theorem isnan_ok {w : Nat} (h : w < 18446744073709551616) (H : Heap) : Does Tryz.prog 81 [.float .f64 w] H fun v H' => v = .bool (nanW w) ∧ H = H' := by
  refine Fn_of_vc Tryz.mixed (vc_isnan _ _ _) ?_
  refine ⟨congrArg _ (dec_eq ?_), rfl⟩
  rw [feq_self h]; simp
theorem nan_ok (H : Heap) : Does Tryz.prog 89 [] H fun v H' => v = .float .f64 9221120237041090561 ∧ H = H' :=
  Fn_of_vc Tryz.mixed (vc_nan _ _) ⟨rfl, rfl⟩
theorem inf_ok (n : Int) (H : Heap) : Does Tryz.prog 88 [.int .i64 n] H fun v H' => v = .float .f64 (if 0 ≤ n then 9218868437227405312 else 18442240474082181120) ∧ H = H' := by
  refine Fn_of_vc Tryz.mixed (vc_inf _ _ _) ?_
  refine ⟨fun h => ⟨?_, rfl⟩, fun h => ⟨?_, rfl⟩⟩
  · rw [if_pos h]; rfl
  · rw [if_neg h]; rfl

theorem copysign_ok (H : Heap) : Does Tryz.prog 87 [.float .f64 0, .float .f64 13830554455654793216] H fun v H' => v = .float .f64 9223372036854775808 ∧ H = H' := by
  refine Fn_of_vc Tryz.mixed (vc_copysign _ _ _ _) ?_
  rintro _ rfl _ rfl _ rfl
  refine ⟨?_, rfl⟩
  have : (bits .or .u64 (bits .andNot .u64 ((0 : Nat) : Int) 9223372036854775808) (bits .and .u64 ((13830554455654793216 : Nat) : Int) 9223372036854775808)) = 9223372036854775808 := by decide +kernel
  rw [this]; rfl

theorem pick_ok (n m : Int) (H : Heap) (hm : 0 < m) (hm' : m ≤ 1000000000000) : Does Tryz.prog 8 [.int .i64 n, .int .i64 m] H fun v H' => v = .int .i64 (n % m) ∧ H = H' := by
  refine Fn_of_vc Tryz.mixed (vc_pick _ _ _ _) ?_
  refine ⟨by omega, ?_⟩
  rintro q rfl
  have h1 := Int.tmod_lt_of_pos n hm
  have h2 := Int.lt_tmod_of_pos n hm
  have h3 : n.tmod m = if 0 ≤ n ∨ m ∣ n then n % m else n % m - m := by
    rw [Int.tmod_eq_emod]
    split <;> simp <;> omega
  have h4 := Int.emod_nonneg n (show m ≠ 0 by omega)
  have h5 := Int.emod_lt_of_pos n hm
  refine ⟨fun h => ⟨⟨by omega, by omega⟩, ?_, rfl⟩, fun h => ⟨?_, rfl⟩⟩
  · rw [h3] at h ⊢
    split at h <;> (simp_all; try omega)
  · rw [h3] at h ⊢
    split at h <;> (simp_all; try omega)

/-- A time is a number. -/
theorem time_ok (n : Int) {x : Nat} (hx : x < 18446744073709551616) (H : Heap) : Does Tryz.prog 66 [.int .i64 n, .float .f64 x] H fun v H' => ∃ r : Nat, v = .float .f64 r ∧ r < 18446744073709551616 ∧ Ext [] H H' := by
  refine Fn_of_vc Tryz.mixed (vc_time _ _ _ _) ?_
  refine (copysign_ok H).mono ?_
  rintro _ _ ⟨rfl, rfl⟩
  refine ⟨_, rfl, (inf_ok _ _).mono ?_⟩
  rintro _ _ ⟨rfl, rfl⟩
  refine ⟨_, rfl, (inf_ok _ _).mono ?_⟩
  rintro _ _ ⟨rfl, rfl⟩
  refine ⟨_, rfl, (nan_ok _).mono ?_⟩
  rintro _ _ ⟨rfl, rfl⟩
  refine ⟨_, rfl, fun b13 H14 hn => ⟨hn.blk.cells 12 0 (by simp), fun H15 hp => (pick_ok n 15 H15 (by decide) (by decide)).mono ?_⟩⟩
  rintro _ _ ⟨rfl, rfl⟩
  have hb := hp.blk hn.blk (by simp)
  have hx15 : Ext [] H H15 := hn.ext.trans' hp.ext (by intro i hi; simp only [List.mem_singleton] at hi; have := hn.eq; omega)
  have p0 := Int.emod_nonneg n (show (15 : Int) ≠ 0 by decide)
  refine ⟨_, rfl, fun h1 => ⟨p0, h1, ?_⟩, fun h1 => ⟨_, rfl, hx, hx15⟩⟩
  generalize n % 15 = k at *
  obtain ⟨j, rfl⟩ : ∃ j : Nat, k = j := ⟨k.toNat, by omega⟩
  rw [Int.toNat_natCast]
  simp only [hb.cell, Nat.zero_add]
  match j, h1 with
  | 0, _ => exact ⟨_, rfl, _, rfl, by decide, hx15⟩
  | 1, _ => exact ⟨_, rfl, _, rfl, by decide, hx15⟩
  | 2, _ => exact ⟨_, rfl, _, rfl, by decide, hx15⟩
  | 3, _ => exact ⟨_, rfl, _, rfl, by decide, hx15⟩
  | 4, _ => exact ⟨_, rfl, _, rfl, by decide, hx15⟩
  | 5, _ => exact ⟨_, rfl, _, rfl, by decide, hx15⟩
  | 6, _ => exact ⟨_, rfl, _, rfl, by decide, hx15⟩
  | 7, _ => exact ⟨_, rfl, _, rfl, by decide, hx15⟩
  | 8, _ => exact ⟨_, rfl, _, rfl, by decide, hx15⟩
  | 9, _ => exact ⟨_, rfl, _, rfl, by decide, hx15⟩
  | 10, _ => exact ⟨_, rfl, _, rfl, by decide, hx15⟩
  | 11, _ => exact ⟨_, rfl, _, rfl, by decide, hx15⟩
  | j + 12, h1 => omega

/-- NaNs as one. -/
def plainW (w : Nat) : Nat := if nanW w then 9221120237041090561 else w
/-- Where a number stands: NaN above all, -0 below +0. -/
def rk (w : Nat) : Int := if 9223372036854775808 ≤ plainW w then -((plainW w : Int) - 9223372036854775808) - 1 else plainW w
def sgn (a b : Int) : Int := if a < b then -1 else if b < a then 1 else 0
def zeroW (w : Nat) : Int := if w = 9223372036854775808 then -1 else 0

end Go.Proofs
end

section
open Go Go.Vc
namespace Go.Proofs

theorem plain_lt {w : Nat} (h : w < 18446744073709551616) : plainW w < 18446744073709551616 := by
  unfold plainW; split <;> omega

theorem sgn_lt {a b : Int} (h : a < b) : sgn a b = -1 := by unfold sgn; rw [if_pos h]
theorem sgn_gt {a b : Int} (h : b < a) : sgn a b = 1 := by unfold sgn; rw [if_neg (by omega), if_pos h]
theorem sgn_eq {a b : Int} (h : a = b) : sgn a b = 0 := by unfold sgn; rw [if_neg (by omega), if_neg (by omega)]

theorem plain_ok {w : Nat} (h : w < 18446744073709551616) (H : Heap) : Does Tryz.prog 61 [.float .f64 w] H fun v H' => v = .float .f64 (plainW w) ∧ H = H' := by
  refine Fn_of_vc Tryz.mixed (vc_plain _ _ _) ?_
  refine (isnan_ok h H).mono ?_
  rintro _ _ ⟨rfl, rfl⟩
  refine ⟨_, rfl, fun hn => ⟨?_, rfl⟩, fun hn => ⟨?_, rfl⟩⟩
  · unfold plainW; rw [if_pos hn]; rfl
  · unfold plainW; rw [hn]; rfl

def laterW (a b : Nat) : Nat := if rk a < rk b then plainW b else plainW a

theorem bits_ok {w : Nat} (h : w < 18446744073709551616) (H : Heap) : Does Tryz.prog 64 [.float .f64 w] H fun v H' => v = .int .u64 (plainW w) ∧ H = H' := by
  refine Fn_of_vc Tryz.mixed (vc_bits _ _ _) ?_
  have hf := feq_self h
  refine ⟨fun h1 => ⟨?_, rfl⟩, fun h1 => ⟨?_, rfl⟩⟩
  · have hn : nanW w = true := by cases hn : nanW w <;> simp_all
    unfold plainW; rw [if_pos hn]; rfl
  · have hn : nanW w = false := by cases hn : nanW w <;> simp_all
    unfold plainW; rw [hn]; rfl

theorem wrap_u64 (n : Int) : IntKind.wrap .u64 n = n % 18446744073709551616 := by
  simp only [IntKind.wrap, IntKind.bits, IntKind.signed]
  simp

theorem of_nat (n : Nat) (h : n < 18446744073709551616) : (BitVec.ofInt 64 (n : Int)).toNat = n := by
  rw [BitVec.toNat_ofInt]
  show ((n : Int) % 18446744073709551616).toNat = n
  omega

end Go.Proofs
end

section
open Go Go.Vc
namespace Go.Proofs

/-! ### Sixteen digits -/
def digN (n : Nat) : Nat := if n < 10 then 48 + n else 87 + n
def hexd (x m : Nat) : UInt8 := UInt8.ofNat (digN (x / 16 ^ m % 16))
/-- The m lowest digits, the highest first. -/
def hexL (x : Nat) : Nat → List UInt8
  | 0 => []
  | m + 1 => hexd x m :: hexL x m
def hexS (x : Nat) : ByteArray := ⟨(hexL x 16).toArray⟩

theorem hexL_length (x : Nat) : ∀ m, (hexL x m).length = m
  | 0 => rfl
  | m + 1 => by simp [hexL, hexL_length x m]

theorem digN_lt {n : Nat} (h : n < 16) : digN n < 256 := by unfold digN; split <;> omega
theorem digN_inj {a b : Nat} (ha : a < 16) (hb : b < 16) (h : digN a = digN b) : a = b := by
  unfold digN at h; split at h <;> split at h <;> omega

theorem hexd_nat (x m : Nat) : (hexd x m).toNat = digN (x / 16 ^ m % 16) := by
  unfold hexd
  have : x / 16 ^ m % 16 < 16 := Nat.mod_lt _ (by decide)
  have := digN_lt this
  simp
  omega

theorem hexL_inj {x y : Nat} : ∀ m, hexL x m = hexL y m → x % 16 ^ m = y % 16 ^ m
  | 0, _ => by simp [Nat.mod_one]
  | m + 1, h => by
    simp only [hexL, List.cons.injEq] at h
    have h1 := hexL_inj m h.2
    have h2 := congrArg UInt8.toNat h.1
    rw [hexd_nat, hexd_nat] at h2
    have h3 := digN_inj (Nat.mod_lt _ (by decide)) (Nat.mod_lt _ (by decide)) h2
    rw [Nat.pow_succ, Nat.mod_mul, Nat.mod_mul, h1, h3]

theorem hexS_inj {x y : Nat} (hx : x < 18446744073709551616) (hy : y < 18446744073709551616) : hexS x = hexS y ↔ x = y := by
  constructor
  · intro h
    have h1 : hexL x 16 = hexL y 16 := by
      have := congrArg (fun b : ByteArray => b.data.toList) h
      simpa [hexS] using this
    have h2 := hexL_inj 16 h1
    rw [show (16 : Nat) ^ 16 = 18446744073709551616 by decide, Nat.mod_eq_of_lt hx, Nat.mod_eq_of_lt hy] at h2
    exact h2
  · rintro rfl; rfl

theorem hexS_size (x : Nat) : (hexS x).size = 16 := by
  show (hexL x 16).toArray.size = 16
  simp [hexL_length]

theorem dig_tab : ∀ n, n < 16 → ((ByteArray.mk #[48, 49, 50, 51, 52, 53, 54, 55, 56, 57, 97, 98, 99, 100, 101, 102, 103, 104, 105, 106, 107, 108, 109, 110, 111, 112, 113, 114, 115, 116, 117, 118, 119, 120, 121, 122]).data.toList.getD n 0).toNat = digN n := by decide

theorem and15 (n : Nat) (h : n < 18446744073709551616) : bits .and .u64 n 15 = ((n % 16 : Nat) : Int) := by
  unfold bits
  show IntKind.wrap .u64 ((BitVec.ofInt 64 (n : Int) &&& BitVec.ofInt 64 ((15 : Nat) : Int)).toNat : Int) = _
  rw [BitVec.toNat_and, of_nat n h, of_nat _ (by decide), wrap_u64]
  have := Nat.and_two_pow_sub_one_eq_mod n 4
  rw [show (15 : Nat) = 2 ^ 4 - 1 from rfl, this]
  omega

theorem shr4 (n : Nat) : Int.fdiv (n : Int) (2 ^ (min (Int.toNat 4) (IntKind.bits .u64))) = ((n / 16 : Nat) : Int) := by
  rw [Int.fdiv_eq_ediv_of_nonneg]
  · show (n : Int) / 16 = _
    omega
  · decide

/-- The table of the shifts: that 16 is 2 to the 4. -/
def T64 (H : Heap) : Prop := hcell H 10 15 = some (.int .u8 4)
theorem T64.ext {H H' : Heap} (h : T64 H) (he : Ext [] H H') : T64 H' := hcell_ext h he (by simp)

theorem tz_ok {H : Heap} (h : T64 H) : Does Tryz.prog 123 [.int .u64 16] H fun v H' => v = .int .i64 4 ∧ H = H' := by
  refine Fn_of_vc Tryz.mixed (TzV _ _ _) ?_
  refine Does.mono (R := fun v H' => v = .int .i64 4 ∧ H = H') ?_ ?_
  · refine Fn_of_vc Tryz.mixed (Tz64V _ _ _) ?_
    refine ⟨fun e => absurd e (by decide), fun _ => ?_⟩
    rintro q1 rfl q2 rfl q3 rfl
    refine ⟨by decide, ?_⟩
    rintro q4 rfl
    have e : Int.fdiv (IntKind.wrap .u64 (bits .and .u64 16 (IntKind.wrap .u64 (0 - 16)) * 285870213051353865)) (2 ^ (min (Int.toNat 58) (IntKind.bits .u64))) = 15 := by decide +kernel
    rw [e]
    exact ⟨by decide, by decide, 4, h, ⟨by decide, by decide⟩, rfl, rfl⟩
  · rintro _ _ ⟨rfl, rfl⟩
    exact ⟨_, rfl, rfl, rfl⟩

theorem pow2_ok (H : Heap) : Does Tryz.prog 122 [.int .i64 16] H fun v H' => v = .bool true ∧ H = H' := by
  refine Fn_of_vc Tryz.mixed (Pow2V _ _ _) ?_
  refine ⟨⟨by decide, by decide⟩, ?_⟩
  rintro q rfl
  exact ⟨yes (by decide +kernel), rfl⟩

theorem set_last {pre t : List Value} {n : Nat} (v : Value) (h : pre.length = n + 1) : ∃ p, p.length = n ∧ splice (pre ++ t) n [v] = p ++ v :: t := by
  refine ⟨pre.take n, by simp; omega, ?_⟩
  rw [splice_one _ _ _ (by simp; omega), List.set_append_left _ _ (by omega), List.set_eq_take_append_cons_drop, if_pos (by omega), List.drop_of_length_le (by omega)]
  simp

theorem fb_ok {x : Nat} (hx : x < 18446744073709551616) {H : Heap} (h : T64 H) :
    Does Tryz.prog 107 [.slice none 0 0, .int .u64 x, .int .i64 16, .bool false, .bool false] H fun v H' => ∃ m s, v = .tuple #[.slice none 0 0, .string s] ∧ 1 ≤ m ∧ m ≤ 16 ∧ s = ⟨(hexL x m).toArray⟩ ∧ x < 16 ^ m ∧ Ext [] H H' := by
  refine Fn_of_vc Tryz.mixed (FbV _ _ _) ?_
  refine ⟨fun e => absurd e (by decide), fun _ => ⟨fun e => absurd e (by decide), fun _ => ⟨fun e => absurd e (by decide), fun _ b1 H2 hn => ?_⟩⟩⟩
  refine ⟨fun u H' => u = x ∧ H' = H2, ⟨fun e => (by cases e), fun _ => ⟨rfl, rfl⟩⟩, ?_⟩
  rintro _ _ ⟨rfl, rfl⟩
  refine ⟨fun i u H' => ∃ (m : Nat) (pre : List Value), i = ((65 - m : Nat) : Int) ∧ 1 ≤ m ∧ m ≤ 16 ∧ x < 16 ^ m ∧ pre.length = 65 - m ∧ Blk H' b1 (pre ++ bytesV (hexL x m)) ∧ Ext [] H H', ?_, ?_⟩
  · refine (pow2_ok _).mono ?_
    rintro _ _ ⟨rfl, rfl⟩
    refine ⟨_, rfl, fun _ => ?_, fun e => (by cases e)⟩
    rintro q11 rfl
    rw [show IntKind.wrap .u64 16 = 16 by decide]
    refine (tz_ok (h.ext hn.ext)).mono ?_
    rintro _ _ ⟨rfl, rfl⟩
    refine ⟨_, rfl, ?_⟩
    rintro q15 rfl q16 rfl q17 rfl q18 rfl
    rw [show IntKind.wrap .u64 4 = 4 by decide, show IntKind.wrap .u64 (16 - 1) = 15 by decide]
    refine ⟨fun i u H' => ∃ (m : Nat) (pre : List Value), m ≤ 15 ∧ i = ((65 - m : Nat) : Int) ∧ u = ((x / 16 ^ m : Nat) : Int) ∧ pre.length = 65 - m ∧ Blk H' b1 (pre ++ bytesV (hexL x m)) ∧ Ext [] H H', fun i _ _ => i.toNat, ?_, ?_⟩
    · obtain ⟨z, hz, hzl⟩ : ∃ z, Blk _ b1 z ∧ z.length = 65 := ⟨_, hn.blk, rfl⟩
      exact ⟨0, z, by decide, rfl, by simp, hzl, by simpa [hexL, bytesV] using hz, hn.ext⟩
    · rintro _ _ H' ⟨m, pre, hm, rfl, rfl, hpl, hb, hxx⟩
      have hu : x / 16 ^ m < 18446744073709551616 := Nat.lt_of_le_of_lt (Nat.div_le_self _ _) hx
      have step : ∀ (d : Int), d = (x / 16 ^ m % 16 : Nat) → ((ByteArray.mk #[48, 49, 50, 51, 52, 53, 54, 55, 56, 57, 97, 98, 99, 100, 101, 102, 103, 104, 105, 106, 107, 108, 109, 110, 111, 112, 113, 114, 115, 116, 117, 118, 119, 120, 121, 122]).data.toList.getD d.toNat 0).toNat = (hexd x m).toNat := by
        rintro d rfl
        rw [Int.toNat_natCast, dig_tab _ (Nat.mod_lt _ (by decide)), hexd_nat]
      have put : ∀ H'', Puts H' b1 (0 + (((65 - m : Nat) : Int) - 1).toNat) [.int .u8 ((hexd x m).toNat : Int)] H'' → ∃ p : List Value, p.length = 65 - (m + 1) ∧ Blk H'' b1 (p ++ bytesV (hexL x (m + 1))) ∧ Ext [] H H'' := by
        intro H'' hp
        rw [show 0 + (((65 - m : Nat) : Int) - 1).toNat = 64 - m by omega] at hp
        obtain ⟨p, hpl', hs⟩ := set_last (t := bytesV (hexL x m)) (.int .u8 ((hexd x m).toNat : Int)) (n := 64 - m) (pre := pre) (by omega)
        have hb' := hp.blk hb (by simp; omega)
        rw [hs] at hb'
        refine ⟨p, by omega, hb', hxx.trans' hp.ext ?_⟩
        intro i hi
        simp only [List.mem_singleton] at hi
        have := hn.eq
        omega
      have hc : Cells H' b1 (0 + (((65 - m : Nat) : Int) - 1).toNat) 1 := hb.cells _ _ (by simp; omega)
      refine ⟨fun h16 => ⟨⟨by omega, by omega⟩, ?_⟩, fun h16 => ⟨⟨by omega, by omega⟩, ?_⟩⟩
      · rintro q24 rfl
        rw [and15 _ hu]
        refine ⟨by omega, by have := Nat.mod_lt (x / 16 ^ m) (show 0 < 16 by decide); show _ < (36 : Int); omega, ?_⟩
        rintro q25 rfl
        rw [step _ rfl]
        refine ⟨by omega, by omega, hc, fun H26 hp => ⟨by decide, ?_⟩⟩
        rintro q27 rfl
        rw [shr4]
        have hm15 : m < 15 := by
          rcases Nat.lt_or_ge m 15 with h | h
          · exact h
          · exfalso
            have e : m = 15 := by omega
            subst e
            rw [show (16 : Nat) ^ 15 = 1152921504606846976 by decide] at h16
            omega
        obtain ⟨p, p1, p2, p3⟩ := put H26 hp
        refine ⟨⟨m + 1, p, by omega, by omega, by rw [Nat.pow_succ, Nat.div_div_eq_div_mul], p1, p2, p3⟩, by show (((65 - m : Nat) : Int) - 1).toNat < ((65 - m : Nat) : Int).toNat; omega⟩
      · have hlt : x / 16 ^ m < 16 := by omega
        have e16 : x / 16 ^ m % 16 = x / 16 ^ m := Nat.mod_eq_of_lt hlt
        refine ⟨by omega, by show _ < (36 : Int); omega, ?_⟩
        rintro q28 rfl
        rw [step _ (by rw [e16])]
        refine ⟨by omega, by omega, hc, fun H29 hp => ?_⟩
        obtain ⟨p, p1, p2, p3⟩ := put H29 hp
        refine ⟨m + 1, p, by omega, by omega, by omega, ?_, p1, p2, p3⟩
        rw [Nat.pow_succ, Nat.mul_comm]
        exact (Nat.div_lt_iff_lt_mul (Nat.pow_pos (by decide))).1 hlt
  · rintro _ n44 H45 ⟨m, pre, rfl, h1, h2, h3, hpl, hb, hxx⟩
    refine ⟨fun i H' => i = ((65 - m : Nat) : Int) ∧ H' = H45, ⟨fun e => (by cases e), fun _ => ⟨rfl, rfl⟩⟩, ?_⟩
    rintro _ _ ⟨rfl, rfl⟩
    refine ⟨fun e => (by cases e), fun _ => ⟨by omega, by omega, ?_⟩⟩
    rintro o rfl
    refine ⟨hexL x m, ⟨by simp [hexL_length]; omega, .inr rfl, fun j u hj => ?_⟩, m, _, rfl, h1, h2, rfl, h3, hxx⟩
    have hj' : (bytesV (hexL x m))[j]? = some u := hj
    have hjl : j < m := by
      have := (List.getElem?_eq_some_iff.1 hj').1
      rwa [bytesV_length, hexL_length] at this
    show hcell _ b1 ((if 65 = Int.toNat ((65 - m : Nat) : Int) then 0 else _) + j) = some u
    rw [hb.cell, if_neg (show ¬ 65 = Int.toNat ((65 - m : Nat) : Int) by omega), show 0 + (((65 - m : Nat) : Int)).toNat * 1 + j = pre.length + j by omega, List.getElem?_append_right (by omega)]
    simpa using hj'
end Go.Proofs
end

section
/-! Chapter 25 in plain words: an event's line. -/
open Go Go.Vc
namespace Go.Proofs

def okB (c : UInt8) : Bool := (97 ≤ c.toNat && c.toNat ≤ 122) || (48 ≤ c.toNat && c.toNat ≤ 57) || c.toNat == 47 || c.toNat == 46 || c.toNat == 45 || c.toNat == 95
def plainT (s : ByteArray) : Bool := s.size != 0 && decide (s.size ≤ 120) && s.data.toList.all okB
def hex2 (c : UInt8) : List UInt8 := [UInt8.ofNat (digN (c.toNat / 16)), UInt8.ofNat (digN (c.toNat % 16))]
def hexOf (l : List UInt8) : List UInt8 := 37 :: l.flatMap hex2
def hexB (l : List UInt8) : ByteArray := ⟨(hexOf l).toArray⟩
def textW (s : ByteArray) : ByteArray := if plainT s = true then s else hexB s.data.toList

/-- A whole number's digits. -/
def decF : Nat → Nat → List UInt8
  | 0, _ => []
  | k + 1, n => if n < 10 then [UInt8.ofNat (48 + n)] else decF k (n / 10) ++ [UInt8.ofNat (48 + n % 10)]
def decL (n : Nat) : List UInt8 := decF (n + 1) n
def intS (n : Int) : ByteArray := if n < 0 then ⟨(45 :: decL n.natAbs).toArray⟩ else ⟨(decL n.natAbs).toArray⟩

structure Cl where
  kind : Int
  path : ByteArray
  to : ByteArray
  mode : Int
  time : Nat
  pos : Int
  n : Int
  data : List UInt8
structure Ev where
  kind : Int
  name : ByteArray
  to : ByteArray
  more : ByteArray
  call : Cl
  n : Int
  mask : List UInt8

abbrev WF := ByteArray × Bool
def numF (n : Int) : WF := (intS n, decide (n < 0 ∨ 999999 < n))
def textF (s : ByteArray) : WF := (textW s, decide (200 < s.size))
def bytesF (l : List UInt8) : WF := (hexB l, decide (3000 < l.length))
def timeF (w : Nat) : WF := (hexS (plainW w), false)

/-- What a letter names. -/
inductive Fld where
  | name | to | more | n | mask | path | cto | mode | time | pos | cn | data
deriving DecidableEq

def fldOf (c : Int) : Option Fld :=
  if c = 115 then some .name else if c = 111 then some .to else if c = 114 then some .more else if c = 110 then some .n else if c = 107 then some .mask
  else if c = 112 then some .path else if c = 113 then some .cto else if c = 109 then some .mode else if c = 116 then some .time else if c = 97 then some .pos
  else if c = 122 then some .cn else if c = 100 then some .data else none

def fldW (e : Ev) : Fld → WF
  | .name => textF e.name
  | .to => textF e.to
  | .more => textF e.more
  | .n => numF e.n
  | .mask => bytesF e.mask
  | .path => textF e.call.path
  | .cto => textF e.call.to
  | .mode => numF e.call.mode
  | .time => timeF e.call.time
  | .pos => numF e.call.pos
  | .cn => numF e.call.n
  | .data => bytesF e.call.data

def strB (s : List Nat) : ByteArray := ⟨(s.map UInt8.ofNat).toArray⟩

/-- The forms of events, and of calls: the word, and what is named. -/
def formK (k : Int) : ByteArray × List Fld :=
  if k = 1 then (⟨#[99, 97, 108, 108]⟩, [.name])
  else if k = 2 then (⟨#[102, 114, 101, 101, 122, 101]⟩, [.name, .to])
  else if k = 3 then (⟨#[102, 111, 114, 107]⟩, [.name, .to])
  else if k = 4 then (⟨#[100, 105, 102, 102]⟩, [.name, .to])
  else if k = 5 then (⟨#[97, 112, 112, 108, 121]⟩, [.name, .to, .more])
  else if k = 6 then (⟨#[109, 101, 114, 103, 101]⟩, [.name, .to, .more])
  else if k = 7 then (⟨#[114, 101, 98, 97, 115, 101]⟩, [.name, .to])
  else if k = 8 then (⟨#[100, 114, 111, 112]⟩, [.name])
  else if k = 9 then (⟨#[115, 121, 110, 99]⟩, [])
  else if k = 10 then (⟨#[102, 117, 115, 101]⟩, [.n])
  else if k = 11 then (⟨#[99, 114, 97, 115, 104]⟩, [.mask])
  else (⟨#[]⟩, [])
def formC (k : Int) : ByteArray × List Fld :=
  if k = 1 then (⟨#[109, 107, 100, 105, 114]⟩, [.path, .mode, .time])
  else if k = 2 then (⟨#[99, 114, 101, 97, 116, 101]⟩, [.path, .mode, .time, .data])
  else if k = 3 then (⟨#[119, 114, 105, 116, 101]⟩, [.path, .pos, .data])
  else if k = 4 then (⟨#[116, 114, 117, 110, 99, 97, 116, 101]⟩, [.path, .cn])
  else if k = 5 then (⟨#[117, 110, 108, 105, 110, 107]⟩, [.path])
  else if k = 6 then (⟨#[114, 109, 100, 105, 114]⟩, [.path])
  else if k = 7 then (⟨#[115, 121, 109, 108, 105, 110, 107]⟩, [.path, .time, .data])
  else if k = 8 then (⟨#[114, 101, 97, 100, 108, 105, 110, 107]⟩, [.path])
  else if k = 9 then (⟨#[114, 101, 110, 97, 109, 101]⟩, [.path, .cto])
  else if k = 10 then (⟨#[99, 104, 109, 111, 100]⟩, [.path, .mode])
  else if k = 11 then (⟨#[117, 116, 105, 109, 101]⟩, [.path, .time])
  else if k = 12 then (⟨#[115, 116, 97, 116]⟩, [.path])
  else if k = 13 then (⟨#[108, 115, 116, 97, 116]⟩, [.path])
  else if k = 14 then (⟨#[114, 101, 97, 100]⟩, [.path, .pos, .cn])
  else if k = 15 then (⟨#[108, 105, 115, 116]⟩, [.path])
  else (⟨#[]⟩, [])

def formF (e : Ev) (f : ByteArray × List Fld) : List WF := (f.1, decide (f.1.size = 0)) :: f.2.map (fldW e)
def lineF (e : Ev) : List WF := formF e (formK e.kind) ++ (if e.kind = 1 then formF e (formC e.call.kind) else [])
def bad (l : List WF) : Bool := l.any (·.2)

/-- Words with a blank between two. -/
def joinL : List (List UInt8) → List UInt8
  | [] => []
  | [w] => w
  | w :: v :: r => w ++ 32 :: joinL (v :: r)
def joinW (l : List ByteArray) : ByteArray := ⟨(joinL (l.map fun w => w.data.toList)).toArray⟩

/-- An event's line. -/
def lineW (e : Ev) : ByteArray := joinW ((lineF e).map (·.1))
def printE (e : Ev) : ByteArray × Bool := if bad (lineF e) = true then (⟨#[]⟩, false) else (lineW e, true)

theorem joinL_snoc (w : List UInt8) : ∀ (l : List (List UInt8)), l ≠ [] → joinL (l ++ [w]) = joinL l ++ 32 :: w
  | [], h => absurd rfl h
  | [a], _ => rfl
  | a :: b :: r, _ => by
    have := joinL_snoc w (b :: r) (by simp)
    simp only [List.cons_append, joinL] at this ⊢
    rw [this]
    simp

end Go.Proofs
end

section
open Go Go.Vc
namespace Go.Proofs

/-- Cut at the blanks. -/
def splitL : List UInt8 → List (List UInt8)
  | [] => [[]]
  | c :: r => if c = 32 then [] :: splitL r else match splitL r with
    | w :: ws => (c :: w) :: ws
    | [] => [[c]]
theorem split_ne (l : List UInt8) : splitL l ≠ [] := by
  cases l with
  | nil => simp [splitL]
  | cons c r =>
    unfold splitL
    split
    · simp
    · split <;> simp
theorem split_app : ∀ (w : List UInt8), 32 ∉ w → ∀ r, splitL (w ++ 32 :: r) = w :: splitL r
  | [], _, r => by simp [splitL]
  | c :: w, h, r => by
    have h1 : ¬ c = 32 := fun e => h (by simp [e])
    have ih := split_app w (fun hm => h (by simp [hm])) r
    simp only [List.cons_append, splitL, if_neg h1, ih]
theorem split_one : ∀ (w : List UInt8), 32 ∉ w → splitL w = [w]
  | [], _ => rfl
  | c :: w, h => by
    have h1 : ¬ c = 32 := fun e => h (by simp [e])
    have ih := split_one w (fun hm => h (by simp [hm]))
    simp only [splitL, if_neg h1, ih]
theorem split_join : ∀ (ws : List (List UInt8)), ws ≠ [] → (∀ w ∈ ws, 32 ∉ w) → splitL (joinL ws) = ws
  | [], h, _ => absurd rfl h
  | [w], _, h => by simp only [joinL]; exact split_one w (h w (by simp))
  | w :: v :: r, _, h => by
    simp only [joinL]
    rw [split_app w (h w (by simp)), split_join (v :: r) (by simp) (fun x hx => h x (by simp [hx]))]

theorem digN_ne (n : Nat) (h : n < 16) : digN n ≠ 32 ∧ digN n < 256 := by unfold digN; split <;> omega
theorem ofNat_ne {n : Nat} (h : n < 256) (h2 : n ≠ 32) : UInt8.ofNat n ≠ 32 := by
  intro e
  have := congrArg UInt8.toNat e
  simp at this
  omega
theorem hex2_ne (c : UInt8) : 32 ∉ hex2 c := by
  have h1 := digN_ne (c.toNat / 16) (by have := c.toNat_lt; omega)
  have h2 := digN_ne (c.toNat % 16) (by omega)
  simp only [hex2, List.mem_cons, List.not_mem_nil, or_false, not_or]
  exact ⟨fun e => ofNat_ne h1.2 h1.1 e.symm, fun e => ofNat_ne h2.2 h2.1 e.symm⟩
theorem hexOf_ne (l : List UInt8) : 32 ∉ hexOf l := by
  simp only [hexOf, List.mem_cons, List.mem_flatMap, not_or, not_exists, not_and]
  exact ⟨by decide, fun c _ => hex2_ne c⟩
theorem decF_ne : ∀ (k n : Nat), 32 ∉ decF k n
  | 0, _ => by simp [decF]
  | k + 1, n => by
    unfold decF
    split
    · simp only [List.mem_singleton]
      exact fun e => ofNat_ne (by omega) (by omega) e.symm
    · simp only [List.mem_append, List.mem_singleton, not_or]
      exact ⟨decF_ne k _, fun e => ofNat_ne (by omega) (by omega) e.symm⟩
theorem intS_ne (n : Int) : 32 ∉ (intS n).data.toList := by
  unfold intS
  split
  · simp only [List.mem_cons, not_or]; exact ⟨by decide, decF_ne _ _⟩
  · exact decF_ne _ _
theorem okB_ne {c : UInt8} (h : okB c = true) : c ≠ 32 := by
  rintro rfl
  exact absurd h (by decide)
theorem textW_ne (s : ByteArray) : 32 ∉ (textW s).data.toList := by
  unfold textW
  split
  · rename_i h
    simp only [plainT, Bool.and_eq_true, List.all_eq_true] at h
    exact fun hm => okB_ne (h.2 _ hm) rfl
  · exact hexOf_ne _
theorem hexL_ne (x : Nat) : ∀ m, 32 ∉ hexL x m
  | 0 => by simp [hexL]
  | m + 1 => by
    have h := digN_ne (x / 16 ^ m % 16) (Nat.mod_lt _ (by decide))
    simp only [hexL, List.mem_cons, not_or]
    exact ⟨fun e => ofNat_ne h.2 h.1 e.symm, hexL_ne x m⟩
theorem fldW_ne (e : Ev) (f : Fld) : 32 ∉ (fldW e f).1.data.toList := by
  cases f <;> simp only [fldW, textF, numF, bytesF, timeF] <;> first | exact textW_ne _ | exact intS_ne _ | exact hexOf_ne _ | exact hexL_ne _ _
theorem fin_int {k : Int} {n : Nat} (h : 1 ≤ k ∧ k ≤ n) : ∃ i : Fin n, k = (i.val : Int) + 1 := ⟨⟨(k - 1).toNat, by omega⟩, by simp; omega⟩
theorem formK_out {k : Int} (h : ¬ (1 ≤ k ∧ k ≤ 11)) : formK k = (⟨#[]⟩, []) := by
  unfold formK
  repeat rw [if_neg (by omega)]
theorem formC_out {k : Int} (h : ¬ (1 ≤ k ∧ k ≤ 15)) : formC k = (⟨#[]⟩, []) := by
  unfold formC
  repeat rw [if_neg (by omega)]
theorem formK_all {p : ByteArray × List Fld → Prop} (h0 : p (⟨#[]⟩, [])) (h : ∀ i : Fin 11, p (formK ((i.val : Int) + 1))) (k : Int) : p (formK k) := by
  by_cases hk : 1 ≤ k ∧ k ≤ 11
  · obtain ⟨i, rfl⟩ := fin_int (n := 11) hk
    exact h i
  · rw [formK_out hk]; exact h0
theorem formC_all {p : ByteArray × List Fld → Prop} (h0 : p (⟨#[]⟩, [])) (h : ∀ i : Fin 15, p (formC ((i.val : Int) + 1))) (k : Int) : p (formC k) := by
  by_cases hk : 1 ≤ k ∧ k ≤ 15
  · obtain ⟨i, rfl⟩ := fin_int (n := 15) hk
    exact h i
  · rw [formC_out hk]; exact h0
theorem formK_ne (k : Int) : 32 ∉ (formK k).1.data.toList := formK_all (p := fun x => 32 ∉ x.1.data.toList) (by decide) (by decide) k
theorem formC_ne (k : Int) : 32 ∉ (formC k).1.data.toList := formC_all (p := fun x => 32 ∉ x.1.data.toList) (by decide) (by decide) k
theorem lineF_ne (e : Ev) : ∀ w ∈ lineF e, 32 ∉ w.1.data.toList := by
  intro w hw
  unfold lineF at hw
  rw [List.mem_append] at hw
  have key : ∀ (g : ByteArray × List Fld), 32 ∉ g.1.data.toList → w ∈ formF e g → 32 ∉ w.1.data.toList := by
    intro g hg hm
    unfold formF at hm
    rcases List.mem_cons.1 hm with rfl | hm
    · exact hg
    · obtain ⟨f, _, rfl⟩ := List.mem_map.1 hm
      exact fldW_ne e f
  rcases hw with hw | hw
  · exact key _ (formK_ne _) hw
  · split at hw
    · exact key _ (formC_ne _) hw
    · simp at hw

/-- The words of a line that is printed. -/
theorem line_words (e : Ev) : splitL (lineW e).data.toList = (lineF e).map fun w => w.1.data.toList := by
  unfold lineW joinW
  show splitL (joinL _) = _
  rw [split_join]
  · simp
  · simp [lineF, formF]
  · intro w hw
    simp only [List.map_map, List.mem_map, Function.comp] at hw
    obtain ⟨x, hx, rfl⟩ := hw
    exact lineF_ne e x hx

/-! ### Setting -/
/-- What is said of a field whose word is w. -/
def Fits (w : ByteArray) (e' : Ev) (f : Fld) : Prop := ∀ e0 : Ev, e0.call.time < 18446744073709551616 → (fldW e0 f).1 = w → (fldW e0 f).2 = false → fldW e' f = fldW e0 f
structure SetR (e : Ev) (f : Fld) (w : ByteArray) (e' : Ev) : Prop where
  others : ∀ g, g ≠ f → fldW e' g = fldW e g
  kind : e'.kind = e.kind
  ckind : e'.call.kind = e.call.kind
  fits : Fits w e' f
def TakeR : Ev → List Fld → List ByteArray → Ev → List ByteArray → Prop
  | e, [], ws, e', r => e' = e ∧ r = ws
  | e, _ :: fs, [], e', r => TakeR e fs [] e' r
  | e, f :: fs, w :: ws, e', r => ∃ e1, SetR e f w e1 ∧ TakeR e1 fs ws e' r

theorem take_kind : ∀ {fs : List Fld} {ws : List ByteArray} {e e' : Ev} {r : List ByteArray}, TakeR e fs ws e' r → e'.kind = e.kind ∧ e'.call.kind = e.call.kind
  | [], ws, e, e', r, h => by cases ws <;> (obtain ⟨rfl, _⟩ := h; exact ⟨rfl, rfl⟩)
  | f :: fs, [], e, e', r, h => take_kind (fs := fs) (ws := []) h
  | f :: fs, w :: ws, e, e', r, h => by
    obtain ⟨e1, h1, h2⟩ := h
    have := take_kind h2
    exact ⟨this.1.trans h1.kind, this.2.trans h1.ckind⟩
theorem take_other : ∀ {fs : List Fld} {ws : List ByteArray} {e e' : Ev} {r : List ByteArray}, TakeR e fs ws e' r → ∀ g, g ∉ fs → fldW e' g = fldW e g
  | [], ws, e, e', r, h, g, hg => by cases ws <;> (obtain ⟨rfl, _⟩ := h; rfl)
  | f :: fs, [], e, e', r, h, g, hg => take_other (fs := fs) (ws := []) h g (fun hm => hg (by simp [hm]))
  | f :: fs, w :: ws, e, e', r, h, g, hg => by
    obtain ⟨e1, h1, h2⟩ := h
    rw [take_other h2 g (fun hm => hg (by simp [hm])), h1.others g (fun e => hg (by simp [e]))]
theorem take_fits {e0 : Ev} (ht0 : e0.call.time < 18446744073709551616) : ∀ {fs : List Fld} {rest : List ByteArray} {e e' : Ev} {r : List ByteArray}, fs.Nodup → (∀ f ∈ fs, (fldW e0 f).2 = false) → TakeR e fs (fs.map (fun f => (fldW e0 f).1) ++ rest) e' r → (∀ f ∈ fs, fldW e' f = fldW e0 f) ∧ r = rest
  | [], rest, e, e', r, _, _, h => by
    simp only [List.map_nil, List.nil_append] at h
    cases rest <;> exact ⟨by simp, h.2⟩
  | f :: fs, rest, e, e', r, hd, hb, h => by
    rw [List.nodup_cons] at hd
    obtain ⟨e1, h1, h2⟩ := h
    obtain ⟨h3, h4⟩ := take_fits ht0 hd.2 (fun g hg => hb g (by simp [hg])) h2
    refine ⟨fun g hg => ?_, h4⟩
    rcases List.mem_cons.1 hg with rfl | hg
    · rw [take_other h2 g hd.1]
      exact h1.fits e0 ht0 rfl (hb g (by simp))
    · exact h3 g hg

theorem formK_nodup (k : Int) : (formK k).2.Nodup := formK_all (p := fun x => x.2.Nodup) (by decide) (by decide) k
theorem formC_nodup (k : Int) : (formC k).2.Nodup := formC_all (p := fun x => x.2.Nodup) (by decide) (by decide) k
/-- The two forms of a call name different things. -/
theorem form_apart (k : Int) : ∀ f ∈ (formC k).2, f ≠ .name := formC_all (p := fun x => ∀ f ∈ x.2, f ≠ .name) (by decide) (by decide) k
theorem formK_lt {k : Int} (h : (formK k).1.size ≠ 0) : 1 ≤ k ∧ k ≤ 11 := Classical.byContradiction fun hn => h (by rw [formK_out hn]; rfl)
theorem formC_lt {k : Int} (h : (formC k).1.size ≠ 0) : 1 ≤ k ∧ k ≤ 15 := Classical.byContradiction fun hn => h (by rw [formC_out hn]; rfl)
theorem formK_inj {j k : Int} (hj : 1 ≤ j ∧ j ≤ 11) (hk : 1 ≤ k ∧ k ≤ 11) (h : (formK j).1 = (formK k).1) : j = k := by
  obtain ⟨i, rfl⟩ := fin_int (n := 11) hj
  obtain ⟨l, rfl⟩ := fin_int (n := 11) hk
  have : ∀ i l : Fin 11, (formK ((i.val : Int) + 1)).1 = (formK ((l.val : Int) + 1)).1 → i = l := by decide
  rw [this i l h]
theorem formC_inj {j k : Int} (hj : 1 ≤ j ∧ j ≤ 15) (hk : 1 ≤ k ∧ k ≤ 15) (h : (formC j).1 = (formC k).1) : j = k := by
  obtain ⟨i, rfl⟩ := fin_int (n := 15) hj
  obtain ⟨l, rfl⟩ := fin_int (n := 15) hk
  have : ∀ i l : Fin 15, (formC ((i.val : Int) + 1)).1 = (formC ((l.val : Int) + 1)).1 → i = l := by decide
  rw [this i l h]

end Go.Proofs
end

section
open Go Go.Vc
namespace Go.Proofs

def wordsS (s : ByteArray) : List ByteArray := (splitL s.data.toList).map fun w => ⟨w.toArray⟩
theorem words_line (e : Ev) : wordsS (lineW e) = (lineF e).map (·.1) := by
  unfold wordsS
  rw [line_words, List.map_map]
  refine List.map_congr_left fun w _ => ?_
  simp

structure SameE (e e0 : Ev) : Prop where
  kind : e.kind = e0.kind
  flds : ∀ f ∈ (formK e0.kind).2, fldW e f = fldW e0 f
  call : e0.kind = 1 → e.call.kind = e0.call.kind ∧ ∀ f ∈ (formC e0.call.kind).2, fldW e f = fldW e0 f
theorem SameE.line {e e0 : Ev} (h : SameE e e0) : lineF e = lineF e0 := by
  have h1 : formF e (formK e0.kind) = formF e0 (formK e0.kind) := by
    unfold formF
    rw [List.map_congr_left h.flds]
  unfold lineF
  rw [h.kind, h1]
  by_cases hk : e0.kind = 1
  · rw [if_pos hk, if_pos hk, (h.call hk).1]
    have h2 : formF e (formC e0.call.kind) = formF e0 (formC e0.call.kind) := by
      unfold formF
      rw [List.map_congr_left (h.call hk).2]
    rw [h2]
  · rw [if_neg hk, if_neg hk]
/-- An event that is as its words say, if they may be an event's at all. -/
def Good (ws : List ByteArray) (e : Ev) : Prop := ∀ e0 : Ev, e0.call.time < 18446744073709551616 → bad (lineF e0) = false → ws = (lineF e0).map (·.1) → SameE e e0
theorem print_some {e : Ev} {s : ByteArray} (h : printE e = (s, true)) : bad (lineF e) = false ∧ s = lineW e := by
  unfold printE at h
  split at h
  · cases h
  · rename_i hb
    simp only [Prod.mk.injEq, and_true] at h
    exact ⟨by simpa using hb, h.symm⟩
theorem print_same {e e0 : Ev} (h : lineF e = lineF e0) : printE e = printE e0 := by
  unfold printE lineW
  rw [h]
theorem good_print {e f : Ev} {s : ByteArray} (hg : Good (wordsS s) f) (ht0 : e.call.time < 18446744073709551616) (h : printE e = (s, true)) : SameE f e ∧ printE f = (s, true) := by
  obtain ⟨h1, rfl⟩ := print_some h
  have := hg e ht0 h1 (words_line e)
  exact ⟨this, by rw [print_same this.line, h]⟩

def zeroE : Ev := ⟨0, ⟨#[]⟩, ⟨#[]⟩, ⟨#[]⟩, ⟨0, ⟨#[]⟩, ⟨#[]⟩, 0, 0, 0, 0, []⟩, 0, []⟩
def withKind (e : Ev) (k : Int) : Ev := { e with kind := k }
def withCall (e : Ev) (k : Int) : Ev := { e with call := { e.call with kind := k } }
theorem fldW_kind (e : Ev) (k : Int) (f : Fld) : fldW (withKind e k) f = fldW e f := by cases f <;> rfl
theorem fldW_call (e : Ev) (k : Int) (f : Fld) : fldW (withCall e k) f = fldW e f := by cases f <;> rfl

abbrev noW : ByteArray := ⟨#[]⟩
/-- What is made of words. -/
def Step1 (ws : List ByteArray) (e1 : Ev) (r1 : List ByteArray) : Prop :=
  (∃ k : Int, 1 ≤ k ∧ k ≤ 11 ∧ (formK k).1 = ws.headD noW ∧ TakeR (withKind zeroE k) (formK k).2 ws.tail e1 r1) ∨ ((∀ k : Int, 1 ≤ k → k ≤ 11 → (formK k).1 ≠ ws.headD noW) ∧ e1 = zeroE ∧ r1 = ws)
def Step2 (e1 : Ev) (r1 : List ByteArray) (e2 : Ev) : Prop :=
  (∃ k : Int, 1 ≤ k ∧ k ≤ 15 ∧ e1.kind = 1 ∧ r1 ≠ [] ∧ (formC k).1 = r1.headD noW ∧ ∃ r2, TakeR (withCall e1 k) (formC k).2 r1.tail e2 r2) ∨ ((e1.kind = 1 → r1 ≠ [] → ∀ k : Int, 1 ≤ k → k ≤ 15 → (formC k).1 ≠ r1.headD noW) ∧ e2 = e1)

theorem bad_mem {l : List WF} (h : bad l = false) : ∀ w ∈ l, w.2 = false := by
  unfold bad at h
  rw [List.any_eq_false] at h
  exact fun w hw => by simpa using h w hw

theorem formF_fst (e : Ev) (g : ByteArray × List Fld) : (formF e g).map (·.1) = g.1 :: g.2.map (fun f => (fldW e f).1) := by
  unfold formF
  rw [List.map_cons, List.map_map]
  rfl
theorem steps_good {ws : List ByteArray} {e1 e2 : Ev} {r1 : List ByteArray} (h1 : Step1 ws e1 r1) (h2 : Step2 e1 r1 e2) : Good ws e2 := by
  intro e0 ht0 hb hws
  have hmem := bad_mem hb
  have hK : (formK e0.kind).1.size ≠ 0 := by
    have := hmem ((formK e0.kind).1, decide ((formK e0.kind).1.size = 0)) (by simp [lineF, formF])
    simpa using this
  have hk := formK_lt hK
  have hfl : ∀ f ∈ (formK e0.kind).2, (fldW e0 f).2 = false := fun f hf => hmem _ (by
    unfold lineF formF
    exact List.mem_append_left _ (List.mem_cons_of_mem _ (List.mem_map.2 ⟨f, hf, rfl⟩)))
  have hws' : ws = (formK e0.kind).1 :: ((formK e0.kind).2.map (fun f => (fldW e0 f).1) ++ (if e0.kind = 1 then formF e0 (formC e0.call.kind) else []).map (·.1)) := by
    rw [hws]
    unfold lineF
    rw [List.map_append, formF_fst]
    rfl
  have hhead : ws.headD noW = (formK e0.kind).1 := by rw [hws']; rfl
  have htail : ws.tail = (formK e0.kind).2.map (fun f => (fldW e0 f).1) ++ (if e0.kind = 1 then formF e0 (formC e0.call.kind) else []).map (·.1) := by rw [hws']; rfl
  rcases h1 with ⟨k, k1, k2, hkw, ht⟩ | ⟨hno, _, _⟩
  case inr => exact absurd hhead.symm (hno _ hk.1 hk.2)
  have ek : k = e0.kind := formK_inj ⟨k1, k2⟩ hk (by rw [hkw, hhead])
  subst ek
  rw [htail] at ht
  obtain ⟨hf, hr⟩ := take_fits ht0 (formK_nodup _) hfl ht
  have hk1 : e1.kind = e0.kind := (take_kind ht).1
  by_cases hc : e0.kind = 1
  · rw [if_pos hc] at hr
    have hC : (formC e0.call.kind).1.size ≠ 0 := by
      have := hmem ((formC e0.call.kind).1, decide ((formC e0.call.kind).1.size = 0)) (by simp [lineF, formF, hc])
      simpa using this
    have hck := formC_lt hC
    have hr' : r1 = (formC e0.call.kind).1 :: (formC e0.call.kind).2.map (fun f => (fldW e0 f).1) := by
      rw [hr, formF_fst]
    have hrh : r1.headD noW = (formC e0.call.kind).1 := by rw [hr']; rfl
    rcases h2 with ⟨j, j1, j2, _, _, hjw, r2, ht2⟩ | ⟨hno, _⟩
    case inr => exact absurd hrh.symm (hno (hk1.trans hc) (by rw [hr']; simp) _ hck.1 hck.2)
    have ej : j = e0.call.kind := formC_inj ⟨j1, j2⟩ hck (by rw [hjw, hrh])
    subst ej
    have hfc : ∀ f ∈ (formC e0.call.kind).2, (fldW e0 f).2 = false := fun f hf => hmem _ (by
      unfold lineF
      rw [if_pos hc]
      refine List.mem_append_right _ ?_
      unfold formF
      exact List.mem_cons_of_mem _ (List.mem_map.2 ⟨f, hf, rfl⟩))
    have htl : r1.tail = (formC e0.call.kind).2.map (fun f => (fldW e0 f).1) ++ [] := by rw [hr']; simp
    rw [htl] at ht2
    obtain ⟨hf2, _⟩ := take_fits ht0 (formC_nodup _) hfc ht2
    have hkk := take_kind ht2
    refine ⟨hkk.1.trans hk1, fun f hm => ?_, fun _ => ⟨hkk.2, hf2⟩⟩
    have hap : f ∉ (formC e0.call.kind).2 := by
      intro hx
      have := form_apart _ f hx
      rw [hc] at hm
      exact this (by simpa [formK] using hm)
    rw [take_other ht2 f hap, fldW_call, hf f hm]
  · rcases h2 with ⟨j, _, _, h1', _⟩ | ⟨_, rfl⟩
    · exact absurd (hk1.symm.trans h1') hc
    · exact ⟨hk1, hf, fun h => absurd h hc⟩

/-! ### Reading back -/
def unhexG (h : UInt8 → UInt8 → UInt8) : List UInt8 → List UInt8
  | a :: b :: r => h a b :: unhexG h r
  | _ => []
theorem unhexG_hex {h : UInt8 → UInt8 → UInt8} (hh : ∀ c : UInt8, h (UInt8.ofNat (digN (c.toNat / 16))) (UInt8.ofNat (digN (c.toNat % 16))) = c) : ∀ l : List UInt8, unhexG h (l.flatMap hex2) = l
  | [] => rfl
  | c :: l => by
    rw [List.flatMap_cons]
    simp only [hex2, List.cons_append, List.nil_append, unhexG]
    rw [hh c]
    rw [unhexG_hex hh l]
theorem hexB_inj {h : UInt8 → UInt8 → UInt8} (hh : ∀ c : UInt8, h (UInt8.ofNat (digN (c.toNat / 16))) (UInt8.ofNat (digN (c.toNat % 16))) = c) {l m : List UInt8} (e : hexB l = hexB m) : l = m := by
  have e2 : hexOf l = hexOf m := by
    have := congrArg (fun b : ByteArray => b.data.toList) e
    simpa [hexB] using this
  simp only [hexOf, List.cons.injEq, true_and] at e2
  rw [← unhexG_hex hh l, e2, unhexG_hex hh m]

theorem decF_ok : ∀ (k j n : Nat), n < k → n < j → decF k n = decF j n
  | 0, _, n, h, _ => by omega
  | _, 0, n, _, h => by omega
  | k + 1, j + 1, n, h1, h2 => by
    simp only [decF]
    split
    · rfl
    · rw [decF_ok k j (n / 10) (by omega) (by omega)]
theorem decL_step (n : Nat) : decL n = if n < 10 then [UInt8.ofNat (48 + n)] else decL (n / 10) ++ [UInt8.ofNat (48 + n % 10)] := by
  unfold decL
  conv => lhs; unfold decF
  split
  · rfl
  · rw [decF_ok n (n / 10 + 1) (n / 10) (by omega) (by omega)]
/-- What digits say. -/
def valL (acc : Nat) (l : List UInt8) : Nat := l.foldl (fun a c => a * 10 + (c.toNat - 48)) acc
theorem valL_append (l m : List UInt8) (acc : Nat) : valL acc (l ++ m) = valL (valL acc l) m := List.foldl_append
theorem valL_cons (acc : Nat) (c : UInt8) (r : List UInt8) : valL acc (c :: r) = valL (acc * 10 + (c.toNat - 48)) r := by unfold valL; rw [List.foldl_cons]
theorem valL_nil (acc : Nat) : valL acc [] = acc := by unfold valL; rw [List.foldl_nil]
theorem dig_nat {d : Nat} (h : d < 10) : (UInt8.ofNat (48 + d)).toNat = 48 + d := by simp; omega
theorem valL_dec : ∀ (n : Nat), valL 0 (decL n) = n := by
  intro n
  induction n using Nat.strongRecOn with
  | ind n ih =>
    by_cases h : n < 10
    · rw [decL_step n, if_pos h]
      rw [valL_cons, valL_nil, dig_nat h]; omega
    · rw [decL_step n, if_neg h, valL_append, ih (n / 10) (by omega)]
      rw [valL_cons, valL_nil, dig_nat (by omega : n % 10 < 10)]
      omega
theorem decL_dig : ∀ (n : Nat), ∀ c ∈ decL n, 48 ≤ c.toNat ∧ c.toNat ≤ 57 := by
  intro n
  induction n using Nat.strongRecOn with
  | ind n ih =>
    by_cases h : n < 10
    · rw [decL_step n, if_pos h]
      intro c hc
      simp only [List.mem_singleton] at hc
      rw [hc, dig_nat h]
      omega
    · rw [decL_step n, if_neg h]
      intro c hc
      rcases List.mem_append.1 hc with hc | hc
      · exact ih _ (by omega) c hc
      · simp only [List.mem_singleton] at hc
        rw [hc, dig_nat (by omega)]
        omega
theorem decL_pos (n : Nat) : 0 < (decL n).length := by
  rw [decL_step n]
  by_cases h : n < 10
  · rw [if_pos h]; simp
  · rw [if_neg h]; simp
theorem decL_len : ∀ (k n : Nat), n < 10 ^ k → 0 < k → (decL n).length ≤ k
  | 0, _, _, h => by omega
  | k + 1, n, h, _ => by
    by_cases h10 : n < 10
    · rw [decL_step n, if_pos h10]; simp
    · rw [decL_step n, if_neg h10]
      have hk : 0 < k := by
        rcases Nat.eq_zero_or_pos k with rfl | h'
        · simp at h; omega
        · exact h'
      have := decL_len k (n / 10) (by rw [Nat.pow_succ] at h; omega) hk
      simp
      omega

end Go.Proofs
end

section
open Go Go.Vc
namespace Go.Proofs

abbrev HB := UInt8 → UInt8 → UInt8
def HBok (h : HB) : Prop := ∀ c : UInt8, h (UInt8.ofNat (digN (c.toNat / 16))) (UInt8.ofNat (digN (c.toNat % 16))) = c
def stripL : List UInt8 → List UInt8
  | [] => []
  | c :: r => if c = 37 then r else c :: r
def unhexM (h : HB) (s : ByteArray) : List UInt8 := unhexG h (stripL s.data.toList)
def untextM (h : HB) (s : ByteArray) : ByteArray := if s.data.toList.headD 0 = 37 then ⟨(unhexG h s.data.toList.tail).toArray⟩ else s

theorem unhex_hexB {h : HB} (hh : HBok h) (l : List UInt8) : unhexM h (hexB l) = l := by
  unfold unhexM hexB hexOf
  simp only [stripL, if_true]
  exact unhexG_hex hh l
theorem unhexR_hexB {h : HB} (hh : HBok h) (l : List UInt8) : unhexG h (hexB l).data.toList.tail = l := by
  unfold hexB hexOf
  exact unhexG_hex hh l
theorem untext_textW {h : HB} (hh : HBok h) (s : ByteArray) : untextM h (textW s) = s := by
  unfold untextM textW
  by_cases hp : plainT s = true
  · rw [if_pos hp]
    have hne : ¬ s.data.toList.headD 0 = 37 := by
      simp only [plainT, Bool.and_eq_true, List.all_eq_true] at hp
      cases hl : s.data.toList with
      | nil => simp
      | cons c r =>
        intro e
        have := hp.2 c (by rw [hl]; simp)
        simp only [List.headD_cons] at e
        rw [e] at this
        exact absurd this (by decide)
    rw [if_neg hne]
  · rw [if_neg hp, if_pos (by rfl), unhexR_hexB hh]
theorem textW_inj {h : HB} (hh : HBok h) {s t : ByteArray} (e : textW s = textW t) : s = t := by
  rw [← untext_textW hh s, e, untext_textW hh]

theorem intS_pos {n : Int} (h : 0 ≤ n) : intS n = ⟨(decL n.toNat).toArray⟩ := by
  unfold intS
  rw [if_neg (by omega), show n.natAbs = n.toNat by omega]
theorem intS_inj {n m : Int} (hn : 0 ≤ n) (hm : 0 ≤ m) (e : intS n = intS m) : n = m := by
  rw [intS_pos hn, intS_pos hm] at e
  have e2 : decL n.toNat = decL m.toNat := by
    have := congrArg (fun b : ByteArray => b.data.toList) e
    simpa using this
  have := valL_dec n.toNat
  rw [e2, valL_dec] at this
  omega

/-! ### What setting does -/
theorem fits_text {h : HB} (hh : HBok h) {w : ByteArray} {e' : Ev} {f : Fld} {g : Ev → ByteArray} (hf : ∀ e, fldW e f = textF (g e)) (he : g e' = untextM h w) : Fits w e' f := by
  intro e0 ht0 hw _
  rw [hf] at hw ⊢
  rw [hf, he, ← hw]
  show textF (untextM h (textW (g e0))) = _
  rw [untext_textW hh]
theorem fits_bytes {h : HB} (hh : HBok h) {w : ByteArray} {e' : Ev} {f : Fld} {g : Ev → List UInt8} (hf : ∀ e, fldW e f = bytesF (g e)) (he : g e' = unhexM h w) : Fits w e' f := by
  intro e0 ht0 hw _
  rw [hf] at hw ⊢
  rw [hf, he, ← hw]
  show bytesF (unhexM h (hexB (g e0))) = _
  rw [unhex_hexB hh]
theorem fits_bytesR {h : HB} (hh : HBok h) {w : ByteArray} {e' : Ev} {f : Fld} {g : Ev → List UInt8} (hf : ∀ e, fldW e f = bytesF (g e)) (he : g e' = unhexG h w.data.toList.tail) : Fits w e' f := by
  intro e0 ht0 hw _
  rw [hf] at hw ⊢
  rw [hf, he, ← hw]
  show bytesF (unhexG h (hexB (g e0)).data.toList.tail) = _
  rw [unhexR_hexB hh]
/-- A reading of numbers that finds those that are laid. -/
def IsInt (w : ByteArray) (n : Int) : Prop := ∀ k : Int, 0 ≤ k → k ≤ 999999 → w = intS k → n = k
theorem fits_num {w : ByteArray} {e' : Ev} {f : Fld} {g : Ev → Int} (hf : ∀ e, fldW e f = numF (g e)) (he : IsInt w (g e')) : Fits w e' f := by
  intro e0 ht0 hw hb
  rw [hf] at hw hb ⊢
  rw [hf]
  simp only [numF, decide_eq_false_iff_not] at hb
  rw [he (g e0) (by omega) (by omega) hw.symm]
def IsTime (w : ByteArray) (x : Nat) : Prop := ∀ y : Nat, y < 18446744073709551616 → w = hexS (plainW y) → plainW x = plainW y
theorem fits_time {w : ByteArray} {e' : Ev} (he : IsTime w e'.call.time) : Fits w e' .time := by
  intro e0 ht0 hw _
  show timeF _ = timeF _
  have : hexS (plainW e0.call.time) = w := hw
  unfold timeF
  rw [he _ ht0 this.symm]

end Go.Proofs
end

section
open Go Go.Vc
namespace Go.Proofs

theorem wrap_u8 (n : Int) : IntKind.wrap .u8 n = n % 256 := by
  simp only [IntKind.wrap, IntKind.bits, IntKind.signed]
  simp

theorem _root_.Go.Vc.NewB.ext {H H' : Heap} {b c : Nat} {s : ByteArray} {e : TypeId} (h : NewB H b s c e H') : Ext [] H H' := by
  obtain ⟨rfl, _, rfl⟩ := h
  refine ⟨by simp, fun k hk _ => ?_⟩
  rw [Array.getElem?_push, if_neg (by omega)]
theorem _root_.Go.Vc.NewB.cell {H H' : Heap} {b c : Nat} {s : ByteArray} {e : TypeId} (h : NewB H b s c e H') {j : Nat} (hj : j < s.size) : hcell H' b j = some (.int .u8 ((s.data.toList.getD j 0).toNat : Int)) := by
  obtain ⟨rfl, _, rfl⟩ := h
  have hj' : j < s.data.size := hj
  simp [hcell, bytesRow, Array.getElem?_append, hj]

/-- A letter made small. -/
def lowI (c : Int) : Int := bits .or .u8 c 32
theorem lowI_le : ∀ c : Nat, c < 256 → 0 ≤ lowI c ∧ lowI c ≤ 255 := by decide +kernel
/-- What a byte is worth as a digit (of whatever base). -/
def hraw (c : Int) : Option Int := if 48 ≤ c ∧ c ≤ 57 then some (c - 48) else if 97 ≤ lowI c ∧ lowI c ≤ 122 then some (lowI c - 87) else none
theorem hraw_le {c : Nat} (h : c < 256) {d : Int} (hd : hraw c = some d) : 0 ≤ d ∧ d ≤ 35 := by
  unfold hraw at hd
  split at hd
  · simp only [Option.some.injEq] at hd; omega
  · split at hd
    · simp only [Option.some.injEq] at hd; omega
    · cases hd

inductive PR where
  | ok (n : Int)
  | syn
  | rng
/-- What comes of the digits behind n. -/
def pu (n : Int) : List UInt8 → PR
  | [] => .ok n
  | c :: r => match hraw c.toNat with
    | none => .syn
    | some d => if 16 ≤ d then .syn else if 1152921504606846976 ≤ n then .rng else pu (n * 16 + d) r
def puT (s : ByteArray) : PR := if s = .empty then .syn else pu 0 s.data.toList
def PR.v : PR → Value
  | .ok n => .tuple #[.int .u64 n, .nilIface]
  | .syn => .tuple #[.int .u64 0, .iface 164 (.int .i64 2)]
  | .rng => .tuple #[.int .u64 18446744073709551615, .iface 164 (.int .i64 1)]

theorem low_ok (c : Int) (H : Heap) : Does Tryz.prog 131 [.int .u8 c] H fun v H' => v = .int .u8 (lowI c) ∧ H = H' := by
  refine Fn_of_vc Tryz.mixed (LowV _ _ _) ?_
  rintro q rfl
  exact ⟨rfl, rfl⟩

def letP (cn : Int) (H : Heap) (X : Value → Heap → Prop) (K : Int → Heap → Prop) : Prop :=
  Does Tryz.prog 131 [(.int .u8 cn)] H fun v89 H90 => ∃ n91 : Int, v89 = (.int .u8 n91) ∧
    ((97 : Int) ≤ n91 →
      Does Tryz.prog 131 [(.int .u8 cn)] H90 fun v92 H93 => ∃ n94 : Int, v92 = (.int .u8 n94) ∧
        ((n94 : Int) ≤ 122 →
          Does Tryz.prog 131 [(.int .u8 cn)] H93 fun v95 H96 => ∃ n97 : Int, v95 = (.int .u8 n97) ∧
            ∀ q98 : Int, q98 = IntKind.wrap .u8 (n97 - 97) → ∀ q99 : Int, q99 = IntKind.wrap .u8 (q98 + 10) → K q99 H96) ∧
        (¬ ((n94 : Int) ≤ 122) → X (.tuple #[(.int .u64 0), (.iface 164 (.int .i64 2))]) H93)) ∧
    (¬ ((97 : Int) ≤ n91) → X (.tuple #[(.int .u64 0), (.iface 164 (.int .i64 2))]) H90)

theorem let_ok {cn : Nat} (hc : cn < 256) {H : Heap} {X : Value → Heap → Prop} {K : Int → Heap → Prop} (hn : ¬ (48 ≤ (cn : Int) ∧ (cn : Int) ≤ 57)) (hx : hraw cn = none → X (PR.v .syn) H) (hk : ∀ d, hraw cn = some d → K d H) : letP cn H X K := by
  obtain ⟨l0, l1⟩ := lowI_le cn hc
  refine (low_ok _ _).mono ?_
  rintro _ _ ⟨rfl, rfl⟩
  refine ⟨_, rfl, fun h1 => (low_ok _ _).mono ?_, fun h1 => hx (by rw [hraw, if_neg hn, if_neg (by omega)])⟩
  rintro _ _ ⟨rfl, rfl⟩
  refine ⟨_, rfl, fun h2 => (low_ok _ _).mono ?_, fun h2 => hx (by rw [hraw, if_neg hn, if_neg (by omega)])⟩
  rintro _ _ ⟨rfl, rfl⟩
  refine ⟨_, rfl, ?_⟩
  rintro q98 rfl q99 rfl
  rw [wrap_u8, wrap_u8, show ((lowI cn - 97) % 256 + 10) % 256 = lowI cn - 87 by omega]
  exact hk _ (by rw [hraw, if_neg hn, if_pos ⟨h1, h2⟩])

def digP (cn : Int) (H : Heap) (X : Value → Heap → Prop) (K : Int → Heap → Prop) : Prop :=
  ((48 : Int) ≤ cn → ((cn : Int) ≤ 57 → ∀ q88 : Int, q88 = IntKind.wrap .u8 (cn - 48) → K q88 H) ∧ (¬ ((cn : Int) ≤ 57) → letP cn H X K)) ∧
  (¬ ((48 : Int) ≤ cn) → letP cn H X K)

theorem dig_ok {cn : Nat} (hc : cn < 256) {H : Heap} {X : Value → Heap → Prop} {K : Int → Heap → Prop} (hx : hraw cn = none → X (PR.v .syn) H) (hk : ∀ d, hraw cn = some d → K d H) : digP cn H X K := by
  refine ⟨fun h1 => ⟨fun h2 => ?_, fun h2 => let_ok hc (by omega) hx hk⟩, fun h1 => let_ok hc (by omega) hx hk⟩
  rintro q rfl
  rw [wrap_u8, show ((cn : Int) - 48) % 256 = (cn : Int) - 48 by omega]
  exact hk _ (by rw [hraw, if_pos ⟨h1, h2⟩])

theorem pu_ok (s : ByteArray) (hs : s.size ≤ maxLen) (H : Heap) : Does Tryz.prog 118 [.string s, .int .i64 16, .int .i64 64] H fun v H' => v = (puT s).v ∧ Ext [] H H' := by
  refine Fn_of_vc Tryz.mixed (PuV _ _ _) ?_
  refine ⟨fun e => ⟨by rw [puT, if_pos (show s = .empty from e)]; rfl, Ext.refl _ _⟩, fun e => ?_⟩
  have hT : puT s = pu 0 s.data.toList := by rw [puT, if_neg (show ¬ s = .empty from e)]
  rw [hT]
  refine ⟨fun s' n H' => s' = s ∧ n = 16 ∧ H' = H, ⟨fun _ => ⟨fun _ => ⟨rfl, rfl, rfl⟩, fun e => absurd (by decide) e⟩, fun e => absurd (by decide) e⟩, ?_⟩
  rintro s' _ _ ⟨e1, rfl, rfl⟩
  obtain rfl : s = s' := e1.symm
  refine ⟨fun n H' => n = 64 ∧ H' = _, ⟨fun e => absurd e (by decide), fun _ => ⟨fun e => absurd e (by decide), fun _ => ⟨fun e => absurd e (by decide), fun _ => ⟨rfl, rfl⟩⟩⟩⟩, ?_⟩
  rintro _ _ ⟨rfl, rfl⟩
  refine ⟨fun n H' => n = 1152921504606846976 ∧ H' = _, ⟨fun e => absurd e (by decide), fun _ => ⟨fun _ => ⟨rfl, rfl⟩, fun e => absurd rfl e⟩⟩, ?_⟩
  rintro _ H ⟨rfl, rfl⟩
  rintro q72 rfl
  refine ⟨by decide, ?_⟩
  rintro q73 rfl q74 rfl
  rw [show IntKind.wrap .u64 (IntKind.wrap .u64 (1 * 2 ^ (min (Int.toNat (IntKind.wrap .u64 64)) (IntKind.bits .u64))) - 1) = 18446744073709551615 by decide +kernel]
  intro c b H77 hb
  refine ⟨fun t acc i H' => t = false ∧ H' = H77 ∧ ∃ j : Nat, i = j ∧ j ≤ s.size ∧ 0 ≤ acc ∧ acc < 18446744073709551616 ∧ pu 0 s.data.toList = pu acc (s.data.toList.drop j), fun _ _ i _ => s.size - i.toNat, ⟨rfl, rfl, 0, rfl, by omega, by decide, by decide, rfl⟩, ?_⟩
  rintro _ acc _ H83 ⟨rfl, e83, j, rfl, hj, ha0, ha1, hpu⟩
  obtain rfl : H77 = H83 := e83.symm
  rw [hpu]
  have hsl : s.data.toList.length = s.size := Array.length_toList
  refine ⟨fun hlt => ⟨by omega, hlt, b, 0, rfl, ?_⟩, fun hlt => ⟨fun e => (by cases e), fun _ => ?_⟩⟩
  · have hj' : j < s.size := by omega
    have hdrop : s.data.toList.drop j = s.data.toList.getD j 0 :: s.data.toList.drop (j + 1) := by
      rw [List.drop_eq_getElem_cons (by omega), List.getD_eq_getElem?_getD, List.getElem?_eq_getElem (by omega)]; rfl
    refine ⟨_, by rw [Nat.zero_add, Int.toNat_natCast]; exact hb.cell hj', ?_⟩
    rw [hdrop]
    generalize s.data.toList.getD j 0 = cb at *
    have hc : cb.toNat < 256 := cb.toNat_lt
    generalize hcn : cb.toNat = cn at *
    have syn : ∀ (h : hraw cn = none), pu acc (cb :: s.data.toList.drop (j + 1)) = .syn := by
      intro h; simp only [pu, hcn, h]
    have key := dig_ok hc (H := H77) (X := fun v H' => v = (pu acc (cb :: s.data.toList.drop (j + 1))).v ∧ Ext [] H H') (K := fun d H' => false = false ∧ H' = H77 ∧ hraw cn = some d) (fun h => ⟨by rw [syn h], hb.ext⟩) (fun d hd => ⟨rfl, rfl, hd⟩)
    refine ⟨fun d t H' => t = false ∧ H' = H77 ∧ hraw cn = some d, ⟨fun _ => ⟨fun e => absurd e (by decide), fun _ => key⟩, fun _ => key⟩, ?_⟩
    rintro d _ H9 ⟨rfl, e9, hd⟩
    obtain rfl : H77 = H9 := e9.symm
    obtain ⟨d0, d1⟩ := hraw_le hc hd
    rintro q137 rfl
    rw [show IntKind.wrap .u8 16 = 16 by decide]
    refine ⟨fun h16 => ⟨by simp only [pu, hcn, hd]; rw [if_pos h16]; rfl, hb.ext⟩, fun h16 => ⟨fun hn => ⟨by simp only [pu, hcn, hd]; rw [if_neg h16, if_pos hn]; rfl, hb.ext⟩, fun hn => ?_⟩⟩
    rintro q138 rfl q139 rfl q140 rfl q141 rfl
    rw [show IntKind.wrap .u64 16 = 16 by decide, wrap_u64, wrap_u64, wrap_u64, show ((acc * 16) % 18446744073709551616 + d % 18446744073709551616) % 18446744073709551616 = acc * 16 + d by omega]
    refine ⟨fun h => absurd h (by omega), fun _ => ⟨fun h => absurd h (by omega), fun _ => ⟨?_, ⟨rfl, rfl, j + 1, by omega, by omega, by omega, by omega, ?_⟩, ?_⟩⟩⟩
    · unfold maxLen at hs; exact ⟨by omega, by omega⟩
    · simp only [pu, hcn, hd]; rw [if_neg h16, if_neg hn]
    · show s.size - ((j : Int) + 1).toNat < s.size - (j : Int).toNat
      omega
  · have : s.data.toList.drop j = [] := List.drop_of_length_le (by omega)
    rw [this]
    exact ⟨rfl, hb.ext⟩
end Go.Proofs
end

section
open Go Go.Vc
namespace Go.Proofs

theorem fui_ok {x : Nat} (hx : x < 18446744073709551616) {H : Heap} (h : T64 H) :
    Does Tryz.prog 59 [.int .u64 x, .int .i64 16] H fun v H' => ∃ m s, v = .string s ∧ 1 ≤ m ∧ m ≤ 16 ∧ s = ⟨(hexL x m).toArray⟩ ∧ x < 16 ^ m ∧ Ext [] H H' := by
  refine Fn_of_vc Tryz.mixed (FuV _ _ _) ?_
  refine Does.mono (R := fun v H' => ∃ m s, v = .string s ∧ 1 ≤ m ∧ m ≤ 16 ∧ s = ⟨(hexL x m).toArray⟩ ∧ x < 16 ^ m ∧ Ext [] H H') ?_ ?_
  · refine Fn_of_vc Tryz.mixed (FuiV _ _ _) ?_
    refine ⟨fun e => absurd e (by decide), fun _ => (fb_ok hx h).mono ?_⟩
    rintro _ H14 ⟨m, s, rfl, h1, h2, h3, h4, h5⟩
    exact ⟨_, _, _, _, rfl, m, s, rfl, h1, h2, h3, h4, h5⟩
  · rintro _ H2 ⟨m, s, rfl, h1⟩
    exact ⟨_, rfl, m, s, rfl, h1⟩

theorem hexL_zero {x m : Nat} (h : x < 16 ^ m) : (hexL x (m + 1)) = 48 :: hexL x m := by
  have : x / 16 ^ m = 0 := Nat.div_eq_of_lt h
  simp only [hexL, hexd, this]
  rfl

theorem text_ok {w : Nat} (hw : w < 18446744073709551616) {H : Heap} (h : T64 H) : Does Tryz.prog 37 [.float .f64 w] H fun v H' => v = .string (hexS (plainW w)) ∧ Ext [] H H' := by
  refine Fn_of_vc Tryz.mixed (TextV _ _ _) ?_
  refine (plain_ok hw H).mono ?_
  rintro _ _ ⟨rfl, rfl⟩
  refine ⟨_, rfl, (fui_ok (plain_lt hw) h).mono ?_⟩
  rintro _ H5 ⟨m, s, rfl, h1, h2, rfl, h4, hx⟩
  generalize plainW w = x at *
  refine ⟨_, rfl, fun s H' => H' = H5 ∧ ∃ m, 1 ≤ m ∧ m ≤ 16 ∧ s = ⟨(hexL x m).toArray⟩ ∧ x < 16 ^ m, fun s _ => 16 - s.size, ⟨rfl, m, h1, h2, rfl, h4⟩, ?_⟩
  rintro _ _ ⟨rfl, m, h1, h2, rfl, h4⟩
  have hsz : (ByteArray.mk (hexL x m).toArray).size = m := by
    show (hexL x m).toArray.size = m
    simp [hexL_length]
  have hcat : (ByteArray.mk #[48]) ++ (ByteArray.mk (hexL x m).toArray) = ⟨(hexL x (m + 1)).toArray⟩ := by
    rw [hexL_zero h4]
    apply ByteArray.ext
    rw [ByteArray.data_append]
    apply Array.ext'
    simp
  rw [hcat, hsz]
  refine ⟨fun hlt => ⟨⟨by show _ ≤ ((1 + m : Nat) : Int); omega, by show ((1 + m : Nat) : Int) ≤ _; omega⟩, ⟨rfl, m + 1, by omega, by omega, rfl, ?_⟩, ?_⟩, fun hlt => ⟨?_, hx⟩⟩
  · exact Nat.lt_of_lt_of_le h4 (Nat.pow_le_pow_right (by decide) (by omega))
  · show 16 - (ByteArray.mk (hexL x (m + 1)).toArray).size < 16 - (ByteArray.mk (hexL x m).toArray).size
    have : (ByteArray.mk (hexL x (m + 1)).toArray).size = m + 1 := by
      show (hexL x (m + 1)).toArray.size = m + 1
      simp [hexL_length]
    rw [hsz, this]
    omega
  · have : m = 16 := by omega
    subst this
    rfl

theorem hraw_dig : ∀ d : Nat, d < 16 → hraw (digN d) = some (d : Int) := by decide +kernel

theorem pu_hexL {x : Nat} : ∀ (m : Nat) (acc : Nat), m ≤ 16 → acc < 16 ^ (16 - m) → pu acc (hexL x m) = .ok ((acc * 16 ^ m + x % 16 ^ m : Nat) : Int)
  | 0, acc, _, _ => by simp [pu, hexL, Nat.mod_one]
  | m + 1, acc, hm, ha => by
    have hd : x / 16 ^ m % 16 < 16 := Nat.mod_lt _ (by decide)
    have ha' : acc < 1152921504606846976 := by
      have : 16 ^ (16 - (m + 1)) ≤ 16 ^ 15 := Nat.pow_le_pow_right (by decide) (by omega)
      rw [show (16 : Nat) ^ 15 = 1152921504606846976 by decide] at this
      omega
    simp only [hexL, pu, hexd_nat, hraw_dig _ hd]
    rw [if_neg (by omega), if_neg (by omega)]
    have e : ((acc : Int) * 16 + ((x / 16 ^ m % 16 : Nat) : Int)) = ((acc * 16 + x / 16 ^ m % 16 : Nat) : Int) := by omega
    rw [e, pu_hexL m _ (by omega)]
    · congr 2
      rw [Nat.pow_succ, Nat.mod_mul, Nat.add_mul, Nat.mul_assoc, Nat.mul_comm 16 (16 ^ m), Nat.mul_comm (x / 16 ^ m % 16)]
      omega
    · rw [show 16 - m = (16 - (m + 1)) + 1 by omega, Nat.pow_succ]
      omega

theorem puT_hex {x : Nat} (hx : x < 18446744073709551616) : puT (hexS x) = .ok x := by
  have hne : ¬ hexS x = .empty := fun e => by
    have := hexS_size x
    rw [e] at this
    exact absurd this (by decide)
  rw [puT, if_neg hne]
  have := pu_hexL (x := x) 16 0 (by decide) (by decide)
  rw [show (16 : Nat) ^ 16 = 18446744073709551616 by decide, Nat.mod_eq_of_lt hx] at this
  simpa [hexS] using this

theorem pua_ok {x : Nat} (hx : x < 18446744073709551616) (H : Heap) : Does Tryz.prog 100 [.string (hexS x), .int .i64 16, .int .i64 64] H fun v H' => v = .tuple #[.int .u64 x, .nilIface] ∧ Ext [] H H' := by
  refine Fn_of_vc Tryz.mixed (PuaV _ _ _) ?_
  refine (pu_ok _ (by rw [hexS_size]; decide) H).mono ?_
  rintro _ H2 ⟨rfl, hx2⟩
  rw [puT_hex hx]
  exact ⟨_, _, rfl, .inl rfl, fun h => absurd rfl h, fun _ => ⟨rfl, hx2⟩⟩

/-- What is printed is parsed. -/
theorem parse_hex {x : Nat} (hx : x < 18446744073709551616) {H : Heap} (h : T64 H) : Does Tryz.prog 75 [.string (hexS x)] H fun v H' => v = (if plainW x = x then .tuple #[.float .f64 x, .bool true] else .tuple #[.float .f64 0, .bool false]) ∧ Ext [] H H' := by
  refine Fn_of_vc Tryz.mixed (ParseV _ _ _) ?_
  refine (pua_ok hx H).mono ?_
  rintro _ H2 ⟨rfl, hx2⟩
  refine ⟨_, _, rfl, .inl rfl, fun h => absurd rfl h, fun _ => (text_ok (w := Int.toNat ((x : Nat) : Int)) (by omega) (h.ext hx2)).mono ?_⟩
  rintro _ H6 ⟨rfl, hx6⟩
  rw [Int.toNat_natCast]
  refine ⟨_, rfl, fun e => ⟨?_, hx2.trans hx6⟩, fun e => ⟨?_, hx2.trans hx6⟩⟩
  · rw [if_neg fun h => e (by rw [h])]
  · rw [if_pos]
    have : hexS (plainW x) = hexS x := Classical.not_not.1 e
    exact (hexS_inj (plain_lt hx) hx).1 this
end Go.Proofs
end

section
open Go Go.Vc
namespace Go.Proofs

theorem hsets_typ {b : Nat} {e : TypeId} {f : Nat × Nat} : ∀ (vs : List Value) (o : Nat) (H : Heap) (cs : Array Value), H[b]? = some (.cells cs e f) → ∃ cs', (hsets H b o vs)[b]? = some (.cells cs' e f)
  | [], _, _, cs, h => ⟨cs, h⟩
  | v :: r, o, H, cs, h => by
    refine hsets_typ r (o + 1) (hset H b o v) (cs.setIfInBounds o v) ?_
    simp [hset, Array.getElem?_modify, h]

theorem _root_.Go.Vc.Froz.ext {H H' : Heap} {b : Nat} (h : Froz H b H') : Ext [b] H H' := by
  obtain ⟨h1, h2⟩ := h
  exact ⟨by rw [h1]; exact Nat.le_refl _, fun k _ hk => h2 k (by simpa using hk)⟩

theorem clone_ok {s : ByteArray} (hs : s.size ≤ 140737488351232) (H : Heap) : Does Tryz.prog 135 [.string s] H fun v H' => v = .string s ∧ Ext [] H H' := by
  have hm : s.size ≤ 140737488351232 := hs
  refine Fn_of_vc Tryz.mixed (CloneV _ _ _) ?_
  refine ⟨fun e => ⟨?_, Ext.refl _ _⟩, fun e => ⟨by omega, by omega, by omega, ?_⟩⟩
  · have : s = ⟨#[]⟩ := by
      apply ByteArray.ext
      exact Array.eq_empty_of_size_eq_zero (by have : s.data.size = s.size := rfl; omega)
    rw [this]
  · intro b H2 hn
    have hmin : min s.size (Int.toNat (s.size : Int)) = s.size := by omega
    have hl : s.data.toList.length = s.size := Array.length_toList
    rw [hmin]
    have hex : (s.extract 0 s.size) = s := by simp
    rw [hex]
    have hb := hn.blk
    refine ⟨⟨rfl, hb.cells _ _ (by simp)⟩, fun H3 hc => ⟨by omega, by omega, b, 0, rfl, s.data.toList, ?_, by simp, by omega, ⟨by omega, by omega⟩, ?_, fun H7 hf => ?_⟩⟩
    · intro h; rw [h] at hl; simp at hl; omega
    · have hc' : H3 = hsets H2 b 0 (bytesV s.data.toList) := hc
      have hblk := hsets_blk (bytesV s.data.toList) 0 H2 _ hb (by rw [bytesV_length]; simp)
      rw [← hc'] at hblk
      obtain ⟨e', hblk⟩ := hblk
      obtain ⟨hbe, hH2⟩ := hn
      have ht : H2[b]? = some (.cells (List.replicate (Int.toNat (s.size : Int)) (Value.int .u8 0)).toArray 5 (0, 0)) := by rw [hbe, hH2]; simp
      obtain ⟨cs', h4⟩ := hsets_typ (bytesV s.data.toList) 0 H2 _ ht
      rw [← hc'] at h4
      have h5 := h4
      rw [hblk] at h5
      have he : e' = 5 := by simp at h5; exact h5.2
      rw [he] at hblk
      have hsp : splice (List.replicate (Int.toNat (s.size : Int)) (Value.int .u8 0)) 0 (bytesV s.data.toList) = bytesV s.data.toList := by
        simp [splice, bytesV_length, hl]
      rw [hsp] at hblk
      refine ⟨_, _, hblk, by simp [bytesV_length], fun j x hj => ?_⟩
      simp [bytesV, hj]
    · refine ⟨rfl, (hn.ext.trans' (M := []) (N := [b]) ?_ ?_).trans' hf.ext ?_⟩
      · have hc' : H3 = hsets H2 b 0 (bytesV s.data.toList) := hc
        rw [hc']
        exact (hsets_ext _ _).1
      · intro i hi; simp only [List.mem_singleton] at hi; have := hn.eq; omega
      · intro i hi; simp only [List.mem_singleton] at hi; have := hn.eq; omega

/-- The two errors that the package strconv lays. -/
def ErrH (H : Heap) : Prop := (∃ t u, hcell H 7 0 = some (.iface t u)) ∧ (∃ t u, hcell H 8 0 = some (.iface t u))
theorem ErrH.ext {H H' : Heap} (h : ErrH H) (he : Ext [] H H') : ErrH H' := by
  obtain ⟨⟨t, u, h1⟩, ⟨t', u', h2⟩⟩ := h
  exact ⟨⟨t, u, hcell_ext h1 he (by simp)⟩, ⟨t', u', hcell_ext h2 he (by simp)⟩⟩

theorem synErr_ok (f : ByteArray) {s : ByteArray} (hs : s.size ≤ 140737488351232) {H : Heap} (h : ErrH H) : Does Tryz.prog 127 [.string f, .string s] H fun v H' => (∃ p, v = .pointer p) ∧ Ext [] H H' := by
  refine Fn_of_vc Tryz.mixed (SynErrV _ _ _ _) ?_
  obtain ⟨t, u, h1⟩ := h.1
  refine ⟨_, h1, (clone_ok hs H).mono ?_⟩
  rintro _ H3 ⟨rfl, hx⟩
  refine ⟨_, rfl, ⟨hcell_ext h1 hx (by simp), trivial⟩, ?_⟩
  intro b H7 hn
  exact ⟨⟨_, rfl⟩, hx.trans hn.ext⟩
theorem rngErr_ok (f : ByteArray) {s : ByteArray} (hs : s.size ≤ 140737488351232) {H : Heap} (h : ErrH H) : Does Tryz.prog 128 [.string f, .string s] H fun v H' => (∃ p, v = .pointer p) ∧ Ext [] H H' := by
  refine Fn_of_vc Tryz.mixed (RngErrV _ _ _ _) ?_
  obtain ⟨t, u, h1⟩ := h.2
  refine ⟨_, h1, (clone_ok hs H).mono ?_⟩
  rintro _ H3 ⟨rfl, hx⟩
  refine ⟨_, rfl, ⟨hcell_ext h1 hx (by simp), trivial⟩, ?_⟩
  intro b H7 hn
  exact ⟨⟨_, rfl⟩, hx.trans hn.ext⟩

theorem toErrSyn_ok (f : ByteArray) {s : ByteArray} (hs : s.size ≤ 140737488351232) {H : Heap} (h : ErrH H) : Does Tryz.prog 116 [.string f, .string s, .int .i64 16, .int .i64 64, .iface 164 (.int .i64 2)] H fun v H' => (∃ t u, v = .iface t u) ∧ Ext [] H H' := by
  refine Fn_of_vc Tryz.mixed (ToErrSynV _ _ _ _) ?_
  refine ⟨fun _ => (synErr_ok f hs h).mono ?_, fun e => absurd rfl e⟩
  rintro _ H2 ⟨⟨p, rfl⟩, hx⟩
  exact ⟨_, rfl, ⟨_, _, rfl⟩, hx⟩
theorem toErrRng_ok (f : ByteArray) {s : ByteArray} (hs : s.size ≤ 140737488351232) {H : Heap} (h : ErrH H) : Does Tryz.prog 116 [.string f, .string s, .int .i64 16, .int .i64 64, .iface 164 (.int .i64 1)] H fun v H' => (∃ t u, v = .iface t u) ∧ Ext [] H H' := by
  refine Fn_of_vc Tryz.mixed (ToErrRngV _ _ _ _) ?_
  refine ⟨fun e => absurd e (by decide), fun _ => ⟨fun _ => (rngErr_ok f hs h).mono ?_, fun e => absurd rfl e⟩⟩
  rintro _ H2 ⟨⟨p, rfl⟩, hx⟩
  exact ⟨_, rfl, ⟨_, _, rfl⟩, hx⟩

theorem pu_bound : ∀ (l : List UInt8) (acc n : Int), 0 ≤ acc → acc < 18446744073709551616 → pu acc l = .ok n → 0 ≤ n ∧ n < 18446744073709551616
  | [], acc, n, h0, h1, h => by simp only [pu, PR.ok.injEq] at h; omega
  | c :: r, acc, n, h0, h1, h => by
    simp only [pu] at h
    split at h
    · cases h
    · rename_i d hd
      obtain ⟨d0, d1⟩ := hraw_le c.toNat_lt hd
      split at h
      · cases h
      · split at h
        · cases h
        · exact pu_bound r _ n (by omega) (by omega) h

/-- What a text is as a number. -/
def IsNum (s : ByteArray) (v : Value) : Prop :=
  (∃ x, x < 18446744073709551616 ∧ plainW x = x ∧ s = hexS x ∧ v = .tuple #[.float .f64 x, .bool true]) ∨ ((∀ x, x < 18446744073709551616 → plainW x = x → s ≠ hexS x) ∧ v = .tuple #[.float .f64 0, .bool false])

theorem parse_ok {s : ByteArray} (hs : s.size ≤ 140737488351232) {H : Heap} (hT : T64 H) (hE : ErrH H) : Does Tryz.prog 75 [.string s] H fun v H' => IsNum s v ∧ Ext [] H H' := by
  refine Fn_of_vc Tryz.mixed (ParseV _ _ _) ?_
  refine Does.mono (R := fun v H' => ((∃ n : Int, puT s = .ok n ∧ v = .tuple #[.int .u64 n, .nilIface]) ∨ ((∀ n, puT s ≠ .ok n) ∧ ∃ (n : Int) (t : _) (u : _), v = .tuple #[.int .u64 n, .iface t u])) ∧ Ext [] H H') ?_ ?_
  · refine Fn_of_vc Tryz.mixed (PuaV _ _ _) ?_
    refine (pu_ok _ (by unfold maxLen; omega) H).mono ?_
    rintro _ H2 ⟨rfl, hx2⟩
    cases hp : puT s with
    | ok n => exact ⟨_, _, rfl, .inl rfl, fun h => absurd rfl h, fun _ => ⟨.inl ⟨n, rfl, rfl⟩, hx2⟩⟩
    | syn =>
      refine ⟨_, _, rfl, .inr ⟨_, _, rfl⟩, fun _ => (toErrSyn_ok _ hs (hE.ext hx2)).mono ?_, fun h => absurd (by simp) h⟩
      rintro _ H6 ⟨⟨t, u, rfl⟩, hx6⟩
      exact ⟨_, rfl, .inr ⟨fun n h => (by cases h), _, _, _, rfl⟩, hx2.trans hx6⟩
    | rng =>
      refine ⟨_, _, rfl, .inr ⟨_, _, rfl⟩, fun _ => (toErrRng_ok _ hs (hE.ext hx2)).mono ?_, fun h => absurd (by simp) h⟩
      rintro _ H6 ⟨⟨t, u, rfl⟩, hx6⟩
      exact ⟨_, rfl, .inr ⟨fun n h => (by cases h), _, _, _, rfl⟩, hx2.trans hx6⟩
  · rintro _ H2 ⟨h, hx2⟩
    rcases h with ⟨n, hp, rfl⟩ | ⟨hp, n, t, u, rfl⟩
    · obtain ⟨k, rfl⟩ : ∃ k : Nat, n = k := by
        have := (pu_bound s.data.toList 0 n (by decide) (by decide) (by unfold puT at hp; split at hp; cases hp; exact hp)).1
        exact ⟨n.toNat, by omega⟩
      have hk : k < 18446744073709551616 := by
        have := (pu_bound s.data.toList 0 k (by decide) (by decide) (by unfold puT at hp; split at hp; cases hp; exact hp)).2
        omega
      refine ⟨_, _, rfl, .inl rfl, fun h => absurd rfl h, fun _ => (text_ok (w := Int.toNat ((k : Nat) : Int)) (by omega) (hT.ext hx2)).mono ?_⟩
      rintro _ H6 ⟨rfl, hx6⟩
      rw [Int.toNat_natCast]
      refine ⟨_, rfl, fun e => ⟨.inr ⟨fun x hx hpl hxs => ?_, rfl⟩, hx2.trans hx6⟩, fun e => ⟨.inl ?_, hx2.trans hx6⟩⟩
      · rw [hxs, puT_hex hx] at hp
        simp only [PR.ok.injEq] at hp
        have : x = k := by omega
        subst this
        exact e (by rw [hpl, hxs])
      · have e' := Classical.not_not.1 e
        rw [← e', puT_hex (plain_lt hk)] at hp
        simp only [PR.ok.injEq] at hp
        have hpk : plainW k = k := by omega
        exact ⟨k, hk, hpk, by rw [← e', hpk], rfl⟩
    · refine ⟨_, _, rfl, .inr ⟨_, _, rfl⟩, fun _ => ⟨.inr ⟨fun x hx hpl hxs => ?_, rfl⟩, hx2⟩, fun h => absurd (by simp) h⟩
      exact hp x (by rw [hxs, puT_hex hx])

/-! ### The document's -/
theorem hexL_snoc {a d : Nat} (hd : d < 16) : ∀ j, hexL (a * 16 + d) (j + 1) = hexL a j ++ [UInt8.ofNat (digN d)]
  | 0 => by
    simp only [hexL, hexd, Nat.pow_zero, Nat.div_one, List.nil_append]
    rw [show (a * 16 + d) % 16 = d by omega]
  | j + 1 => by
    have ih := hexL_snoc (a := a) hd j
    show hexd (a * 16 + d) (j + 1) :: hexL (a * 16 + d) (j + 1) = hexd a j :: hexL a j ++ [_]
    rw [ih]
    have : hexd (a * 16 + d) (j + 1) = hexd a j := by
      unfold hexd
      rw [Nat.pow_succ, Nat.mul_comm (16 ^ j) 16, ← Nat.div_div_eq_div_mul, show (a * 16 + d) / 16 = a by omega]
    rw [this]; rfl

theorem dig_cut : ∀ k, k < 16 → (ByteArray.mk #[48, 49, 50, 51, 52, 53, 54, 55, 56, 57, 97, 98, 99, 100, 101, 102]).extract k (k + 1) = ⟨#[UInt8.ofNat (digN k)]⟩ := by decide

theorem wrap_i64n (n : Nat) (h : n < 16) : IntKind.wrap .i64 (n : Int) = n := by
  match n, h with
  | 0, _ | 1, _ | 2, _ | 3, _ | 4, _ | 5, _ | 6, _ | 7, _ | 8, _ | 9, _ | 10, _ | 11, _ | 12, _ | 13, _ | 14, _ | 15, _ => decide
  | n + 16, h => omega

theorem rtext_ok {w : Nat} (hw : w < 18446744073709551616) (H : Heap) : Does Tryz.prog 41 [.float .f64 w] H fun v H' => v = .string (hexS (plainW w)) ∧ Ext [] H H' := by
  refine Fn_of_vc Tryz.mixed (RTextV _ _ _) ?_
  refine (bits_ok hw H).mono ?_
  rintro _ _ ⟨rfl, rfl⟩
  have hx := plain_lt hw
  generalize plainW w = x at *
  have hsz : ∀ y m, (ByteArray.mk (hexL y m).toArray).size = m := fun y m => by
    show (hexL y m).toArray.size = m
    simp [hexL_length]
  refine ⟨_, rfl, fun s i H' => H' = H ∧ ∃ j : Nat, j ≤ 16 ∧ i = 60 - 4 * (j : Int) ∧ s = ⟨(hexL (x / 16 ^ (16 - j)) j).toArray⟩, fun _ i _ => (i + 4).toNat, ⟨rfl, 0, by decide, rfl, rfl⟩, ?_⟩
  rintro _ _ H' ⟨e, j, hj, rfl, rfl⟩
  obtain rfl : H = H' := e.symm
  refine ⟨fun h0 => ?_, fun h0 => ⟨?_, Ext.refl _ _⟩⟩
  · rintro q9 rfl
    rw [wrap_u64, show (60 - 4 * (j : Int)) % 18446744073709551616 = 60 - 4 * (j : Int) by omega]
    refine ⟨by omega, ?_⟩
    rintro q10 rfl
    have ef : Int.fdiv (x : Int) (2 ^ (min (Int.toNat (60 - 4 * (j : Int))) (IntKind.bits .u64))) = ((x / 16 ^ (15 - j) : Nat) : Int) := by
      have h1 : min (Int.toNat (60 - 4 * (j : Int))) (IntKind.bits .u64) = 4 * (15 - j) := by
        show min _ 64 = _
        omega
      have hpos : (0 : Int) ≤ 2 ^ (4 * (15 - j)) := Int.pow_nonneg (by decide)
      have hp2 : ((2 : Int) ^ (4 * (15 - j))) = (((16 : Nat) ^ (15 - j) : Nat) : Int) := by
        rw [show (16 : Nat) = 2 ^ 4 from rfl, ← Nat.pow_mul]; simp
      rw [h1, Int.fdiv_eq_ediv_of_nonneg _ hpos, hp2]
      exact (Int.natCast_ediv _ _).symm
    rw [ef]
    have hlt : x / 16 ^ (15 - j) < 18446744073709551616 := Nat.lt_of_le_of_lt (Nat.div_le_self _ _) hx
    rintro q11 rfl q12 rfl
    rw [and15 _ hlt]
    have hd : x / 16 ^ (15 - j) % 16 < 16 := Nat.mod_lt _ (by decide)
    have hstep : x / 16 ^ (16 - j) * 16 + x / 16 ^ (15 - j) % 16 = x / 16 ^ (15 - j) := by
      have : x / 16 ^ (16 - j) = x / 16 ^ (15 - j) / 16 := by
        rw [Nat.div_div_eq_div_mul, ← Nat.pow_succ]
        congr 2; omega
      rw [this]; omega
    have hsn := hexL_snoc (a := x / 16 ^ (16 - j)) hd j
    rw [hstep] at hsn
    generalize hdd : x / 16 ^ (15 - j) % 16 = d at *
    rw [wrap_i64n d hd]
    have hcat : (ByteArray.mk (hexL (x / 16 ^ (16 - j)) j).toArray) ++ (ByteArray.mk #[48, 49, 50, 51, 52, 53, 54, 55, 56, 57, 97, 98, 99, 100, 101, 102]).extract (Int.toNat (d : Int)) (Int.toNat ((d : Int) + 1)) = ⟨(hexL (x / 16 ^ (15 - j)) (j + 1)).toArray⟩ := by
      rw [show Int.toNat (d : Int) = d by omega, show Int.toNat ((d : Int) + 1) = d + 1 by omega, dig_cut d hd, hsn]
      apply ByteArray.ext
      rw [ByteArray.data_append]
      apply Array.ext'
      simp
    rw [hcat]
    refine ⟨⟨by omega, by omega⟩, by omega, by omega, by show (d : Int) + 1 ≤ 16; omega, ⟨?_, ?_⟩, ⟨by omega, by omega⟩, ⟨rfl, j + 1, by omega, by omega, ?_⟩, ?_⟩
    · omega
    · rw [show Int.toNat (d : Int) = d by omega, show Int.toNat ((d : Int) + 1) = d + 1 by omega, dig_cut d hd, hsz]
      show ((j + 1 : Nat) : Int) ≤ _
      omega
    · rw [show 16 - (j + 1) = 15 - j by omega]
    · show (60 - 4 * (j : Int) - 4 + 4).toNat < (60 - 4 * (j : Int) + 4).toNat
      omega
  · have : j = 16 := by omega
    subst this
    rw [show 16 - 16 = 0 by rfl, Nat.pow_zero, Nat.div_one]
    rfl

theorem hexd_low (x m : Nat) : (48 ≤ ((hexd x m).toNat : Int) ∧ ((hexd x m).toNat : Int) ≤ 57) ∨ (97 ≤ ((hexd x m).toNat : Int) ∧ ((hexd x m).toNat : Int) ≤ 102) := by
  rw [hexd_nat]
  have : x / 16 ^ m % 16 < 16 := Nat.mod_lt _ (by decide)
  unfold digN
  split <;> omega

theorem hexL_get (x : Nat) : ∀ (m j : Nat), j < m → (hexL x m)[j]? = some (hexd x (m - 1 - j))
  | 0, _, h => absurd h (by omega)
  | m + 1, 0, _ => by simp [hexL]
  | m + 1, j + 1, h => by
    have := hexL_get x m j (by omega)
    simp only [hexL, List.getElem?_cons_succ, this]
    congr 2; omega

theorem ofNat_toNat (c : UInt8) {d : Nat} (h : c.toNat = digN d) : c = UInt8.ofNat (digN d) := by
  rw [← h]; simp

theorem rparse_ok (s : ByteArray) (H : Heap) : Does Tryz.prog 76 [.string s] H fun v H' => IsNum s v ∧ Ext [] H H' := by
  refine Fn_of_vc Tryz.mixed (RParseV _ _ _) ?_
  refine ⟨fun e => ⟨.inr ⟨fun x hx hp h => e (by rw [h, hexS_size]; rfl), rfl⟩, Ext.refl _ _⟩, fun e => ?_⟩
  have hsz : s.size = 16 := by omega
  have hl : s.data.toList.length = 16 := by rw [Array.length_toList]; exact hsz
  refine ⟨fun n H' => H' = H ∧ ∃ k : Nat, n = k ∧ k < 18446744073709551616 ∧ s = hexS k, ?_, ?_⟩
  · refine ⟨fun n i H' => H' = H ∧ ∃ k j : Nat, n = k ∧ i = j ∧ j ≤ 16 ∧ k < 16 ^ j ∧ s.data.toList.take j = hexL k j, fun _ i _ => (16 - i).toNat, ⟨rfl, 0, 0, rfl, rfl, by decide, by decide, rfl⟩, ?_⟩
    rintro _ _ H' ⟨eH, k, j, rfl, rfl, hj, hk, ht⟩
    obtain rfl : H = H' := eH.symm
    have k16 : (16 : Nat) ^ 16 = 18446744073709551616 := by decide
    refine ⟨fun hlt => ⟨by omega, by omega, ?_⟩, fun hlt => ⟨rfl, k, rfl, ?_, ?_⟩⟩
    · rintro q7 rfl
      rw [Int.toNat_natCast]
      have hget : s.data.toList[j]? = some (s.data.toList.getD j 0) := by
        rw [List.getD_eq_getElem?_getD, List.getElem?_eq_getElem (by omega)]; rfl
      generalize hc : s.data.toList.getD j 0 = c at *
      have hc8 : c.toNat < 256 := c.toNat_lt
      have hk15 : k < 1152921504606846976 := by
        have : 16 ^ j ≤ 16 ^ 15 := Nat.pow_le_pow_right (by decide) (by omega)
        rw [show (16 : Nat) ^ 15 = 1152921504606846976 by decide] at this
        omega
      have hsh : IntKind.wrap .u64 ((k : Int) * 2 ^ (min (Int.toNat 4) (IntKind.bits .u64))) = (k : Int) * 16 := by
        show IntKind.wrap .u64 ((k : Int) * 16) = _
        rw [wrap_u64]; omega
      have bad : ¬ ((48 ≤ (c.toNat : Int) ∧ (c.toNat : Int) ≤ 57) ∨ (97 ≤ (c.toNat : Int) ∧ (c.toNat : Int) ≤ 102)) → IsNum s (.tuple #[.float .f64 0, .bool false]) := by
        intro h
        refine .inr ⟨fun x hx hp hxs => h ?_, rfl⟩
        have h1 : s.data.toList = hexL x 16 := by rw [hxs]; simp [hexS]
        rw [h1, hexL_get x 16 j (by omega)] at hget
        simp only [Option.some.injEq] at hget
        rw [← hget]
        exact hexd_low _ _
      have good : ∀ d : Nat, d < 16 → c.toNat = digN d → (∃ k' j' : Nat, (k : Int) * 16 + d = k' ∧ (j : Int) + 1 = j' ∧ j' ≤ 16 ∧ k' < 16 ^ j' ∧ s.data.toList.take j' = hexL k' j') := by
        intro d hd hcd
        refine ⟨k * 16 + d, j + 1, by omega, by omega, by omega, by rw [Nat.pow_succ]; omega, ?_⟩
        rw [List.take_add_one, ht, hget, hexL_snoc hd, ofNat_toNat c hcd]
        rfl
      have m1 : (16 - ((j : Int) + 1)).toNat < (16 - (j : Int)).toNat := by omega
      have letter : ∀ (hn : ¬ (48 ≤ (c.toNat : Int) ∧ (c.toNat : Int) ≤ 57)), 97 ≤ (c.toNat : Int) → (c.toNat : Int) ≤ 102 →
          IntKind.wrap .u64 (IntKind.wrap .u64 (IntKind.wrap .u64 ((k : Int) * 2 ^ (min (Int.toNat 4) (IntKind.bits .u64))) + IntKind.wrap .u64 (IntKind.wrap .u8 ((c.toNat : Int) - 97))) + 10) = (k : Int) * 16 + ((c.toNat - 87 : Nat) : Int) ∧ c.toNat = digN (c.toNat - 87) ∧ c.toNat - 87 < 16 := by
        intro hn h1 h2
        refine ⟨?_, ?_, by omega⟩
        · rw [hsh, wrap_u8, wrap_u64, wrap_u64, wrap_u64]; omega
        · unfold digN; rw [if_neg (by omega)]; omega
      refine ⟨fun h1 => ⟨fun h2 => ⟨by decide, ?_⟩, fun h2 => ⟨fun h3 => ⟨fun h4 => ⟨by decide, ?_⟩, fun h4 => ⟨bad (by omega), Ext.refl _ _⟩⟩, fun h3 => ⟨bad (by omega), Ext.refl _ _⟩⟩⟩, fun h1 => ⟨fun h3 => ⟨fun h4 => ⟨by decide, ?_⟩, fun h4 => ⟨bad (by omega), Ext.refl _ _⟩⟩, fun h3 => ⟨bad (by omega), Ext.refl _ _⟩⟩⟩
      · rintro q8 rfl q9 rfl q10 rfl q11 rfl
        have e1 : IntKind.wrap .u64 (IntKind.wrap .u64 ((k : Int) * 2 ^ (min (Int.toNat 4) (IntKind.bits .u64))) + IntKind.wrap .u64 (IntKind.wrap .u8 ((c.toNat : Int) - 48))) = (k : Int) * 16 + ((c.toNat - 48 : Nat) : Int) := by
          rw [hsh, wrap_u8, wrap_u64, wrap_u64]; omega
        rw [e1]
        exact ⟨⟨by omega, by omega⟩, ⟨rfl, good _ (by omega) (by unfold digN; rw [if_pos (by omega)]; omega)⟩, m1⟩
      · rintro q12 rfl q13 rfl q14 rfl q15 rfl q16 rfl
        obtain ⟨e1, e2, e3⟩ := letter (by omega) h3 h4
        rw [e1]
        exact ⟨⟨by omega, by omega⟩, ⟨rfl, good _ e3 e2⟩, m1⟩
      · rintro q12 rfl q13 rfl q14 rfl q15 rfl q16 rfl
        obtain ⟨e1, e2, e3⟩ := letter (by omega) h3 h4
        rw [e1]
        exact ⟨⟨by omega, by omega⟩, ⟨rfl, good _ e3 e2⟩, m1⟩
    · have : j = 16 := by omega
      subst this
      rw [k16] at hk
      exact hk
    · have : j = 16 := by omega
      subst this
      rw [List.take_of_length_le (by omega)] at ht
      apply ByteArray.ext
      apply Array.ext'
      rw [ht]
      simp [hexS]
  · rintro _ H' ⟨eH, k, rfl, hk, hs⟩
    obtain rfl : H = H' := eH.symm
    rw [Int.toNat_natCast]
    refine (bits_ok hk H).mono ?_
    rintro _ _ ⟨rfl, rfl⟩
    refine ⟨_, rfl, fun e => ⟨.inr ⟨fun x hx hp hxs => e ?_, rfl⟩, Ext.refl _ _⟩, fun e => ⟨.inl ⟨k, hk, by omega, hs, rfl⟩, Ext.refl _ _⟩⟩
    rw [hs, hexS_inj hk hx] at hxs
    subst hxs
    rw [hp]
end Go.Proofs
end

section
open Go Go.Vc
namespace Go.Proofs

/-- What is read of a row of bytes. -/
theorem srow_len {H : Heap} {n : Nat} {a : Option Addr} {l c : Nat} {xs : List Value} (h : SRow H 1 n (.slice a l c) xs) : xs.length = n := by have := h.1; omega
theorem srow_ext {H H' : Heap} {n : Nat} {a : Option Addr} {l c : Nat} {xs : List Value} (h : SRow H 1 n (.slice a l c) xs) (he : Ext [] H H') : SRow H' 1 n (.slice a l c) xs := h.ext he (by simp)
theorem srow_byte {H : Heap} {n : Nat} {a : Option Addr} {l c : Nat} {bs : List UInt8} (h : SRow H 1 n (.slice a l c) (bytesV bs)) {i : Nat} (hi : i < n) : ∃ b o, a = some ⟨b, o, none⟩ ∧ hcell H b (o + i) = some (.int .u8 ((bs.getD i 0).toNat : Int)) := by
  have hl := srow_len h
  rw [bytesV_length] at hl
  exact h.at (bytesV_get bs i (by omega))

/-- What the package's variables hold. -/
structure Glob (H : Heap) : Prop where
  t64 : T64 H
  p10 : ∃ t f, H[4]? = some (.cells (Lib.pow10Tab.map fun z => Value.int .u64 z).toArray t f)
  err : ErrH H
  names : ∀ j, j < 7 → ∃ s : ByteArray, hcell H 0 j = some (.string s) ∧ s.size ≤ 100
  kinds : ∀ j, j < 24 → ∃ n, hcell H 1 j = some (.int .i64 n) ∧ In64 n
  maxl : ∃ m, hcell H 3 0 = some (.int .i64 m)
theorem Glob.keep {M : Nat → Prop} {H H' : Heap} (g : Glob H) (hx : ExtP M H H') (hm : ∀ k, M k → 11 ≤ k) : Glob H' := by
  have nm : ∀ k, k < 11 → ¬ M k := fun k hk h => by have := hm k h; omega
  obtain ⟨h1, ⟨t, f, h2⟩, ⟨⟨t3, u3, h3⟩, ⟨t4, u4, h4⟩⟩, h5, h6, m7, h7⟩ := g
  have hs : 4 < H.size := by
    rcases Nat.lt_or_ge 4 H.size with h | h
    · exact h
    · rw [Array.getElem?_eq_none h] at h2; cases h2
  exact ⟨hcell_extP h1 hx (nm _ (by omega)), ⟨t, f, (hx.keep 4 hs (nm 4 (by omega))).trans h2⟩, ⟨⟨t3, u3, hcell_extP h3 hx (nm _ (by omega))⟩, ⟨t4, u4, hcell_extP h4 hx (nm _ (by omega))⟩⟩,
    fun j hj => by obtain ⟨s, q, r⟩ := h5 j hj; exact ⟨s, hcell_extP q hx (nm _ (by omega)), r⟩, fun j hj => by obtain ⟨s, q, r⟩ := h6 j hj; exact ⟨s, hcell_extP q hx (nm _ (by omega)), r⟩, m7, hcell_extP h7 hx (nm _ (by omega))⟩
theorem Glob.ext {H H' : Heap} (g : Glob H) (hx : Ext [] H H') : Glob H' := g.keep hx.toP (by simp)
theorem Glob.size {H : Heap} (g : Glob H) : 11 ≤ H.size := hcell_lt g.t64

/-- The words so far, and whether something is wrong. -/
def LineIs (F : Nat → Prop) (H : Heap) (b : Nat) (ws : List ByteArray) (wr : Bool) : Prop :=
  (∀ k, F k → 11 ≤ k ∧ k < H.size) ∧ F b ∧ ∃ a c, Blk H b [.slice a ws.length c, .bool wr] ∧ Own H 1 a ws.length c (ws.map Value.string) ∧ b ∉ blkOf a ∧ ∀ k ∈ blkOf a, F k
def LineTo (F : Nat → Prop) (H : Heap) (b : Nat) (ws : List ByteArray) (wr : Bool) (H' : Heap) : Prop := LineIs (grow F H H') H' b ws wr ∧ ExtP F H H'

section
variable {F M : Nat → Prop} {H H1 H2 H' : Heap} {b : Nat} {ws : List ByteArray} {wr : Bool}
theorem LineIs.lt (h : LineIs F H b ws wr) : ∀ k, F k → 11 ≤ k ∧ k < H.size := h.1
theorem LineIs.low (h : LineIs F H b ws wr) : ∀ k, F k → 11 ≤ k := fun k hk => (h.1 k hk).1
theorem LineIs.big (h : LineIs F H b ws wr) : 11 ≤ H.size := by have := h.1 b h.2.1; omega
theorem LineIs.ext (h : LineIs F H b ws wr) (hx : ExtP M H H') (hm : ∀ k, F k → ¬ M k) : LineIs F H' b ws wr := by
  obtain ⟨h1, h2, a, c, hb, ho, hn, hf⟩ := h
  exact ⟨fun k hk => ⟨(h1 k hk).1, Nat.lt_of_lt_of_le (h1 k hk).2 hx.size⟩, h2, a, c, hb.extP hx (hm b h2), ho.extP hx (fun k hk => hm k (hf k hk)), hn, hf⟩
theorem LineIs.more (h : LineIs F H b ws wr) (hx : Ext [] H H') : LineIs F H' b ws wr := h.ext hx.toP (by simp)
theorem LineIs.up {F' : Nat → Prop} (h : LineIs F H b ws wr) (hF : ∀ k, F k → F' k) (hl : ∀ k, F' k → 11 ≤ k ∧ k < H.size) : LineIs F' H b ws wr := by
  obtain ⟨h1, h2, a, c, hb, ho, hn, hf⟩ := h
  exact ⟨hl, hF b h2, a, c, hb, ho, hn, fun k hk => hF k (hf k hk)⟩
theorem grow_mono {F : Nat → Prop} (hs : H1.size ≤ H2.size) : ∀ k, grow F H H1 k → grow F H H2 k := fun _ hk => hk.elim .inl fun h => .inr ⟨h.1, Nat.lt_of_lt_of_le h.2 hs⟩
theorem grow_in {F : Nat → Prop} (hl : ∀ k, F k → 11 ≤ k ∧ k < H.size) (h0 : 11 ≤ H.size) (hs : H.size ≤ H1.size) : ∀ k, grow F H H1 k → 11 ≤ k ∧ k < H1.size := fun k hk => hk.elim (fun h => ⟨(hl k h).1, Nat.lt_of_lt_of_le (hl k h).2 hs⟩) fun h => ⟨Nat.le_trans h0 h.1, h.2⟩
theorem grow_off {F : Nat → Prop} : ∀ k, grow F H H1 k → H.size ≤ k ∨ F k := fun _ hk => hk.elim .inr fun h => .inl h.1
/-- New things, then a step. -/
theorem LineTo.pre (hx : Ext [] H H1) (hl : ∀ k, F k → 11 ≤ k ∧ k < H.size) (h0 : 11 ≤ H.size) (h : LineTo F H1 b ws wr H2) : LineTo F H b ws wr H2 := by
  obtain ⟨h1, h2⟩ := h
  refine ⟨h1.up (fun k hk => hk.elim .inl fun h => .inr ⟨Nat.le_trans hx.size h.1, h.2⟩) (grow_in hl h0 (Nat.le_trans hx.size h2.size)), (hx.anyP (N := F)).trans h2⟩
/-- A step, then new things. -/
theorem LineTo.post (h : LineTo F H b ws wr H1) (hl : ∀ k, F k → 11 ≤ k ∧ k < H.size) (h0 : 11 ≤ H.size) (hx : Ext [] H1 H2) : LineTo F H b ws wr H2 :=
  ⟨(h.1.more hx).up (grow_mono hx.size) (grow_in hl h0 (Nat.le_trans h.2.size hx.size)), h.2.trans hx.anyP⟩
/-- Two steps. -/
theorem LineTo.step {ws' : List ByteArray} {wr' : Bool} (h : LineTo F H b ws wr H1) (hl : ∀ k, F k → 11 ≤ k ∧ k < H.size) (h0 : 11 ≤ H.size) (h2 : LineTo (grow F H H1) H1 b ws' wr' H2) : LineTo F H b ws' wr' H2 := by
  have hs1 := h.2.size
  have hs2 := h2.2.size
  refine ⟨h2.1.up (fun k hk => ?_) (grow_in hl h0 (by omega)), h.2.trans' h2.2 grow_off⟩
  rcases hk with (hk | hk) | hk
  · exact .inl hk
  · exact .inr ⟨hk.1, by omega⟩
  · exact .inr ⟨by omega, hk.2⟩
theorem LineTo.refl (h : LineIs F H b ws wr) : LineTo F H b ws wr H := ⟨h.up (fun _ => .inl) (grow_in h.1 h.big (Nat.le_refl _)), ExtP.refl _ _⟩
theorem LineIs.wrongs (h : LineIs F H b ws wr) {x : Bool} (hp : Puts H b (0 + 1) [.bool x] H') : LineTo F H b ws x H' := by
  have h0 := h.big
  obtain ⟨h1, h2, a, c, hb, ho, hn, hf⟩ := h
  have hx := hp.ext
  refine ⟨⟨grow_in h1 h0 hx.size, .inl h2, a, c, ?_, ho.ext hx (fun k hk hm => by simp only [List.mem_singleton] at hm; subst hm; exact hn hk), hn, fun k hk => .inl (hf k hk)⟩, hx.lift fun k _ hk => by simp only [List.mem_singleton] at hk; subst hk; exact h2⟩
  have := hp.blk hb (by simp)
  simpa [splice] using this
end

/-- A line of the document's: its text and whether something is bad. -/
def RLine (H : Heap) (b : Nat) (s : ByteArray) (bd : Bool) : Prop := Blk H b [.string s, .bool bd]

/-! ### Events -/
structure Rows (H : Heap) (e : Ev) (da : Option Addr) (dl dc : Nat) (ma : Option Addr) (ml mc : Nat) : Prop where
  data : SRow H 1 dl (.slice da dl dc) (bytesV e.call.data)
  mask : SRow H 1 ml (.slice ma ml mc) (bytesV e.mask)
theorem Rows.ext {H H' : Heap} {e : Ev} {da : Option Addr} {dl dc : Nat} {ma : Option Addr} {ml mc : Nat} (h : Rows H e da dl dc ma ml mc) (hx : Ext [] H H') : Rows H' e da dl dc ma ml mc := ⟨srow_ext h.data hx, srow_ext h.mask hx⟩
theorem Rows.extP {M : Nat → Prop} {H H' : Heap} {e : Ev} {da : Option Addr} {dl dc : Nat} {ma : Option Addr} {ml mc : Nat} (h : Rows H e da dl dc ma ml mc) (hx : ExtP M H H') (h1 : ∀ k ∈ blkOf da, ¬ M k) (h2 : ∀ k ∈ blkOf ma, ¬ M k) : Rows H' e da dl dc ma ml mc :=
  ⟨h.data.extP hx h1, h.mask.extP hx h2⟩
theorem Rows.dl {H : Heap} {e : Ev} {da : Option Addr} {dl dc : Nat} {ma : Option Addr} {ml mc : Nat} (h : Rows H e da dl dc ma ml mc) : e.call.data.length = dl := by have := srow_len h.data; rwa [bytesV_length] at this
theorem Rows.ml {H : Heap} {e : Ev} {da : Option Addr} {dl dc : Nat} {ma : Option Addr} {ml mc : Nat} (h : Rows H e da dl dc ma ml mc) : e.mask.length = ml := by have := srow_len h.mask; rwa [bytesV_length] at this

def evL (e : Ev) (da : Option Addr) (dl dc : Nat) (ma : Option Addr) (ml mc : Nat) : List Value :=
  [.int .i64 e.kind, .string e.name, .string e.to, .string e.more, .int .i64 e.call.kind, .string e.call.path, .string e.call.to, .int .i64 e.call.mode, .float .f64 e.call.time, .int .i64 e.call.pos, .int .i64 e.call.n, .slice da dl dc, .int .i64 e.n, .slice ma ml mc]
abbrev evA (e : Ev) (da : Option Addr) (dl dc : Nat) (ma : Option Addr) (ml mc : Nat) : Value :=
  .agg #[.int .i64 e.kind, .string e.name, .string e.to, .string e.more, .int .i64 e.call.kind, .string e.call.path, .string e.call.to, .int .i64 e.call.mode, .float .f64 e.call.time, .int .i64 e.call.pos, .int .i64 e.call.n, .slice da dl dc, .int .i64 e.n, .slice ma ml mc]
/-- What numbers and lengths may be. -/
structure EvOk (e : Ev) : Prop where
  name : e.name.size ≤ 1000000000
  to : e.to.size ≤ 1000000000
  more : e.more.size ≤ 1000000000
  path : e.call.path.size ≤ 1000000000
  cto : e.call.to.size ≤ 1000000000
  data : e.call.data.length ≤ 1000000000
  mask : e.mask.length ≤ 1000000000
  kind : In64 e.kind
  n : In64 e.n
  ckind : In64 e.call.kind
  mode : In64 e.call.mode
  pos : In64 e.call.pos
  cn : In64 e.call.n
  time : e.call.time < 18446744073709551616
/-- An event's rows stay, whatever is done within F. -/
def Kept (F : Nat → Prop) (H : Heap) (e : Ev) (da : Option Addr) (dl dc : Nat) (ma : Option Addr) (ml mc : Nat) : Prop := ∀ H', ExtP F H H' → Rows H' e da dl dc ma ml mc
section
variable {F F' : Nat → Prop} {H H1 : Heap} {e : Ev} {da ma : Option Addr} {dl dc ml mc : Nat}
theorem Kept.now (h : Kept F H e da dl dc ma ml mc) : Rows H e da dl dc ma ml mc := h H (ExtP.refl _ _)
theorem Kept.step (h : Kept F H e da dl dc ma ml mc) (hx : ExtP F H H1) (hF : ∀ k, F' k → H.size ≤ k ∨ F k) : Kept F' H1 e da dl dc ma ml mc := fun _ hy => h _ (hx.trans' hy hF)
theorem Rows.kept (h : Rows H e da dl dc ma ml mc) (hx : Ext [] H H1) (hF : ∀ k, F k → H.size ≤ k) : Kept F H1 e da dl dc ma ml mc := fun _ hy => h.ext (hx.transP hy hF)
end
def KeptB (F : Nat → Prop) (H : Heap) (a : Option Addr) (n c : Nat) (bs : List UInt8) : Prop := ∀ H', ExtP F H H' → SRow H' 1 n (.slice a n c) (bytesV bs)

end Go.Proofs
end

namespace Go.Proofs.YtmoelmapcdmllaaGreatDoor
open Go.ChangeShapes Go.WideShapes Go.ChangeAt Go.RowKit
open Go.ChangeMaps (open_string shut_string)

theorem own : ownKnob Tryz.prog.godebug = none := by kernel_rfl
theorem laidOut : laidOutB Tryz.prog = true := by kernel_rfl

/-- What a datum lays. -/
def flatD : DataW Unit → List Value
  | .lit (.int k n) => [.int k n]
  | .lit (.string l) => [.string ⟨l.toArray⟩]
  | .agg l => flatDs l
  | _ => []
where flatDs : List (DataW Unit) → List Value
  | [] => []
  | d :: r => flatD d ++ flatDs r

abbrev rangeS : ByteArray := { data := #[118, 97, 108, 117, 101, 32, 111, 117, 116, 32, 111, 102, 32, 114, 97, 110, 103, 101] }
abbrev synS : ByteArray := { data := #[105, 110, 118, 97, 108, 105, 100, 32, 115, 121, 110, 116, 97, 120] }
noncomputable def low : Nat := (World.holding Tryz.prog default ⟨#[], #[], []⟩).heap.size
def laidAt (h : Array Obj) (g : Nat) (cs : Array Value) : Array Obj := h.modify g fun
  | .cells _ t frozen => .cells cs t frozen
  | o => o
/-- A world for the witness: the settled one; the listed variables hold what their initialisers lay. -/
noncomputable def laidWorld (os : Os) : World :=
  let w0 := World.holding Tryz.prog os ⟨#[.cells #[.string rangeS] 179, .cells #[.string synS] 179], #[], []⟩
  { w0 with heap := laidAt (laidAt (laidAt (laidAt (laidAt (laidAt (laidAt (laidAt (laidAt w0.heap 9 (flatD Rows.laid_math_bits_deBruijn32tab).toArray) 10 (flatD Rows.laid_math_bits_deBruijn64tab).toArray) 4 (flatD Rows.laid_internal_strconv_uint64pow10).toArray) 6 (flatD Rows.laid_unicode_utf8_acceptRanges).toArray) 1 (flatD Rows.laid_pentimento_pentimentohand_kinds).toArray) 0 (flatD Rows.laid_pentimento_pentimentoplay_names).toArray) 5 (flatD Rows.laid_unicode_utf8_first).toArray) 8 #[.iface 177 (.pointer (some ⟨low, 0, none⟩))]) 7 #[.iface 177 (.pointer (some ⟨low + 1, 0, none⟩))] }

abbrev theLaid : List (String × DataW Unit) := [("math/bits.deBruijn32tab", Rows.laid_math_bits_deBruijn32tab), ("math/bits.deBruijn64tab", Rows.laid_math_bits_deBruijn64tab), ("internal/strconv.uint64pow10", Rows.laid_internal_strconv_uint64pow10), ("unicode/utf8.acceptRanges", Rows.laid_unicode_utf8_acceptRanges), ("strconv.ErrRange", Rows.laid_strconv_ErrRange), ("strconv.ErrSyntax", Rows.laid_strconv_ErrSyntax), ("pentimento/pentimentohand.kinds", Rows.laid_pentimento_pentimentohand_kinds), ("pentimento/pentimentoplay.names", Rows.laid_pentimento_pentimentoplay_names), ("unicode/utf8.first", Rows.laid_unicode_utf8_first)]

theorem laid_met (os : Os) (args : Array Value) : laidMet Tryz.prog theLaid ((laidWorld os).forCall (fun _ _ => 0) ⟨#[], args, []⟩).memory :=
  laidMet_of_run' 8 (by kernel_rfl) (by kernel_rfl)

theorem laid_tail {P : Program} {x : String × DataW Unit} {r : List (String × DataW Unit)} {W : World} (h : laidMet P (x :: r) W) : laidMet P r W := by
  obtain ⟨name, d⟩ := x
  obtain ⟨ps, ⟨g', t', cs, fuel, p, q, hg', ht', hvar, hd, hr, he⟩, hn, hb⟩ := h
  subst he
  exact ⟨q, hr, (List.nodup_append.1 hn).2.1, fun b off hm => hb b off (List.mem_append_right _ hm)⟩

theorem gT64 : Tryz.prog.globalNamed "math/bits.deBruijn64tab" = some 10 := by kernel_rfl
theorem gT64Type : (Tryz.prog.globals[10]?).map (·.type) = some 176 := by kernel_rfl
theorem cells176 : Tryz.prog.cellsOf 176 = 64 := by kernel_rfl
theorem cells5 : Tryz.prog.cellsOf 5 = 1 := by kernel_rfl
theorem cells3 : Tryz.prog.cellsOf 3 = 1 := by kernel_rfl
theorem cells9 : Tryz.prog.cellsOf 9 = 1 := by kernel_rfl
theorem gP10 : Tryz.prog.globalNamed "internal/strconv.uint64pow10" = some 4 := by kernel_rfl
theorem gP10Type : (Tryz.prog.globals[4]?).map (·.type) = some 153 := by kernel_rfl
theorem cells153 : Tryz.prog.cellsOf 153 = 20 := by kernel_rfl
theorem cells105 : Tryz.prog.cellsOf 105 = 1 := by kernel_rfl
theorem gKinds : Tryz.prog.globalNamed "pentimento/pentimentohand.kinds" = some 1 := by kernel_rfl
theorem gKindsType : (Tryz.prog.globals[1]?).map (·.type) = some 111 := by kernel_rfl
theorem cells111 : Tryz.prog.cellsOf 111 = 24 := by kernel_rfl
theorem gNames : Tryz.prog.globalNamed "pentimento/pentimentoplay.names" = some 0 := by kernel_rfl
theorem gNamesType : (Tryz.prog.globals[0]?).map (·.type) = some 110 := by kernel_rfl
theorem cells110 : Tryz.prog.cellsOf 110 = 7 := by kernel_rfl

abbrev tab64 : List Int := [0, 1, 56, 2, 57, 49, 28, 3, 61, 58, 42, 50, 38, 29, 17, 4, 62, 47, 59, 36, 45, 43, 51, 22, 53, 39, 33, 30, 24, 18, 12, 5, 63, 55, 48, 27, 60, 41, 37, 16, 46, 35, 44, 21, 52, 32, 23, 11, 54, 26, 40, 15, 34, 20, 31, 10, 25, 14, 19, 9, 13, 8, 7, 6]
abbrev kindsT : List Int := [1, 1, 1, 2, 2, 2, 3, 3, 4, 5, 6, 7, 7, 8, 9, 9, 10, 11, 11, 12, 13, 14, 15, 15]

theorem t64 {W : World} (h : laidMet Tryz.prog theLaid W) : T64 W.heap := by
  have h1 : Lib.TabIs Tryz.prog W "math/bits.deBruijn64tab" .u8 tab64 :=
    Lib.tabIs_of_head gT64 gT64Type Tryz.underlying176 Tryz.underlying5 cells5 cells176 (laid_tail h)
  have h2 := h1.cell gT64 15 (by decide)
  rw [Go.Vc.cell_hcell] at h2
  exact h2
theorem var_block {W : World} {name : String} {g : Nat} {cs : Array Value} (hg : Tryz.prog.globalNamed name = some g) (h : W.var? Tryz.prog name = some cs) : ∃ t f, W.heap[g]? = some (.cells cs t f) := by
  unfold World.var? at h
  rw [hg] at h
  simp only [Option.bind_some] at h
  split at h
  · rename_i cs' t f hh
    simp only [Option.some.injEq] at h
    subst h
    exact ⟨t, f, hh⟩
  · cases h
theorem p10 {W : World} (h : laidMet Tryz.prog theLaid W) : ∃ t f, W.heap[4]? = some (.cells (Lib.pow10Tab.map fun z => Value.int .u64 z).toArray t f) := by
  have h1 : Lib.TabIs Tryz.prog W "internal/strconv.uint64pow10" .u64 Lib.pow10Tab :=
    Lib.tabIs_of_head gP10 gP10Type Tryz.underlying153 Tryz.underlying105 cells105 cells153 (laid_tail (laid_tail h))
  exact var_block gP10 h1
theorem kinds {W : World} (h : laidMet Tryz.prog theLaid W) : ∀ j, j < 24 → ∃ n, Go.Vc.hcell W.heap 1 j = some (.int .i64 n) ∧ Go.Vc.In64 n := by
  have h1 : Lib.TabIs Tryz.prog W "pentimento/pentimentohand.kinds" .i64 kindsT :=
    Lib.tabIs_of_head gKinds gKindsType Tryz.underlying111 Tryz.underlying3 cells3 cells111 (laid_tail (laid_tail (laid_tail (laid_tail (laid_tail (laid_tail h))))))
  intro j hj
  have h2 := h1.cell gKinds j (by simpa using hj)
  rw [Go.Vc.cell_hcell] at h2
  have : ∀ j, j < 24 → -9223372036854775808 ≤ kindsT.getD j 0 ∧ kindsT.getD j 0 ≤ 9223372036854775807 := by decide
  exact ⟨_, h2, this j hj⟩
theorem names {W : World} (h : laidMet Tryz.prog theLaid W) : ∀ j, j < 7 → ∃ s : ByteArray, Go.Vc.hcell W.heap 0 j = some (.string s) ∧ s.size ≤ 100 := by
  obtain ⟨ps, ⟨g', t', cs, fuel, p, q, hg', ht', hvar, hd, _, _⟩, _⟩ := laid_tail (laid_tail (laid_tail (laid_tail (laid_tail (laid_tail (laid_tail h))))))
  obtain rfl := Option.some.inj (gNames.symm.trans hg')
  obtain rfl := Option.some.inj (gNamesType.symm.trans ht')
  obtain ⟨t, f, hb⟩ := var_block gNames hvar
  obtain ⟨xs, m, _, hx, hl, hn, hall⟩ := DataW.trod_array Tryz.underlying110 hd
  intro j hj
  have h1 := hall j hj
  rw [cells9, List.getElem?_eq_getElem (by omega)] at h1
  obtain ⟨s, hs, hsx, _⟩ := DataW.trod_string Tryz.underlying9 h1
  have hc : cs[j]? = some (.string s) := by
    have := congrArg (·[0]?) hs
    simpa [List.getElem?_take, List.getElem?_drop] using this
  refine ⟨s, by unfold Go.Vc.hcell; rw [hb]; exact hc, ?_⟩
  have h2 : (xs.map (·.1))[j]? = some (DataW.lit (.string s.data.toList) : DataW Unit) := by
    rw [List.getElem?_map, List.getElem?_eq_getElem (by omega), hsx]; rfl
  have h3 := congrArg Prod.fst hx
  simp only [Rows.laid_pentimento_pentimentoplay_names, DataW.agg.injEq] at h3
  rw [← h3] at h2
  have h4 : s.data.toList.length ≤ 4 := by
    match j, hj with
    | 0, _ => simp at h2; rw [← h2]; decide
    | 1, _ => simp at h2; rw [← h2]; decide
    | 2, _ => simp at h2; rw [← h2]; decide
    | 3, _ => simp at h2; rw [← h2]; decide
    | 4, _ => simp at h2; rw [← h2]; decide
    | 5, _ => simp at h2; rw [← h2]; decide
    | 6, _ => simp at h2; rw [← h2]; decide
  have h5 : s.data.toList.length = s.size := Array.length_toList
  omega
theorem star : "*" ++ "errors.errorString" = "*errors.errorString" := by decide
theorem row177 (u : TypeId) (h : Tryz.prog.typeName? 3 u = some "*errors.errorString") : u = 177 :=
  typeName_ptr_named (nm := "errors.errorString") (by rw [star]; kernel_rfl) (by kernel_rfl) (by decide) u (by rw [star]; exact h)
theorem gSyn : Tryz.prog.globalNamed "strconv.ErrSyntax" = some 7 := by kernel_rfl
theorem gRng : Tryz.prog.globalNamed "strconv.ErrRange" = some 8 := by kernel_rfl
theorem gSynType : (Tryz.prog.globals[7]?).map (·.type) = some 100 := by kernel_rfl
theorem gRngType : (Tryz.prog.globals[8]?).map (·.type) = some 100 := by kernel_rfl
theorem cells179 : Tryz.prog.cellsOf 179 = 1 := by kernel_rfl
theorem errs {W : World} (h : laidMet Tryz.prog theLaid W) : ErrH W.heap := by
  have h3 := laid_tail (laid_tail (laid_tail (laid_tail h)))
  obtain ⟨a0, s0, hv0, -, -, -⟩ := laid_sentinel h3 gRng gRngType Tryz.underlying100 row177 Tryz.underlying177 Tryz.underlying179 rfl rfl Tryz.underlying9 cells179 cells9
  obtain ⟨a1, s1, hv1, -, -, -⟩ := laid_sentinel (laid_tail h3) gSyn gSynType Tryz.underlying100 row177 Tryz.underlying177 Tryz.underlying179 rfl rfl Tryz.underlying9 cells179 cells9
  have c0 := World.var?_cell gRng hv0 0
  have c1 := World.var?_cell gSyn hv1 0
  rw [Go.Vc.cell_hcell] at c0 c1
  exact ⟨⟨_, _, by simpa using c1⟩, ⟨_, _, by simpa using c0⟩⟩
theorem glob {W : World} (h : laidMet Tryz.prog theLaid W) (hsh : W.ShapedOpen Tryz.prog) : Glob W.heap := by
  refine ⟨t64 h, p10 h, errs h, names h, kinds h, ?_⟩
  obtain ⟨m, hm⟩ := cell_of_shapedOpen_int (P := Tryz.prog) (g := 3) (t := 3) (zero := #[.int .i64 0]) hsh (of_decide_eq_true (by kernel_rfl)) (by kernel_rfl) rfl (by kernel_rfl) (by kernel_rfl) Tryz.underlying3
  rw [Go.Vc.cell_hcell] at hm
  exact ⟨m, hm⟩

/-- The measure of the rows' second form. -/
theorem bulkAll_mem {H : Type} {d : DataW H} {l : List (DataW H)} (h : d ∈ l) : Rows.uptoBulk d ≤ Rows.uptoBulkAll l := by
  induction l with
  | nil => cases h
  | cons x r ih =>
    simp only [Rows.uptoBulkAll]
    cases List.mem_cons.1 h with
    | inl e => subst e; omega
    | inr e => have := ih e; omega
theorem bulk_one {H : Type} (d : DataW H) : 1 ≤ Rows.uptoBulk d := by
  cases d with
  | lit l => cases l <;> simp [Rows.uptoBulk]
  | nil => simp [Rows.uptoBulk]
  | ptr d => simp [Rows.uptoBulk]
  | slice elems spare => simp [Rows.uptoBulk]
  | agg parts => simp [Rows.uptoBulk]
  | iface t d => simp [Rows.uptoBulk]
  | map entries => simp [Rows.uptoBulk]
  | held h => simp [Rows.uptoBulk]
theorem bulk_len {H : Type} (l : List (DataW H)) : l.length ≤ Rows.uptoBulkAll l := by
  induction l with
  | nil => simp [Rows.uptoBulkAll]
  | cons x r ih => have := bulk_one x; simp only [Rows.uptoBulkAll, List.length_cons]; omega
theorem bulk {H : Type} : Go.Vc.BulkOk (H := H) Rows.uptoBulk where
  str l := by simp [Rows.uptoBulk]
  elems es rs := by have := bulk_len es; simp only [Rows.uptoBulk]; omega
  elem es rs x hx := by have := bulkAll_mem hx; simp only [Rows.uptoBulk]; omega
  part ps x hx := by have := bulkAll_mem hx; simp only [Rows.uptoBulk]; omega
theorem bound {H : Type} {l : List (DataW H)} (hk : Rows.uptoSmall H l = true) : Rows.uptoBulkAll l ≤ 1048576 := of_decide_eq_true hk
theorem bound_at {H : Type} {l : List (DataW H)} (hk : Rows.uptoSmall H l = true) {d : DataW H} (h : d ∈ l) : Rows.uptoBulk d ≤ 1048576 := Nat.le_trans (bulkAll_mem h) (bound hk)
end Go.Proofs.YtmoelmapcdmllaaGreatDoor

section
open Go Go.Vc
namespace Go.Proofs
set_option maxRecDepth 100000
/-- pentimento/script.form -/
theorem FormV (x0 : Int) (H : Heap) (R : Value → Heap → Prop) : Walk Tryz.prog 24 [] [(.int .i64 x0)] H R = (
 ∀ b1 : Nat, ∀ H2 : Heap, New H b1 [(.string (ByteArray.mk #[])), (.string (ByteArray.mk #[99, 97, 108, 108, 32, 115])), (.string (ByteArray.mk #[102, 114, 101, 101, 122, 101, 32, 115, 111])), (.string (ByteArray.mk #[102, 111, 114, 107, 32, 115, 111])), (.string (ByteArray.mk #[100, 105, 102, 102, 32, 115, 111])), (.string (ByteArray.mk #[97, 112, 112, 108, 121, 32, 115, 111, 114])), (.string (ByteArray.mk #[109, 101, 114, 103, 101, 32, 115, 111, 114])), (.string (ByteArray.mk #[114, 101, 98, 97, 115, 101, 32, 115, 111])), (.string (ByteArray.mk #[100, 114, 111, 112, 32, 115])), (.string (ByteArray.mk #[115, 121, 110, 99])), (.string (ByteArray.mk #[102, 117, 115, 101, 32, 110])), (.string (ByteArray.mk #[99, 114, 97, 115, 104, 32, 107]))] 9 H2 → (
 Does Tryz.prog 50 [(.slice (some (⟨b1, 0, none⟩ : Addr)) 12 12), (.int .i64 x0)] H2 fun v3 H4 => ∃ s5 : ByteArray, ∃ s6 : ByteArray, v3 = (.tuple #[(.string s5), (.string s6)]) ∧ (
 R (.tuple #[(.string s5), (.string s6)]) H4))) := by kernel_rfl


/-- pentimento/script.callForm -/
theorem CFormV (x0 : Int) (H : Heap) (R : Value → Heap → Prop) : Walk Tryz.prog 26 [] [(.int .i64 x0)] H R = (
 ∀ b1 : Nat, ∀ H2 : Heap, New H b1 [(.string (ByteArray.mk #[])), (.string (ByteArray.mk #[109, 107, 100, 105, 114, 32, 112, 109, 116])), (.string (ByteArray.mk #[99, 114, 101, 97, 116, 101, 32, 112, 109, 116, 100])), (.string (ByteArray.mk #[119, 114, 105, 116, 101, 32, 112, 97, 100])), (.string (ByteArray.mk #[116, 114, 117, 110, 99, 97, 116, 101, 32, 112, 122])), (.string (ByteArray.mk #[117, 110, 108, 105, 110, 107, 32, 112])), (.string (ByteArray.mk #[114, 109, 100, 105, 114, 32, 112])), (.string (ByteArray.mk #[115, 121, 109, 108, 105, 110, 107, 32, 112, 116, 100])), (.string (ByteArray.mk #[114, 101, 97, 100, 108, 105, 110, 107, 32, 112])), (.string (ByteArray.mk #[114, 101, 110, 97, 109, 101, 32, 112, 113])), (.string (ByteArray.mk #[99, 104, 109, 111, 100, 32, 112, 109])), (.string (ByteArray.mk #[117, 116, 105, 109, 101, 32, 112, 116])), (.string (ByteArray.mk #[115, 116, 97, 116, 32, 112])), (.string (ByteArray.mk #[108, 115, 116, 97, 116, 32, 112])), (.string (ByteArray.mk #[114, 101, 97, 100, 32, 112, 97, 122])), (.string (ByteArray.mk #[108, 105, 115, 116, 32, 112]))] 9 H2 → (
 Does Tryz.prog 50 [(.slice (some (⟨b1, 0, none⟩ : Addr)) 16 16), (.int .i64 x0)] H2 fun v3 H4 => ∃ s5 : ByteArray, ∃ s6 : ByteArray, v3 = (.tuple #[(.string s5), (.string s6)]) ∧ (
 R (.tuple #[(.string s5), (.string s6)]) H4))) := by kernel_rfl


/-- pentimento/script.formed -/
theorem FormedV (x0 : Option Addr) (x0l : Nat) (x0c : Nat) (x1 : Int) (H : Heap) (R : Value → Heap → Prop) : Walk Tryz.prog 50 [] [(.slice x0 x0l x0c), (.int .i64 x1)] H R = (
 ((((x1 : Int) < 1) → (
 R (.tuple #[(.string (ByteArray.mk #[])), (.string (ByteArray.mk #[]))]) H)) ∧ (¬ ((x1 : Int) < 1) → (
 (((((x0l : Int) : Int) ≤ x1) → (
 R (.tuple #[(.string (ByteArray.mk #[])), (.string (ByteArray.mk #[]))]) H)) ∧ (¬ (((x0l : Int) : Int) ≤ x1) → (
 (0 : Int) ≤ x1 ∧ (x1 : Int) < (x0l : Int) ∧ ∃ b1 o2 : Nat, x0 = some (⟨b1, o2, none⟩ : Addr) ∧ (
 ∃ s3 : ByteArray, hcell H b1 (o2 + (Int.toNat x1)) = some (.string s3) ∧ (
 Does Tryz.prog 71 [(.string s3), (.string (ByteArray.mk #[32]))] H fun v4 H5 => ∃ s6 : ByteArray, ∃ s7 : ByteArray, ∃ t8 : Bool, v4 = (.tuple #[(.string s6), (.string s7), (.bool t8)]) ∧ (
 R (.tuple #[(.string s6), (.string s7)]) H5)))))))))) := by kernel_rfl


/-- (*pentimento/script.line).word -/
theorem WordV (x0 : Option Addr) (x1 : ByteArray) (H : Heap) (R : Value → Heap → Prop) : Walk Tryz.prog 35 [] [(.pointer x0), (.string x1)] H R = (
 ∃ b1 o2 : Nat, x0 = some (⟨b1, o2, none⟩ : Addr) ∧ (
 ∃ a3 : Option Addr, ∃ l4 : Nat, ∃ c5 : Nat, hcell H b1 o2 = some (.slice a3 l4 c5) ∧ (
 ∀ b6 : Nat, ∀ H7 : Heap, New H b6 [(.string x1)] 9 H7 → (
 ∃ old8 new9 : List Value, SRow H7 1 l4 (.slice a3 l4 c5) old8 ∧ SRow H7 1 1 (.slice (some (⟨b6, 0, none⟩ : Addr)) 1 1) new9 ∧ (∀ u ∈ new9, Value.oneCell' u = true) ∧ (l4 + 1) * 16 ≤ 140737488355328 ∧ (l4 + 1 ≤ c5 → roomOf H7 a3 (l4 * 1) (1 * 1)) ∧ ∀ a10 : Option Addr, ∀ c11 : Nat, ∀ H12 : Heap, App H7 1 9 [(.string (ByteArray.mk #[]))] a3 l4 c5 old8 new9 1 a10 c11 H12 → (
 ∃ b13 o14 : Nat, x0 = some (⟨b13, o14, none⟩ : Addr) ∧ (
 Cells H12 b13 o14 1 ∧ ∀ H15 : Heap, Puts H12 b13 o14 [(.slice a10 (l4 + 1) c11)] H15 → (
 R (.tuple #[]) H15))))))) := by kernel_rfl


/-- (*pentimento/script.line).number -/
theorem NumberV (x0 : Option Addr) (x1 : Int) (H : Heap) (R : Value → Heap → Prop) : Walk Tryz.prog 36 [] [(.pointer x0), (.int .i64 x1)] H R = (
 ∃ b1 o2 : Nat, x0 = some (⟨b1, o2, none⟩ : Addr) ∧ (
 ∃ t3 : Bool, hcell H b1 (o2 + 1) = some (.bool t3) ∧ (
 ((t3 = true → (
 ∃ b4 o5 : Nat, x0 = some (⟨b4, o5, none⟩ : Addr) ∧ (
 Cells H b4 (o5 + 1) 1 ∧ ∀ H6 : Heap, Puts H b4 (o5 + 1) [(.bool true)] H6 → (
 Does Tryz.prog 58 [(.int .i64 x1)] H6 fun v7 H8 => ∃ s9 : ByteArray, v7 = (.string s9) ∧ (
 Does Tryz.prog 35 [(.pointer x0), (.string s9)] H8 fun v10 H11 => v10 = (.tuple #[]) ∧ (
 R (.tuple #[]) H11)))))) ∧ (t3 = false → (
 ((((x1 : Int) < 0) → (
 ∃ b12 o13 : Nat, x0 = some (⟨b12, o13, none⟩ : Addr) ∧ (
 Cells H b12 (o13 + 1) 1 ∧ ∀ H14 : Heap, Puts H b12 (o13 + 1) [(.bool true)] H14 → (
 Does Tryz.prog 58 [(.int .i64 x1)] H14 fun v15 H16 => ∃ s17 : ByteArray, v15 = (.string s17) ∧ (
 Does Tryz.prog 35 [(.pointer x0), (.string s17)] H16 fun v18 H19 => v18 = (.tuple #[]) ∧ (
 R (.tuple #[]) H19)))))) ∧ (¬ ((x1 : Int) < 0) → (
 ∃ b20 o21 : Nat, x0 = some (⟨b20, o21, none⟩ : Addr) ∧ (
 Cells H b20 (o21 + 1) 1 ∧ ∀ H22 : Heap, Puts H b20 (o21 + 1) [(.bool (@decide ((999999 : Int) < x1) (Classical.propDecidable _)))] H22 → (
 Does Tryz.prog 58 [(.int .i64 x1)] H22 fun v23 H24 => ∃ s25 : ByteArray, v23 = (.string s25) ∧ (
 Does Tryz.prog 35 [(.pointer x0), (.string s25)] H24 fun v26 H27 => v26 = (.tuple #[]) ∧ (
 R (.tuple #[]) H27))))))))))))) := by kernel_rfl


/-- (*pentimento/script.line).text -/
theorem TextLV (x0 : Option Addr) (x1 : ByteArray) (H : Heap) (R : Value → Heap → Prop) : Walk Tryz.prog 38 [] [(.pointer x0), (.string x1)] H R = (
 ∃ b1 o2 : Nat, x0 = some (⟨b1, o2, none⟩ : Addr) ∧ (
 ∃ t3 : Bool, hcell H b1 (o2 + 1) = some (.bool t3) ∧ (
 ((t3 = true → (
 ∃ b4 o5 : Nat, x0 = some (⟨b4, o5, none⟩ : Addr) ∧ (
 Cells H b4 (o5 + 1) 1 ∧ ∀ H6 : Heap, Puts H b4 (o5 + 1) [(.bool true)] H6 → (
 Does Tryz.prog 62 [(.string x1)] H6 fun v7 H8 => ∃ s9 : ByteArray, v7 = (.string s9) ∧ (
 Does Tryz.prog 35 [(.pointer x0), (.string s9)] H8 fun v10 H11 => v10 = (.tuple #[]) ∧ (
 R (.tuple #[]) H11)))))) ∧ (t3 = false → (
 ∃ b12 o13 : Nat, x0 = some (⟨b12, o13, none⟩ : Addr) ∧ (
 Cells H b12 (o13 + 1) 1 ∧ ∀ H14 : Heap, Puts H b12 (o13 + 1) [(.bool (@decide ((200 : Int) < (ByteArray.size x1 : Int)) (Classical.propDecidable _)))] H14 → (
 Does Tryz.prog 62 [(.string x1)] H14 fun v15 H16 => ∃ s17 : ByteArray, v15 = (.string s17) ∧ (
 Does Tryz.prog 35 [(.pointer x0), (.string s17)] H16 fun v18 H19 => v18 = (.tuple #[]) ∧ (
 R (.tuple #[]) H19)))))))))) := by kernel_rfl


/-- (*pentimento/script.line).bytes -/
theorem BytesLV (x0 : Option Addr) (x1 : Option Addr) (x1l : Nat) (x1c : Nat) (H : Heap) (R : Value → Heap → Prop) : Walk Tryz.prog 39 [] [(.pointer x0), (.slice x1 x1l x1c)] H R = (
 ∃ b1 o2 : Nat, x0 = some (⟨b1, o2, none⟩ : Addr) ∧ (
 ∃ t3 : Bool, hcell H b1 (o2 + 1) = some (.bool t3) ∧ (
 ((t3 = true → (
 ∃ b4 o5 : Nat, x0 = some (⟨b4, o5, none⟩ : Addr) ∧ (
 Cells H b4 (o5 + 1) 1 ∧ ∀ H6 : Heap, Puts H b4 (o5 + 1) [(.bool true)] H6 → (
 Does Tryz.prog 63 [(.slice x1 x1l x1c)] H6 fun v7 H8 => ∃ s9 : ByteArray, v7 = (.string s9) ∧ (
 Does Tryz.prog 35 [(.pointer x0), (.string s9)] H8 fun v10 H11 => v10 = (.tuple #[]) ∧ (
 R (.tuple #[]) H11)))))) ∧ (t3 = false → (
 ∃ b12 o13 : Nat, x0 = some (⟨b12, o13, none⟩ : Addr) ∧ (
 Cells H b12 (o13 + 1) 1 ∧ ∀ H14 : Heap, Puts H b12 (o13 + 1) [(.bool (@decide ((3000 : Int) < (x1l : Int)) (Classical.propDecidable _)))] H14 → (
 Does Tryz.prog 63 [(.slice x1 x1l x1c)] H14 fun v15 H16 => ∃ s17 : ByteArray, v15 = (.string s17) ∧ (
 Does Tryz.prog 35 [(.pointer x0), (.string s17)] H16 fun v18 H19 => v18 = (.tuple #[]) ∧ (
 R (.tuple #[]) H19)))))))))) := by kernel_rfl


/-- pentimento/script.text -/
theorem TextWV (x0 : ByteArray) (H : Heap) (R : Value → Heap → Prop) : Walk Tryz.prog 62 [] [(.string x0)] H R = (
 Does Tryz.prog 83 [(.string x0)] H fun v1 H2 => ∃ t3 : Bool, v1 = (.bool t3) ∧ (
 ((t3 = true → (
 R (.string x0) H2)) ∧ (t3 = false → (
 ∀ c4 b5 : Nat, ∀ H6 : Heap, NewB H2 b5 x0 c4 5 H6 → (
 Does Tryz.prog 63 [(.slice (some (⟨b5, 0, none⟩ : Addr)) (ByteArray.size x0) c4)] H6 fun v7 H8 => ∃ s9 : ByteArray, v7 = (.string s9) ∧ (
 R (.string s9) H8))))))) := by kernel_rfl


/-- pentimento/script.hexed -/
theorem HexedV (x0 : Option Addr) (x0l : Nat) (x0c : Nat) (H : Heap) (R : Value → Heap → Prop) : Walk Tryz.prog 63 [] [(.slice x0 x0l x0c)] H R = (
 ∀ b1 : Nat, ∀ H2 : Heap, New H b1 [(.pointer none), (.slice none 0 0)] 98 H2 → (
 Does Tryz.prog 84 [(.pointer (some (⟨b1, 0, none⟩ : Addr))), (.int .u8 37)] H2 fun v3 H4 => ∃ v5 : Value, v3 = v5 ∧ (
 ∃ I6 : Int → Heap → Prop, ∃ μ7 : Int → Heap → Nat, (I6 0 H4) ∧
 ∀ n8 : Int, ∀ H9 : Heap, I6 n8 H9 → (
 ((((n8 : Int) < (x0l : Int)) → (
 (0 : Int) ≤ n8 ∧ (n8 : Int) < (x0l : Int) ∧ ∃ b10 o11 : Nat, x0 = some (⟨b10, o11, none⟩ : Addr) ∧ (
 ∃ n12 : Int, hcell H9 b10 (o11 + (Int.toNat n8)) = some (.int .u8 n12) ∧ (
 ((0 : Int) ≤ 4) ∧
 ∀ q13 : Int, q13 = Int.fdiv n12 (2 ^ (min (Int.toNat 4) (IntKind.bits .u8))) → (
 (0 : Int) ≤ q13 ∧ (q13 : Int) < (ByteArray.size (ByteArray.mk #[48, 49, 50, 51, 52, 53, 54, 55, 56, 57, 97, 98, 99, 100, 101, 102]) : Int) ∧ ∀ q14 : Int, q14 = (((ByteArray.data (ByteArray.mk #[48, 49, 50, 51, 52, 53, 54, 55, 56, 57, 97, 98, 99, 100, 101, 102])).toList.getD (Int.toNat q13) 0).toNat : Int) → (
 Does Tryz.prog 84 [(.pointer (some (⟨b1, 0, none⟩ : Addr))), (.int .u8 q14)] H9 fun v15 H16 => ∃ v17 : Value, v15 = v17 ∧ (
 ∀ q18 : Int, q18 = bits .and .u8 n12 15 → (
 (0 : Int) ≤ q18 ∧ (q18 : Int) < (ByteArray.size (ByteArray.mk #[48, 49, 50, 51, 52, 53, 54, 55, 56, 57, 97, 98, 99, 100, 101, 102]) : Int) ∧ ∀ q19 : Int, q19 = (((ByteArray.data (ByteArray.mk #[48, 49, 50, 51, 52, 53, 54, 55, 56, 57, 97, 98, 99, 100, 101, 102])).toList.getD (Int.toNat q18) 0).toNat : Int) → (
 Does Tryz.prog 84 [(.pointer (some (⟨b1, 0, none⟩ : Addr))), (.int .u8 q19)] H16 fun v20 H21 => ∃ v22 : Value, v20 = v22 ∧ (
 (In64 (n8 + 1)) ∧
 (I6 (n8 + 1) H21) ∧ μ7 (n8 + 1) H21 < μ7 n8 H9)))))))))) ∧ (¬ ((n8 : Int) < (x0l : Int)) → (
 Does Tryz.prog 57 [(.pointer (some (⟨b1, 0, none⟩ : Addr)))] H9 fun v23 H24 => ∃ s25 : ByteArray, v23 = (.string s25) ∧ (
 R (.string s25) H24)))))))) := by kernel_rfl


/-- pentimento/script.plain -/
theorem PlainTV (x0 : ByteArray) (H : Heap) (R : Value → Heap → Prop) : Walk Tryz.prog 83 [] [(.string x0)] H R = (
 ∀ c1 b2 : Nat, ∀ H3 : Heap, NewB H b2 x0 c1 5 H3 → (
 ∃ I4 : Int → Heap → Prop, ∃ μ5 : Int → Heap → Nat, (I4 0 H3) ∧
 ∀ n6 : Int, ∀ H7 : Heap, I4 n6 H7 → (
 ((((n6 : Int) < ((ByteArray.size x0) : Int)) → (
 (0 : Int) ≤ n6 ∧ (n6 : Int) < ((ByteArray.size x0) : Int) ∧ ∃ b8 o9 : Nat, (some (⟨b2, 0, none⟩ : Addr)) = some (⟨b8, o9, none⟩ : Addr) ∧ (
 ∃ n10 : Int, hcell H7 b8 (o9 + (Int.toNat n6)) = some (.int .u8 n10) ∧ (
 ((((97 : Int) ≤ n10) → (
 ((((n10 : Int) ≤ 122) → (
 (In64 (n6 + 1)) ∧
 (I4 (n6 + 1) H7) ∧ μ5 (n6 + 1) H7 < μ5 n6 H7)) ∧ (¬ ((n10 : Int) ≤ 122) → (
 ((((48 : Int) ≤ n10) → (
 ((((n10 : Int) ≤ 57) → (
 (In64 (n6 + 1)) ∧
 (I4 (n6 + 1) H7) ∧ μ5 (n6 + 1) H7 < μ5 n6 H7)) ∧ (¬ ((n10 : Int) ≤ 57) → (
 ((((n10 : Int) = 47) → (
 (In64 (n6 + 1)) ∧
 (I4 (n6 + 1) H7) ∧ μ5 (n6 + 1) H7 < μ5 n6 H7)) ∧ (¬ ((n10 : Int) = 47) → (
 ((((n10 : Int) = 46) → (
 (In64 (n6 + 1)) ∧
 (I4 (n6 + 1) H7) ∧ μ5 (n6 + 1) H7 < μ5 n6 H7)) ∧ (¬ ((n10 : Int) = 46) → (
 ((((n10 : Int) = 45) → (
 (In64 (n6 + 1)) ∧
 (I4 (n6 + 1) H7) ∧ μ5 (n6 + 1) H7 < μ5 n6 H7)) ∧ (¬ ((n10 : Int) = 45) → (
 (((¬ ((n10 : Int) = 95)) → (
 R (.bool false) H7)) ∧ (¬ (¬ ((n10 : Int) = 95)) → (
 (In64 (n6 + 1)) ∧
 (I4 (n6 + 1) H7) ∧ μ5 (n6 + 1) H7 < μ5 n6 H7))))))))))))))))) ∧ (¬ ((48 : Int) ≤ n10) → (
 ((((n10 : Int) = 47) → (
 (In64 (n6 + 1)) ∧
 (I4 (n6 + 1) H7) ∧ μ5 (n6 + 1) H7 < μ5 n6 H7)) ∧ (¬ ((n10 : Int) = 47) → (
 ((((n10 : Int) = 46) → (
 (In64 (n6 + 1)) ∧
 (I4 (n6 + 1) H7) ∧ μ5 (n6 + 1) H7 < μ5 n6 H7)) ∧ (¬ ((n10 : Int) = 46) → (
 ((((n10 : Int) = 45) → (
 (In64 (n6 + 1)) ∧
 (I4 (n6 + 1) H7) ∧ μ5 (n6 + 1) H7 < μ5 n6 H7)) ∧ (¬ ((n10 : Int) = 45) → (
 (((¬ ((n10 : Int) = 95)) → (
 R (.bool false) H7)) ∧ (¬ (¬ ((n10 : Int) = 95)) → (
 (In64 (n6 + 1)) ∧
 (I4 (n6 + 1) H7) ∧ μ5 (n6 + 1) H7 < μ5 n6 H7)))))))))))))))))))) ∧ (¬ ((97 : Int) ≤ n10) → (
 ((((48 : Int) ≤ n10) → (
 ((((n10 : Int) ≤ 57) → (
 (In64 (n6 + 1)) ∧
 (I4 (n6 + 1) H7) ∧ μ5 (n6 + 1) H7 < μ5 n6 H7)) ∧ (¬ ((n10 : Int) ≤ 57) → (
 ((((n10 : Int) = 47) → (
 (In64 (n6 + 1)) ∧
 (I4 (n6 + 1) H7) ∧ μ5 (n6 + 1) H7 < μ5 n6 H7)) ∧ (¬ ((n10 : Int) = 47) → (
 ((((n10 : Int) = 46) → (
 (In64 (n6 + 1)) ∧
 (I4 (n6 + 1) H7) ∧ μ5 (n6 + 1) H7 < μ5 n6 H7)) ∧ (¬ ((n10 : Int) = 46) → (
 ((((n10 : Int) = 45) → (
 (In64 (n6 + 1)) ∧
 (I4 (n6 + 1) H7) ∧ μ5 (n6 + 1) H7 < μ5 n6 H7)) ∧ (¬ ((n10 : Int) = 45) → (
 (((¬ ((n10 : Int) = 95)) → (
 R (.bool false) H7)) ∧ (¬ (¬ ((n10 : Int) = 95)) → (
 (In64 (n6 + 1)) ∧
 (I4 (n6 + 1) H7) ∧ μ5 (n6 + 1) H7 < μ5 n6 H7))))))))))))))))) ∧ (¬ ((48 : Int) ≤ n10) → (
 ((((n10 : Int) = 47) → (
 (In64 (n6 + 1)) ∧
 (I4 (n6 + 1) H7) ∧ μ5 (n6 + 1) H7 < μ5 n6 H7)) ∧ (¬ ((n10 : Int) = 47) → (
 ((((n10 : Int) = 46) → (
 (In64 (n6 + 1)) ∧
 (I4 (n6 + 1) H7) ∧ μ5 (n6 + 1) H7 < μ5 n6 H7)) ∧ (¬ ((n10 : Int) = 46) → (
 ((((n10 : Int) = 45) → (
 (In64 (n6 + 1)) ∧
 (I4 (n6 + 1) H7) ∧ μ5 (n6 + 1) H7 < μ5 n6 H7)) ∧ (¬ ((n10 : Int) = 45) → (
 (((¬ ((n10 : Int) = 95)) → (
 R (.bool false) H7)) ∧ (¬ (¬ ((n10 : Int) = 95)) → (
 (In64 (n6 + 1)) ∧
 (I4 (n6 + 1) H7) ∧ μ5 (n6 + 1) H7 < μ5 n6 H7)))))))))))))))))))))) ∧ (¬ ((n6 : Int) < ((ByteArray.size x0) : Int)) → (
 ((((x0 : ByteArray) ≠ (ByteArray.mk #[])) → (
 R (.bool (@decide (((ByteArray.size x0 : Int) : Int) ≤ 120) (Classical.propDecidable _))) H7)) ∧ (¬ ((x0 : ByteArray) ≠ (ByteArray.mk #[])) → (
 R (.bool false) H7))))))))) := by kernel_rfl


/-- (*pentimento/script.line).form -/
theorem LFormV (x0 : Option Addr) (x1_0 : Int) (x1_1 : ByteArray) (x1_2 : ByteArray) (x1_3 : ByteArray) (x1_4 : Int) (x1_5 : ByteArray) (x1_6 : ByteArray) (x1_7 : Int) (x1_8 : Nat) (x1_9 : Int) (x1_10 : Int) (x1_11 : Option Addr) (x1_11l : Nat) (x1_11c : Nat) (x1_12 : Int) (x1_13 : Option Addr) (x1_13l : Nat) (x1_13c : Nat) (x2 : ByteArray) (x3 : ByteArray) (H : Heap) (R : Value → Heap → Prop) : Walk Tryz.prog 33 [(2, [(3, (.string (ByteArray.mk #[])))])] [(.pointer x0), (.agg #[(.int .i64 x1_0), (.string x1_1), (.string x1_2), (.string x1_3), (.int .i64 x1_4), (.string x1_5), (.string x1_6), (.int .i64 x1_7), (.float .f64 x1_8), (.int .i64 x1_9), (.int .i64 x1_10), (.slice x1_11 x1_11l x1_11c), (.int .i64 x1_12), (.slice x1_13 x1_13l x1_13c)]), (.string x2), (.string x3)] H R = (
 ∀ b1 : Nat, ∀ H2 : Heap, New H b1 [(.int .i64 x1_0), (.string x1_1), (.string x1_2), (.string x1_3), (.int .i64 x1_4), (.string x1_5), (.string x1_6), (.int .i64 x1_7), (.float .f64 x1_8), (.int .i64 x1_9), (.int .i64 x1_10), (.slice x1_11 x1_11l x1_11c), (.int .i64 x1_12), (.slice x1_13 x1_13l x1_13c)] 33 H2 → (
 ∃ I3 : ByteArray → Heap → Prop, (
 ∃ b4 o5 : Nat, x0 = some (⟨b4, o5, none⟩ : Addr) ∧ (
 ∃ t6 : Bool, hcell H2 b4 (o5 + 1) = some (.bool t6) ∧ (
 ((t6 = true → (
 ∃ b7 o8 : Nat, x0 = some (⟨b7, o8, none⟩ : Addr) ∧ (
 Cells H2 b7 (o8 + 1) 1 ∧ ∀ H9 : Heap, Puts H2 b7 (o8 + 1) [(.bool true)] H9 → (
 I3 x3 H9)))) ∧ (t6 = false → (
 ∃ b10 o11 : Nat, x0 = some (⟨b10, o11, none⟩ : Addr) ∧ (
 Cells H2 b10 (o11 + 1) 1 ∧ ∀ H12 : Heap, Puts H2 b10 (o11 + 1) [(.bool (@decide ((x2 : ByteArray) = (ByteArray.mk #[])) (Classical.propDecidable _)))] H12 → (
 I3 x3 H12)))))))) ∧
 ∀ s13 : ByteArray, ∀ H14 : Heap, I3 s13 H14 → (
 Does Tryz.prog 35 [(.pointer x0), (.string x2)] H14 fun v15 H16 => v15 = (.tuple #[]) ∧ (
 ∀ r17 : Nat, ∀ H18 : Heap, NewIter H16 r17 s13 H18 → (
 ∃ I19 : Heap → Prop, ∃ μ20 : Heap → Nat, (I19 H18) ∧
 ∀ H21 : Heap, I19 H21 → (
 ∃ s22 : ByteArray, ∃ n23 : Nat, IterAt H21 r17 s22 n23 ∧ (n23 < ByteArray.size s22 → ∀ q24 : Int, ∀ H25 : Heap, q24 = ((Utf8.decode s22 n23).1 : Int) → IterPut H21 r17 s22 (n23 + (Utf8.decode s22 n23).2) H25 → (
 ((true = true → (
 ∃ n26 : Int, hcell H25 b1 0 = some (.int .i64 n26) ∧ (
 ∃ s27 : ByteArray, hcell H25 b1 (0 + 1) = some (.string s27) ∧ (
 ∃ s28 : ByteArray, hcell H25 b1 ((0 + 1) + 1) = some (.string s28) ∧ (
 ∃ s29 : ByteArray, hcell H25 b1 (((0 + 1) + 1) + 1) = some (.string s29) ∧ (
 ∃ n30 : Int, hcell H25 b1 ((((0 + 1) + 1) + 1) + 1) = some (.int .i64 n30) ∧ (
 ∃ s31 : ByteArray, hcell H25 b1 (((((0 + 1) + 1) + 1) + 1) + 1) = some (.string s31) ∧ (
 ∃ s32 : ByteArray, hcell H25 b1 ((((((0 + 1) + 1) + 1) + 1) + 1) + 1) = some (.string s32) ∧ (
 ∃ n33 : Int, hcell H25 b1 (((((((0 + 1) + 1) + 1) + 1) + 1) + 1) + 1) = some (.int .i64 n33) ∧ (
 ∃ f34 : Nat, hcell H25 b1 ((((((((0 + 1) + 1) + 1) + 1) + 1) + 1) + 1) + 1) = some (.float .f64 f34) ∧ (
 ∃ n35 : Int, hcell H25 b1 (((((((((0 + 1) + 1) + 1) + 1) + 1) + 1) + 1) + 1) + 1) = some (.int .i64 n35) ∧ (
 ∃ n36 : Int, hcell H25 b1 ((((((((((0 + 1) + 1) + 1) + 1) + 1) + 1) + 1) + 1) + 1) + 1) = some (.int .i64 n36) ∧ (
 ∃ a37 : Option Addr, ∃ l38 : Nat, ∃ c39 : Nat, hcell H25 b1 (((((((((((0 + 1) + 1) + 1) + 1) + 1) + 1) + 1) + 1) + 1) + 1) + 1) = some (.slice a37 l38 c39) ∧ (
 ∃ n40 : Int, hcell H25 b1 ((((((((((((0 + 1) + 1) + 1) + 1) + 1) + 1) + 1) + 1) + 1) + 1) + 1) + 1) = some (.int .i64 n40) ∧ (
 ∃ a41 : Option Addr, ∃ l42 : Nat, ∃ c43 : Nat, hcell H25 b1 (((((((((((((0 + 1) + 1) + 1) + 1) + 1) + 1) + 1) + 1) + 1) + 1) + 1) + 1) + 1) = some (.slice a41 l42 c43) ∧ (
 Does Tryz.prog 54 [(.pointer x0), (.agg #[(.int .i64 n26), (.string s27), (.string s28), (.string s29), (.int .i64 n30), (.string s31), (.string s32), (.int .i64 n33), (.float .f64 f34), (.int .i64 n35), (.int .i64 n36), (.slice a37 l38 c39), (.int .i64 n40), (.slice a41 l42 c43)]), (.int .i32 q24)] H25 fun v44 H45 => v44 = (.tuple #[]) ∧ (
 (I19 H45) ∧ μ20 H45 < μ20 H21))))))))))))))))) ∧ (true = false → (
 R (.tuple #[]) H25))))) ∧ (¬ n23 < ByteArray.size s22 → (
 ((false = true → (
 False /- ext -/)) ∧ (false = false → (
 R (.tuple #[]) H21))))))))))) := by kernel_rfl


/-- (*pentimento/script.line).field -/
theorem FieldV (x0 : Option Addr) (x1_0 : Int) (x1_1 : ByteArray) (x1_2 : ByteArray) (x1_3 : ByteArray) (x1_4 : Int) (x1_5 : ByteArray) (x1_6 : ByteArray) (x1_7 : Int) (x1_8 : Nat) (x1_9 : Int) (x1_10 : Int) (x1_11 : Option Addr) (x1_11l : Nat) (x1_11c : Nat) (x1_12 : Int) (x1_13 : Option Addr) (x1_13l : Nat) (x1_13c : Nat) (x2 : Int) (H : Heap) (R : Value → Heap → Prop) : Walk Tryz.prog 54 [] [(.pointer x0), (.agg #[(.int .i64 x1_0), (.string x1_1), (.string x1_2), (.string x1_3), (.int .i64 x1_4), (.string x1_5), (.string x1_6), (.int .i64 x1_7), (.float .f64 x1_8), (.int .i64 x1_9), (.int .i64 x1_10), (.slice x1_11 x1_11l x1_11c), (.int .i64 x1_12), (.slice x1_13 x1_13l x1_13c)]), (.int .i32 x2)] H R = (
 ∀ b1 : Nat, ∀ H2 : Heap, New H b1 [(.int .i64 x1_0), (.string x1_1), (.string x1_2), (.string x1_3), (.int .i64 x1_4), (.string x1_5), (.string x1_6), (.int .i64 x1_7), (.float .f64 x1_8), (.int .i64 x1_9), (.int .i64 x1_10), (.slice x1_11 x1_11l x1_11c), (.int .i64 x1_12), (.slice x1_13 x1_13l x1_13c)] 33 H2 → (
 ∃ n3 : Int, hcell H2 b1 (0 + 4) = some (.int .i64 n3) ∧ (
 ∃ s4 : ByteArray, hcell H2 b1 ((0 + 4) + 1) = some (.string s4) ∧ (
 ∃ s5 : ByteArray, hcell H2 b1 (((0 + 4) + 1) + 1) = some (.string s5) ∧ (
 ∃ n6 : Int, hcell H2 b1 ((((0 + 4) + 1) + 1) + 1) = some (.int .i64 n6) ∧ (
 ∃ f7 : Nat, hcell H2 b1 (((((0 + 4) + 1) + 1) + 1) + 1) = some (.float .f64 f7) ∧ (
 ∃ n8 : Int, hcell H2 b1 ((((((0 + 4) + 1) + 1) + 1) + 1) + 1) = some (.int .i64 n8) ∧ (
 ∃ n9 : Int, hcell H2 b1 (((((((0 + 4) + 1) + 1) + 1) + 1) + 1) + 1) = some (.int .i64 n9) ∧ (
 ∃ a10 : Option Addr, ∃ l11 : Nat, ∃ c12 : Nat, hcell H2 b1 ((((((((0 + 4) + 1) + 1) + 1) + 1) + 1) + 1) + 1) = some (.slice a10 l11 c12) ∧ (
 ∀ b13 : Nat, ∀ H14 : Heap, New H2 b13 [(.int .i64 0), (.string (ByteArray.mk #[])), (.string (ByteArray.mk #[])), (.int .i64 0), (.float .f64 0), (.int .i64 0), (.int .i64 0), (.slice none 0 0)] 31 H14 → (
 Cells H14 b13 0 8 ∧ ∀ H15 : Heap, Puts H14 b13 0 [(.int .i64 n3), (.string s4), (.string s5), (.int .i64 n6), (.float .f64 f7), (.int .i64 n8), (.int .i64 n9), (.slice a10 l11 c12)] H15 → (
 ((((x2 : Int) = 115) → (
 ∃ s16 : ByteArray, hcell H15 b1 (0 + 1) = some (.string s16) ∧ (
 Does Tryz.prog 38 [(.pointer x0), (.string s16)] H15 fun v17 H18 => v17 = (.tuple #[]) ∧ (
 R (.tuple #[]) H18)))) ∧ (¬ ((x2 : Int) = 115) → (
 ((((x2 : Int) = 111) → (
 ∃ s19 : ByteArray, hcell H15 b1 (0 + 2) = some (.string s19) ∧ (
 Does Tryz.prog 38 [(.pointer x0), (.string s19)] H15 fun v20 H21 => v20 = (.tuple #[]) ∧ (
 R (.tuple #[]) H21)))) ∧ (¬ ((x2 : Int) = 111) → (
 ((((x2 : Int) = 114) → (
 ∃ s22 : ByteArray, hcell H15 b1 (0 + 3) = some (.string s22) ∧ (
 Does Tryz.prog 38 [(.pointer x0), (.string s22)] H15 fun v23 H24 => v23 = (.tuple #[]) ∧ (
 R (.tuple #[]) H24)))) ∧ (¬ ((x2 : Int) = 114) → (
 ((((x2 : Int) = 110) → (
 ∃ n25 : Int, hcell H15 b1 (0 + 12) = some (.int .i64 n25) ∧ (
 Does Tryz.prog 36 [(.pointer x0), (.int .i64 n25)] H15 fun v26 H27 => v26 = (.tuple #[]) ∧ (
 R (.tuple #[]) H27)))) ∧ (¬ ((x2 : Int) = 110) → (
 ((((x2 : Int) = 107) → (
 ∃ a28 : Option Addr, ∃ l29 : Nat, ∃ c30 : Nat, hcell H15 b1 (0 + 13) = some (.slice a28 l29 c30) ∧ (
 Does Tryz.prog 39 [(.pointer x0), (.slice a28 l29 c30)] H15 fun v31 H32 => v31 = (.tuple #[]) ∧ (
 R (.tuple #[]) H32)))) ∧ (¬ ((x2 : Int) = 107) → (
 ((((x2 : Int) = 112) → (
 ∃ s33 : ByteArray, hcell H15 b13 (0 + 1) = some (.string s33) ∧ (
 Does Tryz.prog 38 [(.pointer x0), (.string s33)] H15 fun v34 H35 => v34 = (.tuple #[]) ∧ (
 R (.tuple #[]) H35)))) ∧ (¬ ((x2 : Int) = 112) → (
 ((((x2 : Int) = 113) → (
 ∃ s36 : ByteArray, hcell H15 b13 (0 + 2) = some (.string s36) ∧ (
 Does Tryz.prog 38 [(.pointer x0), (.string s36)] H15 fun v37 H38 => v37 = (.tuple #[]) ∧ (
 R (.tuple #[]) H38)))) ∧ (¬ ((x2 : Int) = 113) → (
 ((((x2 : Int) = 109) → (
 ∃ n39 : Int, hcell H15 b13 (0 + 3) = some (.int .i64 n39) ∧ (
 Does Tryz.prog 36 [(.pointer x0), (.int .i64 n39)] H15 fun v40 H41 => v40 = (.tuple #[]) ∧ (
 R (.tuple #[]) H41)))) ∧ (¬ ((x2 : Int) = 109) → (
 ((((x2 : Int) = 116) → (
 ∃ f42 : Nat, hcell H15 b13 (0 + 4) = some (.float .f64 f42) ∧ (
 Does Tryz.prog 37 [(.float .f64 f42)] H15 fun v43 H44 => ∃ s45 : ByteArray, v43 = (.string s45) ∧ (
 Does Tryz.prog 35 [(.pointer x0), (.string s45)] H44 fun v46 H47 => v46 = (.tuple #[]) ∧ (
 R (.tuple #[]) H47))))) ∧ (¬ ((x2 : Int) = 116) → (
 ((((x2 : Int) = 97) → (
 ∃ n48 : Int, hcell H15 b13 (0 + 5) = some (.int .i64 n48) ∧ (
 Does Tryz.prog 36 [(.pointer x0), (.int .i64 n48)] H15 fun v49 H50 => v49 = (.tuple #[]) ∧ (
 R (.tuple #[]) H50)))) ∧ (¬ ((x2 : Int) = 97) → (
 ((((x2 : Int) = 122) → (
 ∃ n51 : Int, hcell H15 b13 (0 + 6) = some (.int .i64 n51) ∧ (
 Does Tryz.prog 36 [(.pointer x0), (.int .i64 n51)] H15 fun v52 H53 => v52 = (.tuple #[]) ∧ (
 R (.tuple #[]) H53)))) ∧ (¬ ((x2 : Int) = 122) → (
 ((((x2 : Int) = 100) → (
 ∃ a54 : Option Addr, ∃ l55 : Nat, ∃ c56 : Nat, hcell H15 b13 (0 + 7) = some (.slice a54 l55 c56) ∧ (
 Does Tryz.prog 39 [(.pointer x0), (.slice a54 l55 c56)] H15 fun v57 H58 => v57 = (.tuple #[]) ∧ (
 R (.tuple #[]) H58)))) ∧ (¬ ((x2 : Int) = 100) → (
 R (.tuple #[]) H15)))))))))))))))))))))))))))))))))))))))))))))))) := by kernel_rfl


/-- pentimento/script.Print -/
theorem PrintV (x0_0 : Int) (x0_1 : ByteArray) (x0_2 : ByteArray) (x0_3 : ByteArray) (x0_4 : Int) (x0_5 : ByteArray) (x0_6 : ByteArray) (x0_7 : Int) (x0_8 : Nat) (x0_9 : Int) (x0_10 : Int) (x0_11 : Option Addr) (x0_11l : Nat) (x0_11c : Nat) (x0_12 : Int) (x0_13 : Option Addr) (x0_13l : Nat) (x0_13c : Nat) (H : Heap) (R : Value → Heap → Prop) : Walk Tryz.prog 13 [] [(.agg #[(.int .i64 x0_0), (.string x0_1), (.string x0_2), (.string x0_3), (.int .i64 x0_4), (.string x0_5), (.string x0_6), (.int .i64 x0_7), (.float .f64 x0_8), (.int .i64 x0_9), (.int .i64 x0_10), (.slice x0_11 x0_11l x0_11c), (.int .i64 x0_12), (.slice x0_13 x0_13l x0_13c)])] H R = (
 ∀ b1 : Nat, ∀ H2 : Heap, New H b1 [(.int .i64 x0_0), (.string x0_1), (.string x0_2), (.string x0_3), (.int .i64 x0_4), (.string x0_5), (.string x0_6), (.int .i64 x0_7), (.float .f64 x0_8), (.int .i64 x0_9), (.int .i64 x0_10), (.slice x0_11 x0_11l x0_11c), (.int .i64 x0_12), (.slice x0_13 x0_13l x0_13c)] 33 H2 → (
 ∀ b3 : Nat, ∀ H4 : Heap, New H2 b3 [(.slice none 0 0), (.bool false)] 81 H4 → (
 ∃ n5 : Int, hcell H4 b1 0 = some (.int .i64 n5) ∧ (
 Does Tryz.prog 24 [(.int .i64 n5)] H4 fun v6 H7 => ∃ s8 : ByteArray, ∃ s9 : ByteArray, v6 = (.tuple #[(.string s8), (.string s9)]) ∧ (
 ∃ n10 : Int, hcell H7 b1 0 = some (.int .i64 n10) ∧ (
 ∃ s11 : ByteArray, hcell H7 b1 (0 + 1) = some (.string s11) ∧ (
 ∃ s12 : ByteArray, hcell H7 b1 ((0 + 1) + 1) = some (.string s12) ∧ (
 ∃ s13 : ByteArray, hcell H7 b1 (((0 + 1) + 1) + 1) = some (.string s13) ∧ (
 ∃ n14 : Int, hcell H7 b1 ((((0 + 1) + 1) + 1) + 1) = some (.int .i64 n14) ∧ (
 ∃ s15 : ByteArray, hcell H7 b1 (((((0 + 1) + 1) + 1) + 1) + 1) = some (.string s15) ∧ (
 ∃ s16 : ByteArray, hcell H7 b1 ((((((0 + 1) + 1) + 1) + 1) + 1) + 1) = some (.string s16) ∧ (
 ∃ n17 : Int, hcell H7 b1 (((((((0 + 1) + 1) + 1) + 1) + 1) + 1) + 1) = some (.int .i64 n17) ∧ (
 ∃ f18 : Nat, hcell H7 b1 ((((((((0 + 1) + 1) + 1) + 1) + 1) + 1) + 1) + 1) = some (.float .f64 f18) ∧ (
 ∃ n19 : Int, hcell H7 b1 (((((((((0 + 1) + 1) + 1) + 1) + 1) + 1) + 1) + 1) + 1) = some (.int .i64 n19) ∧ (
 ∃ n20 : Int, hcell H7 b1 ((((((((((0 + 1) + 1) + 1) + 1) + 1) + 1) + 1) + 1) + 1) + 1) = some (.int .i64 n20) ∧ (
 ∃ a21 : Option Addr, ∃ l22 : Nat, ∃ c23 : Nat, hcell H7 b1 (((((((((((0 + 1) + 1) + 1) + 1) + 1) + 1) + 1) + 1) + 1) + 1) + 1) = some (.slice a21 l22 c23) ∧ (
 ∃ n24 : Int, hcell H7 b1 ((((((((((((0 + 1) + 1) + 1) + 1) + 1) + 1) + 1) + 1) + 1) + 1) + 1) + 1) = some (.int .i64 n24) ∧ (
 ∃ a25 : Option Addr, ∃ l26 : Nat, ∃ c27 : Nat, hcell H7 b1 (((((((((((((0 + 1) + 1) + 1) + 1) + 1) + 1) + 1) + 1) + 1) + 1) + 1) + 1) + 1) = some (.slice a25 l26 c27) ∧ (
 Does Tryz.prog 33 [(.pointer (some (⟨b3, 0, none⟩ : Addr))), (.agg #[(.int .i64 n10), (.string s11), (.string s12), (.string s13), (.int .i64 n14), (.string s15), (.string s16), (.int .i64 n17), (.float .f64 f18), (.int .i64 n19), (.int .i64 n20), (.slice a21 l22 c23), (.int .i64 n24), (.slice a25 l26 c27)]), (.string s8), (.string s9)] H7 fun v28 H29 => v28 = (.tuple #[]) ∧ (
 ∃ n30 : Int, hcell H29 b1 0 = some (.int .i64 n30) ∧ (
 ((((n30 : Int) = 1) → (
 ∃ n31 : Int, hcell H29 b1 (0 + 4) = some (.int .i64 n31) ∧ (
 Does Tryz.prog 26 [(.int .i64 n31)] H29 fun v32 H33 => ∃ s34 : ByteArray, ∃ s35 : ByteArray, v32 = (.tuple #[(.string s34), (.string s35)]) ∧ (
 ∃ n36 : Int, hcell H33 b1 0 = some (.int .i64 n36) ∧ (
 ∃ s37 : ByteArray, hcell H33 b1 (0 + 1) = some (.string s37) ∧ (
 ∃ s38 : ByteArray, hcell H33 b1 ((0 + 1) + 1) = some (.string s38) ∧ (
 ∃ s39 : ByteArray, hcell H33 b1 (((0 + 1) + 1) + 1) = some (.string s39) ∧ (
 ∃ n40 : Int, hcell H33 b1 ((((0 + 1) + 1) + 1) + 1) = some (.int .i64 n40) ∧ (
 ∃ s41 : ByteArray, hcell H33 b1 (((((0 + 1) + 1) + 1) + 1) + 1) = some (.string s41) ∧ (
 ∃ s42 : ByteArray, hcell H33 b1 ((((((0 + 1) + 1) + 1) + 1) + 1) + 1) = some (.string s42) ∧ (
 ∃ n43 : Int, hcell H33 b1 (((((((0 + 1) + 1) + 1) + 1) + 1) + 1) + 1) = some (.int .i64 n43) ∧ (
 ∃ f44 : Nat, hcell H33 b1 ((((((((0 + 1) + 1) + 1) + 1) + 1) + 1) + 1) + 1) = some (.float .f64 f44) ∧ (
 ∃ n45 : Int, hcell H33 b1 (((((((((0 + 1) + 1) + 1) + 1) + 1) + 1) + 1) + 1) + 1) = some (.int .i64 n45) ∧ (
 ∃ n46 : Int, hcell H33 b1 ((((((((((0 + 1) + 1) + 1) + 1) + 1) + 1) + 1) + 1) + 1) + 1) = some (.int .i64 n46) ∧ (
 ∃ a47 : Option Addr, ∃ l48 : Nat, ∃ c49 : Nat, hcell H33 b1 (((((((((((0 + 1) + 1) + 1) + 1) + 1) + 1) + 1) + 1) + 1) + 1) + 1) = some (.slice a47 l48 c49) ∧ (
 ∃ n50 : Int, hcell H33 b1 ((((((((((((0 + 1) + 1) + 1) + 1) + 1) + 1) + 1) + 1) + 1) + 1) + 1) + 1) = some (.int .i64 n50) ∧ (
 ∃ a51 : Option Addr, ∃ l52 : Nat, ∃ c53 : Nat, hcell H33 b1 (((((((((((((0 + 1) + 1) + 1) + 1) + 1) + 1) + 1) + 1) + 1) + 1) + 1) + 1) + 1) = some (.slice a51 l52 c53) ∧ (
 Does Tryz.prog 33 [(.pointer (some (⟨b3, 0, none⟩ : Addr))), (.agg #[(.int .i64 n36), (.string s37), (.string s38), (.string s39), (.int .i64 n40), (.string s41), (.string s42), (.int .i64 n43), (.float .f64 f44), (.int .i64 n45), (.int .i64 n46), (.slice a47 l48 c49), (.int .i64 n50), (.slice a51 l52 c53)]), (.string s34), (.string s35)] H33 fun v54 H55 => v54 = (.tuple #[]) ∧ (
 ∃ b56 o57 : Nat, (some (⟨b3, 0, none⟩ : Addr)) = some (⟨b56, o57, none⟩ : Addr) ∧ (
 ∃ t58 : Bool, hcell H55 b56 (o57 + 1) = some (.bool t58) ∧ (
 ((t58 = true → (
 R (.tuple #[(.string (ByteArray.mk #[])), (.bool false)]) H55)) ∧ (t58 = false → (
 ∃ b59 o60 : Nat, (some (⟨b3, 0, none⟩ : Addr)) = some (⟨b59, o60, none⟩ : Addr) ∧ (
 ∃ a61 : Option Addr, ∃ l62 : Nat, ∃ c63 : Nat, hcell H55 b59 o60 = some (.slice a61 l62 c63) ∧ (
 Does Tryz.prog 34 [(.slice a61 l62 c63), (.string (ByteArray.mk #[32]))] H55 fun v64 H65 => ∃ s66 : ByteArray, v64 = (.string s66) ∧ (
 R (.tuple #[(.string s66), (.bool true)]) H65))))))))))))))))))))))))))) ∧ (¬ ((n30 : Int) = 1) → (
 ∃ b67 o68 : Nat, (some (⟨b3, 0, none⟩ : Addr)) = some (⟨b67, o68, none⟩ : Addr) ∧ (
 ∃ t69 : Bool, hcell H29 b67 (o68 + 1) = some (.bool t69) ∧ (
 ((t69 = true → (
 R (.tuple #[(.string (ByteArray.mk #[])), (.bool false)]) H29)) ∧ (t69 = false → (
 ∃ b70 o71 : Nat, (some (⟨b3, 0, none⟩ : Addr)) = some (⟨b70, o71, none⟩ : Addr) ∧ (
 ∃ a72 : Option Addr, ∃ l73 : Nat, ∃ c74 : Nat, hcell H29 b70 o71 = some (.slice a72 l73 c74) ∧ (
 Does Tryz.prog 34 [(.slice a72 l73 c74), (.string (ByteArray.mk #[32]))] H29 fun v75 H76 => ∃ s77 : ByteArray, v75 = (.string s77) ∧ (
 R (.tuple #[(.string s77), (.bool true)]) H76)))))))))))))))))))))))))))))))) := by kernel_rfl


end Go.Proofs
end

namespace Go.Proofs
open Go.Shelf
def Tryz.lays169_ren : Go.Shelf.Ren := ⟨fun | 169 => 57 | n => n, fun | 70 => 96 | 9 => 9 | 0 => 0 | 72 => 98 | 37 => 23 | 127 => 124 | 3 => 3 | 5 => 5 | n => n, fun | n => n⟩
theorem Tryz.lays169 : Go.Proofs.Lays.n169 Tryz.prog Tryz.lays169_ren := {
  mixed := by kernel_rfl
  f169 := Tryz.func57.trans (congrArg some (by kernel_rfl))
  t0 := Tryz.underlying0
  a0 := Tryz.isAgg0
  z0 := Tryz.sizeOf0
  v0 := Tryz.zeroValue0
  t3 := Tryz.underlying3
  a3 := Tryz.isAgg3
  z3 := Tryz.sizeOf3
  v3 := Tryz.zeroValue3
  t9 := Tryz.underlying9
  a9 := Tryz.isAgg9
  z9 := Tryz.sizeOf9
  v9 := Tryz.zeroValue9
  t37 := Tryz.underlying23
  a37 := Tryz.isAgg23
  z37 := Tryz.sizeOf23
  v37 := Tryz.zeroValue23
  t70 := Tryz.underlying96
  a70 := Tryz.isAgg96
  z70 := Tryz.sizeOf96
  v70 := Tryz.zeroValue96
  t72 := Tryz.underlying98
  a72 := Tryz.isAgg98
  z72 := Tryz.sizeOf98
  v72 := Tryz.zeroValue98
  t127 := Tryz.underlying124
  a127 := Tryz.isAgg124
  z127 := Tryz.sizeOf124
  v127 := Tryz.zeroValue124 }
theorem Tryz.Builder_Extra_169 : Builder.Extra Tryz.prog Tryz.lays169_ren := {
  sizeBuilder := by kernel_rfl
  liesBuilder := by kernel_rfl
  t5 := Tryz.underlying5
  a5 := Tryz.isAgg5
  z5 := Tryz.sizeOf5
  v5 := Tryz.zeroValue5
  infoByte := by kernel_rfl
  cellsByte := by kernel_rfl
  sizeByte := by kernel_rfl
  neB5 := by decide }
open Go.RowKit in
theorem Tryz.Builder_String_any (B b : Nat) (l : List UInt8) (w : World) (h : Lib.IsBuilder 98 5 B b (Lib.byteCells l) w) (hBw : B ≤ w.heap.size) :
    Calls Tryz.prog 57 #[.pointer (some ⟨b, 0, none⟩)] w fun e w' => e = .returned (.string ⟨l.toArray⟩) ∧ Below B w w' := Any.Builder_String_any Tryz.lays169 Tryz.Builder_Extra_169 B b l w h hBw
def Tryz.lays156_ren : Go.Shelf.Ren := ⟨fun | 156 => 34 | 165 => 55 | 166 => 56 | 169 => 57 | 240 => 77 | 241 => 78 | 276 => 101 | 277 => 102 | n => n, fun | 31 => 46 | 9 => 9 | 3 => 3 | 4 => 4 | 0 => 0 | 20 => 20 | 72 => 98 | 76 => 101 | 70 => 96 | 37 => 23 | 75 => 100 | 127 => 124 | 164 => 140 | 5 => 5 | 80 => 103 | n => n, fun | n => n⟩
theorem Tryz.lays156 : Go.Proofs.Lays.n156 Tryz.prog Tryz.lays156_ren := {
  mixed := by kernel_rfl
  f156 := Tryz.func34.trans (congrArg some (by kernel_rfl))
  f165 := Tryz.func55.trans (congrArg some (by kernel_rfl))
  f166 := Tryz.func56.trans (congrArg some (by kernel_rfl))
  f169 := Tryz.func57.trans (congrArg some (by kernel_rfl))
  f240 := Tryz.func77.trans (congrArg some (by kernel_rfl))
  f241 := Tryz.func78.trans (congrArg some (by kernel_rfl))
  f276 := Tryz.func101.trans (congrArg some (by kernel_rfl))
  f277 := Tryz.func102.trans (congrArg some (by kernel_rfl))
  t0 := Tryz.underlying0
  a0 := Tryz.isAgg0
  z0 := Tryz.sizeOf0
  v0 := Tryz.zeroValue0
  t3 := Tryz.underlying3
  a3 := Tryz.isAgg3
  z3 := Tryz.sizeOf3
  v3 := Tryz.zeroValue3
  t4 := Tryz.underlying4
  a4 := Tryz.isAgg4
  z4 := Tryz.sizeOf4
  v4 := Tryz.zeroValue4
  t9 := Tryz.underlying9
  a9 := Tryz.isAgg9
  z9 := Tryz.sizeOf9
  v9 := Tryz.zeroValue9
  t20 := Tryz.underlying20
  a20 := Tryz.isAgg20
  z20 := Tryz.sizeOf20
  v20 := Tryz.zeroValue20
  t31 := Tryz.underlying46
  a31 := Tryz.isAgg46
  z31 := Tryz.sizeOf46
  v31 := Tryz.zeroValue46
  t37 := Tryz.underlying23
  a37 := Tryz.isAgg23
  z37 := Tryz.sizeOf23
  v37 := Tryz.zeroValue23
  t70 := Tryz.underlying96
  a70 := Tryz.isAgg96
  z70 := Tryz.sizeOf96
  v70 := Tryz.zeroValue96
  t72 := Tryz.underlying98
  a72 := Tryz.isAgg98
  z72 := Tryz.sizeOf98
  v72 := Tryz.zeroValue98
  t75 := Tryz.underlying100
  a75 := Tryz.isAgg100
  z75 := Tryz.sizeOf100
  v75 := Tryz.zeroValue100
  t76 := Tryz.underlying101
  a76 := Tryz.isAgg101
  z76 := Tryz.sizeOf101
  v76 := Tryz.zeroValue101
  t127 := Tryz.underlying124
  a127 := Tryz.isAgg124
  z127 := Tryz.sizeOf124
  v127 := Tryz.zeroValue124
  t164 := Tryz.underlying140
  a164 := Tryz.isAgg140
  z164 := Tryz.sizeOf140
  v164 := Tryz.zeroValue140 }
theorem Tryz.Builder_Extra_156 : Builder.Extra Tryz.prog Tryz.lays156_ren := {
  sizeBuilder := by kernel_rfl
  liesBuilder := by kernel_rfl
  t5 := Tryz.underlying5
  a5 := Tryz.isAgg5
  z5 := Tryz.sizeOf5
  v5 := Tryz.zeroValue5
  infoByte := by kernel_rfl
  cellsByte := by kernel_rfl
  sizeByte := by kernel_rfl
  neB5 := by decide }
open Go.RowKit in
theorem Tryz.strings_Join (bk o c : Nat) (xs : List ByteArray) (sep : ByteArray) (w : World) (hcells : ∀ (j : Nat) x, xs[j]? = some x → w.cell? ⟨bk, o + j, none⟩ = some (.string x)) (hbk : bk < w.heap.size) (hN : xs.length ≤ 140737488355328) (hcap : xs.length ≤ c) (hlen : (Lib.join (xs.map (·.data.toList)) sep.data.toList).length ≤ 140737488355328) :
    Calls Tryz.prog 34 #[.slice (some ⟨bk, o, none⟩) xs.length c, .string sep] w fun e w' => e = .returned (.string ⟨(Lib.join (xs.map (·.data.toList)) sep.data.toList).toArray⟩) ∧ Below w.heap.size w w' := Any.strings_Join Tryz.lays156 Tryz.Builder_Extra_156 bk o c xs sep w hcells hbk hN hcap hlen
def Tryz.lays137_ren : Go.Shelf.Ren := ⟨fun | 137 => 99 | 217 => 110 | 266 => 124 | n => n, fun | 9 => 9 | 5 => 5 | 3 => 3 | n => n, fun | n => n⟩
theorem Tryz.lays137 : Go.Proofs.Lays.n137 Tryz.prog Tryz.lays137_ren := {
  mixed := by kernel_rfl
  f137 := Tryz.func99.trans (congrArg some (by kernel_rfl))
  f217 := Tryz.func110.trans (congrArg some (by kernel_rfl))
  f266 := Tryz.func124.trans (congrArg some (by kernel_rfl))
  t3 := Tryz.underlying3
  a3 := Tryz.isAgg3
  z3 := Tryz.sizeOf3
  v3 := Tryz.zeroValue3
  t5 := Tryz.underlying5
  a5 := Tryz.isAgg5
  z5 := Tryz.sizeOf5
  v5 := Tryz.zeroValue5
  t9 := Tryz.underlying9
  a9 := Tryz.isAgg9
  z9 := Tryz.sizeOf9
  v9 := Tryz.zeroValue9 }
open Go.RowKit in
theorem Tryz.strings_IndexByte (s : ByteArray) (c : Int) (w : World) :
    Calls Tryz.prog 99 #[.string s, .int .u8 c] w fun e w' => e = .returned (.int .i64 (Lib.indexByte s.data.toList c.toNat.toUInt8)) ∧ w' = w := Any.strings_IndexByte Tryz.lays137 s c w
def Tryz.laysM171_ren : Go.Shelf.Ren := ⟨fun | 171 => 58 | 243 => 79 | 246 => 103 | 283 => 104 | 284 => 105 | 285 => 106 | 286 => 107 | 129 => 120 | 317 => 119 | 318 => 121 | 319 => 122 | 320 => 123 | 337 => 133 | 338 => 134 | n => n, fun | 3 => 3 | 9 => 9 | 2 => 2 | 4 => 4 | 171 => 144 | 0 => 0 | 53 => 105 | 37 => 23 | 5 => 5 | 173 => 147 | 212 => 153 | 51 => 154 | 20 => 20 | 213 => 155 | 46 => 108 | 232 => 175 | 233 => 176 | n => n, fun | 17 => 4 | 18 => 9 | 19 => 10 | n => n⟩
theorem Tryz.laysM171 : Go.Proofs.LaysM.n171 Tryz.prog Tryz.laysM171_ren := {
  mixed := by kernel_rfl
  f129 := Tryz.func120.trans (congrArg some (by kernel_rfl))
  f171 := Tryz.func58.trans (congrArg some (by kernel_rfl))
  f243 := Tryz.func79.trans (congrArg some (by kernel_rfl))
  f246 := Tryz.func103.trans (congrArg some (by kernel_rfl))
  f283 := Tryz.func104.trans (congrArg some (by kernel_rfl))
  f284 := Tryz.func105.trans (congrArg some (by kernel_rfl))
  f285 := Tryz.func106.trans (congrArg some (by kernel_rfl))
  f286 := Tryz.func107.trans (congrArg some (by kernel_rfl))
  f317 := Tryz.func119.trans (congrArg some (by kernel_rfl))
  f318 := Tryz.func121.trans (congrArg some (by kernel_rfl))
  f319 := Tryz.func122.trans (congrArg some (by kernel_rfl))
  f320 := Tryz.func123.trans (congrArg some (by kernel_rfl))
  f337 := Tryz.func133.trans (congrArg some (by kernel_rfl))
  f338 := Tryz.func134.trans (congrArg some (by kernel_rfl))
  t0 := Tryz.underlying0
  a0 := Tryz.isAgg0
  z0 := Tryz.sizeOf0
  v0 := Tryz.zeroValue0
  t2 := Tryz.underlying2
  a2 := Tryz.isAgg2
  z2 := Tryz.sizeOf2
  v2 := Tryz.zeroValue2
  t3 := Tryz.underlying3
  a3 := Tryz.isAgg3
  z3 := Tryz.sizeOf3
  v3 := Tryz.zeroValue3
  t4 := Tryz.underlying4
  a4 := Tryz.isAgg4
  z4 := Tryz.sizeOf4
  v4 := Tryz.zeroValue4
  t5 := Tryz.underlying5
  a5 := Tryz.isAgg5
  z5 := Tryz.sizeOf5
  v5 := Tryz.zeroValue5
  t9 := Tryz.underlying9
  a9 := Tryz.isAgg9
  z9 := Tryz.sizeOf9
  v9 := Tryz.zeroValue9
  t20 := Tryz.underlying20
  a20 := Tryz.isAgg20
  z20 := Tryz.sizeOf20
  v20 := Tryz.zeroValue20
  t37 := Tryz.underlying23
  a37 := Tryz.isAgg23
  z37 := Tryz.sizeOf23
  v37 := Tryz.zeroValue23
  t46 := Tryz.underlying108
  a46 := Tryz.isAgg108
  z46 := Tryz.sizeOf108
  v46 := Tryz.zeroValue108
  t51 := Tryz.underlying154
  a51 := Tryz.isAgg154
  z51 := Tryz.sizeOf154
  v51 := Tryz.zeroValue154
  t53 := Tryz.underlying105
  a53 := Tryz.isAgg105
  z53 := Tryz.sizeOf105
  v53 := Tryz.zeroValue105
  t171 := Tryz.underlying144
  a171 := Tryz.isAgg144
  z171 := Tryz.sizeOf144
  v171 := Tryz.zeroValue144
  t173 := Tryz.underlying147
  a173 := Tryz.isAgg147
  z173 := Tryz.sizeOf147
  v173 := Tryz.zeroValue147
  t212 := Tryz.underlying153
  a212 := Tryz.isAgg153
  z212 := Tryz.sizeOf153
  v212 := Tryz.zeroValue153
  t213 := Tryz.underlying155
  a213 := Tryz.isAgg155
  z213 := Tryz.sizeOf155
  t232 := Tryz.underlying175
  a232 := Tryz.isAgg175
  z232 := Tryz.sizeOf175
  v232 := Tryz.zeroValue175
  t233 := Tryz.underlying176
  a233 := Tryz.isAgg176
  z233 := Tryz.sizeOf176
  v233 := Tryz.zeroValue176
  g17 := by kernel_rfl
  g18 := by kernel_rfl
  g19 := by kernel_rfl
  i0 := by kernel_rfl
  i2 := by kernel_rfl
  i3 := by kernel_rfl
  i4 := by kernel_rfl
  i5 := by kernel_rfl
  i9 := by kernel_rfl
  i20 := by kernel_rfl
  i37 := by kernel_rfl
  i46 := by kernel_rfl
  i51 := by kernel_rfl
  i53 := by kernel_rfl
  i171 := by kernel_rfl
  i173 := by kernel_rfl
  i212 := by kernel_rfl
  i232 := by kernel_rfl
  i233 := by kernel_rfl
  m17 := by kernel_rfl
  m18 := by kernel_rfl
  m19 := by kernel_rfl }
open Go.RowKit Go.Sort Go.Lib in
theorem Tryz.strconv_Itoa (n : Int) (h0 : -9223372036854775808 ≤ n) (h1 : n ≤ 9223372036854775807) (w : World) (htab : Lib.TabIs Tryz.prog w "internal/strconv.uint64pow10" .u64 Lib.pow10Tab) :
    Calls Tryz.prog 58 #[.int .i64 n] w fun e w' => e = .returned (.string ⟨(Lib.itoa n).toArray⟩) ∧ ∃ k os, w' = grow (w.drewN k) os := Any.strconv_Itoa Tryz.laysM171 n h0 h1 w htab
def Tryz.laysC172_ren : Go.Shelf.Ren := ⟨fun | 172 => 97 | 244 => 115 | 245 => 116 | 247 => 126 | 279 => 127 | 280 => 128 | 281 => 129 | 282 => 130 | 287 => 118 | 316 => 135 | 171 => 58 | 205 => 136 | 321 => 131 | 322 => 132 | 243 => 79 | 246 => 103 | 283 => 104 | 284 => 105 | 285 => 106 | 286 => 107 | 129 => 120 | 317 => 119 | 318 => 121 | 319 => 122 | 320 => 123 | 337 => 133 | 338 => 134 | n => n, fun | 9 => 9 | 3 => 3 | 75 => 100 | 76 => 101 | 4 => 4 | 5 => 5 | 167 => 164 | 37 => 23 | 0 => 0 | 85 => 165 | 2 => 2 | 168 => 167 | 53 => 105 | 175 => 138 | 46 => 108 | 210 => 173 | 127 => 124 | 145 => 179 | 143 => 177 | 21 => 21 | 171 => 144 | 173 => 147 | 212 => 153 | 51 => 154 | 20 => 20 | 213 => 155 | 232 => 175 | 233 => 176 | 80 => 103 | n => n, fun | 15 => 7 | 16 => 8 | 17 => 4 | 18 => 9 | 19 => 10 | n => n⟩
theorem Tryz.laysC172 : Go.Proofs.LaysC.n172 Tryz.prog Tryz.laysC172_ren := {
  mixed := by kernel_rfl
  f129 := Tryz.func120.trans (congrArg some (by kernel_rfl))
  f171 := Tryz.func58.trans (congrArg some (by kernel_rfl))
  f172 := Tryz.func97.trans (congrArg some (by kernel_rfl))
  f205 := Tryz.func136.trans (congrArg some (by kernel_rfl))
  f243 := Tryz.func79.trans (congrArg some (by kernel_rfl))
  f244 := Tryz.func115.trans (congrArg some (by kernel_rfl))
  f245 := Tryz.func116.trans (congrArg some (by kernel_rfl))
  f246 := Tryz.func103.trans (congrArg some (by kernel_rfl))
  f247 := Tryz.func126.trans (congrArg some (by kernel_rfl))
  f279 := Tryz.func127.trans (congrArg some (by kernel_rfl))
  f280 := Tryz.func128.trans (congrArg some (by kernel_rfl))
  f281 := Tryz.func129.trans (congrArg some (by kernel_rfl))
  f282 := Tryz.func130.trans (congrArg some (by kernel_rfl))
  f283 := Tryz.func104.trans (congrArg some (by kernel_rfl))
  f284 := Tryz.func105.trans (congrArg some (by kernel_rfl))
  f285 := Tryz.func106.trans (congrArg some (by kernel_rfl))
  f286 := Tryz.func107.trans (congrArg some (by kernel_rfl))
  f287 := Tryz.func118.trans (congrArg some (by kernel_rfl))
  f316 := Tryz.func135.trans (congrArg some (by kernel_rfl))
  f317 := Tryz.func119.trans (congrArg some (by kernel_rfl))
  f318 := Tryz.func121.trans (congrArg some (by kernel_rfl))
  f319 := Tryz.func122.trans (congrArg some (by kernel_rfl))
  f320 := Tryz.func123.trans (congrArg some (by kernel_rfl))
  f321 := Tryz.func131.trans (congrArg some (by kernel_rfl))
  f322 := Tryz.func132.trans (congrArg some (by kernel_rfl))
  f337 := Tryz.func133.trans (congrArg some (by kernel_rfl))
  f338 := Tryz.func134.trans (congrArg some (by kernel_rfl))
  t0 := Tryz.underlying0
  a0 := Tryz.isAgg0
  z0 := Tryz.sizeOf0
  v0 := Tryz.zeroValue0
  t2 := Tryz.underlying2
  a2 := Tryz.isAgg2
  z2 := Tryz.sizeOf2
  v2 := Tryz.zeroValue2
  t3 := Tryz.underlying3
  a3 := Tryz.isAgg3
  z3 := Tryz.sizeOf3
  v3 := Tryz.zeroValue3
  t4 := Tryz.underlying4
  a4 := Tryz.isAgg4
  z4 := Tryz.sizeOf4
  v4 := Tryz.zeroValue4
  t5 := Tryz.underlying5
  a5 := Tryz.isAgg5
  z5 := Tryz.sizeOf5
  v5 := Tryz.zeroValue5
  t9 := Tryz.underlying9
  a9 := Tryz.isAgg9
  z9 := Tryz.sizeOf9
  v9 := Tryz.zeroValue9
  t20 := Tryz.underlying20
  a20 := Tryz.isAgg20
  z20 := Tryz.sizeOf20
  v20 := Tryz.zeroValue20
  t21 := Tryz.underlying21
  a21 := Tryz.isAgg21
  z21 := Tryz.sizeOf21
  v21 := Tryz.zeroValue21
  t37 := Tryz.underlying23
  a37 := Tryz.isAgg23
  z37 := Tryz.sizeOf23
  v37 := Tryz.zeroValue23
  t46 := Tryz.underlying108
  a46 := Tryz.isAgg108
  z46 := Tryz.sizeOf108
  v46 := Tryz.zeroValue108
  t51 := Tryz.underlying154
  a51 := Tryz.isAgg154
  z51 := Tryz.sizeOf154
  v51 := Tryz.zeroValue154
  t53 := Tryz.underlying105
  a53 := Tryz.isAgg105
  z53 := Tryz.sizeOf105
  v53 := Tryz.zeroValue105
  t75 := Tryz.underlying100
  a75 := Tryz.isAgg100
  z75 := Tryz.sizeOf100
  v75 := Tryz.zeroValue100
  t76 := Tryz.underlying101
  a76 := Tryz.isAgg101
  z76 := Tryz.sizeOf101
  v76 := Tryz.zeroValue101
  t85 := Tryz.underlying165
  a85 := Tryz.isAgg165
  z85 := Tryz.sizeOf165
  v85 := Tryz.zeroValue165
  t127 := Tryz.underlying124
  a127 := Tryz.isAgg124
  z127 := Tryz.sizeOf124
  v127 := Tryz.zeroValue124
  t143 := Tryz.underlying177
  a143 := Tryz.isAgg177
  z143 := Tryz.sizeOf177
  v143 := Tryz.zeroValue177
  t145 := Tryz.underlying179
  a145 := Tryz.isAgg179
  z145 := Tryz.sizeOf179
  v145 := Tryz.zeroValue179
  t167 := Tryz.underlying164
  a167 := Tryz.isAgg164
  z167 := Tryz.sizeOf164
  v167 := Tryz.zeroValue164
  t168 := Tryz.underlying167
  a168 := Tryz.isAgg167
  z168 := Tryz.sizeOf167
  v168 := Tryz.zeroValue167
  t171 := Tryz.underlying144
  a171 := Tryz.isAgg144
  z171 := Tryz.sizeOf144
  v171 := Tryz.zeroValue144
  t173 := Tryz.underlying147
  a173 := Tryz.isAgg147
  z173 := Tryz.sizeOf147
  v173 := Tryz.zeroValue147
  t175 := Tryz.underlying138
  a175 := Tryz.isAgg138
  z175 := Tryz.sizeOf138
  v175 := Tryz.zeroValue138
  t210 := Tryz.underlying173
  a210 := Tryz.isAgg173
  z210 := Tryz.sizeOf173
  v210 := Tryz.zeroValue173
  t212 := Tryz.underlying153
  a212 := Tryz.isAgg153
  z212 := Tryz.sizeOf153
  v212 := Tryz.zeroValue153
  t213 := Tryz.underlying155
  a213 := Tryz.isAgg155
  z213 := Tryz.sizeOf155
  t232 := Tryz.underlying175
  a232 := Tryz.isAgg175
  z232 := Tryz.sizeOf175
  v232 := Tryz.zeroValue175
  t233 := Tryz.underlying176
  a233 := Tryz.isAgg176
  z233 := Tryz.sizeOf176
  v233 := Tryz.zeroValue176
  g15 := by kernel_rfl
  g16 := by kernel_rfl
  g17 := by kernel_rfl
  g18 := by kernel_rfl
  g19 := by kernel_rfl
  t80 := Tryz.underlying103
  a80 := Tryz.isAgg103
  z80 := Tryz.sizeOf103
  v80 := Tryz.zeroValue103
  i0 := by kernel_rfl
  i2 := by kernel_rfl
  i3 := by kernel_rfl
  i4 := by kernel_rfl
  i5 := by kernel_rfl
  i9 := by kernel_rfl
  i20 := by kernel_rfl
  i21 := by kernel_rfl
  i37 := by kernel_rfl
  i46 := by kernel_rfl
  i51 := by kernel_rfl
  i53 := by kernel_rfl
  i75 := by kernel_rfl
  i76 := by kernel_rfl
  i80 := by kernel_rfl
  i85 := by kernel_rfl
  i127 := by kernel_rfl
  i143 := by kernel_rfl
  i145 := by kernel_rfl
  i167 := by kernel_rfl
  i168 := by kernel_rfl
  i171 := by kernel_rfl
  i173 := by kernel_rfl
  i175 := by kernel_rfl
  i210 := by kernel_rfl
  i212 := by kernel_rfl
  i232 := by kernel_rfl
  i233 := by kernel_rfl
  m15 := by kernel_rfl
  m16 := by kernel_rfl
  m17 := by kernel_rfl
  m18 := by kernel_rfl
  m19 := by kernel_rfl
  c0 := by kernel_rfl
  c2 := by kernel_rfl
  c3 := by kernel_rfl
  c4 := by kernel_rfl
  c5 := by kernel_rfl
  c9 := by kernel_rfl
  c20 := by kernel_rfl
  c21 := by kernel_rfl
  c37 := by kernel_rfl
  c46 := by kernel_rfl
  c51 := by kernel_rfl
  c53 := by kernel_rfl
  c75 := by kernel_rfl
  c76 := by kernel_rfl
  c80 := by kernel_rfl
  c85 := by kernel_rfl
  c127 := by kernel_rfl
  c143 := by kernel_rfl
  c145 := by kernel_rfl
  c167 := by kernel_rfl
  c168 := by kernel_rfl
  c171 := by kernel_rfl
  c173 := by kernel_rfl
  c175 := by kernel_rfl
  c210 := by kernel_rfl
  c212 := by kernel_rfl
  c213 := by kernel_rfl
  c232 := by kernel_rfl
  c233 := by kernel_rfl }
open Go.RowKit in
theorem Tryz.strconv_Atoi_ok (s : ByteArray) (hmax : s.size ≤ 9223372036854775806) (v : Int) (h : Lib.atoiAll s.data.toList = .ok v) (w : World) :
    Calls Tryz.prog 97 #[.string s] w fun e w' => e = .returned (.tuple #[.int .i64 v, .nilIface]) ∧ (w' = w ∨ ∃ t, w' = Lib.bytesWorld w 5 t) := Any.strconv_Atoi_ok Tryz.laysC172 s hmax v h w
open Go.RowKit in
theorem Tryz.strconv_Atoi_syntax (s : ByteArray) (hlim : s.size ≤ 281474976710656) (r : Lib.NumEnd Int) (h : Lib.atoiAll s.data.toList = r) (h1 : ∀ v, r ≠ .ok v) (h2 : r ≠ .range) (ev : Value) (w : World) (hv : w.cell? ⟨7, 0, none⟩ = some ev) (hev : ev = .nilIface ∨ ∃ te pe, ev = .iface te pe) :
    Calls Tryz.prog 97 #[.string s] w fun e w' => ∃ N, e = .returned (.tuple #[.int .i64 (0), .iface 167 (.pointer (some ⟨N, 0, none⟩))]) ∧ w.heap.size ≤ N ∧ w'.heap[N]? = some (.cells #[.string ⟨#[65, 116, 111, 105]⟩, .string s, ev] 173 (0, 0)) ∧ Below w.heap.size w w' := by
  cases r with
  | ok v => exact absurd rfl (h1 v)
  | range => exact absurd rfl h2
  | _ => exact Any.strconv_Atoi_syntax Tryz.laysC172 s hlim h ev w hv hev
open Go.RowKit in
theorem Tryz.strconv_Atoi_range (s : ByteArray) (hlim : s.size ≤ 281474976710656) (h : Lib.atoiAll s.data.toList = .range) (ev : Value) (w : World) (hv : w.cell? ⟨8, 0, none⟩ = some ev) (hev : ev = .nilIface ∨ ∃ te pe, ev = .iface te pe) :
    Calls Tryz.prog 97 #[.string s] w fun e w' => ∃ N, e = .returned (.tuple #[.int .i64 (Lib.atoiSat s.data.toList), .iface 167 (.pointer (some ⟨N, 0, none⟩))]) ∧ w.heap.size ≤ N ∧ w'.heap[N]? = some (.cells #[.string ⟨#[65, 116, 111, 105]⟩, .string s, ev] 173 (0, 0)) ∧ Below w.heap.size w w' := Any.strconv_Atoi_range Tryz.laysC172 s hlim h ev w hv hev
def Tryz.lays145_ren : Go.Shelf.Ren := ⟨fun | 145 => 71 | 220 => 95 | 219 => 94 | 217 => 110 | 225 => 111 | 224 => 112 | 267 => 113 | 266 => 124 | 314 => 125 | n => n, fun | 9 => 9 | 4 => 4 | 59 => 119 | 3 => 3 | 5 => 5 | 46 => 108 | 146 => 162 | 51 => 154 | n => n, fun | 1 => 3 | n => n⟩
theorem Tryz.lays145 : Go.Proofs.Lays.n145 Tryz.prog Tryz.lays145_ren := {
  mixed := by kernel_rfl
  f145 := Tryz.func71.trans (congrArg some (by kernel_rfl))
  f217 := Tryz.func110.trans (congrArg some (by kernel_rfl))
  f219 := Tryz.func94.trans (congrArg some (by kernel_rfl))
  f220 := Tryz.func95.trans (congrArg some (by kernel_rfl))
  f224 := Tryz.func112.trans (congrArg some (by kernel_rfl))
  f225 := Tryz.func111.trans (congrArg some (by kernel_rfl))
  f266 := Tryz.func124.trans (congrArg some (by kernel_rfl))
  f267 := Tryz.func113.trans (congrArg some (by kernel_rfl))
  f314 := Tryz.func125.trans (congrArg some (by kernel_rfl))
  t3 := Tryz.underlying3
  a3 := Tryz.isAgg3
  z3 := Tryz.sizeOf3
  v3 := Tryz.zeroValue3
  t4 := Tryz.underlying4
  a4 := Tryz.isAgg4
  z4 := Tryz.sizeOf4
  v4 := Tryz.zeroValue4
  t5 := Tryz.underlying5
  a5 := Tryz.isAgg5
  z5 := Tryz.sizeOf5
  v5 := Tryz.zeroValue5
  t9 := Tryz.underlying9
  a9 := Tryz.isAgg9
  z9 := Tryz.sizeOf9
  v9 := Tryz.zeroValue9
  t46 := Tryz.underlying108
  a46 := Tryz.isAgg108
  z46 := Tryz.sizeOf108
  v46 := Tryz.zeroValue108
  t51 := Tryz.underlying154
  a51 := Tryz.isAgg154
  z51 := Tryz.sizeOf154
  v51 := Tryz.zeroValue154
  t59 := Tryz.underlying119
  a59 := Tryz.isAgg119
  z59 := Tryz.sizeOf119
  v59 := Tryz.zeroValue119
  t146 := Tryz.underlying162
  a146 := Tryz.isAgg162
  z146 := Tryz.sizeOf162
  v146 := Tryz.zeroValue162
  g1 := by kernel_rfl }
open Go.RowKit Go.Lib in
theorem Tryz.strings_Cut (s sep : ByteArray) (m : Int) (w : World) (hs : s.size < 4294967281) (hm : w.cell? ⟨3, 0, none⟩ = some (.int .i64 m)) :
    Calls Tryz.prog 71 #[.string s, .string sep] w fun e w' => e = .returned (.tuple #[.string ⟨(Lib.cut s.data.toList sep.data.toList).1.toArray⟩, .string ⟨(Lib.cut s.data.toList sep.data.toList).2.1.toArray⟩, .bool (Lib.cut s.data.toList sep.data.toList).2.2]) ∧ ∃ n, w' = w.drewN n := Any.strings_Cut Tryz.lays145 s sep m w hs hm
def Tryz.lays146_ren : Go.Shelf.Ren := ⟨fun | 146 => 23 | 221 => 49 | 268 => 68 | 138 => 69 | 143 => 70 | 195 => 91 | 197 => 92 | 218 => 93 | 219 => 94 | 260 => 109 | 217 => 110 | 225 => 111 | 224 => 112 | 267 => 113 | 266 => 124 | 314 => 125 | n => n, fun | 9 => 9 | 31 => 46 | 3 => 3 | 4 => 4 | 0 => 0 | 105 => 133 | 21 => 21 | 5 => 5 | 46 => 108 | 119 => 158 | 139 => 161 | 138 => 160 | 146 => 162 | 51 => 154 | n => n, fun | 1 => 3 | 3 => 5 | 4 => 6 | n => n⟩
theorem Tryz.lays146 : Go.Proofs.Lays.n146 Tryz.prog Tryz.lays146_ren := {
  mixed := by kernel_rfl
  f138 := Tryz.func69.trans (congrArg some (by kernel_rfl))
  f143 := Tryz.func70.trans (congrArg some (by kernel_rfl))
  f146 := Tryz.func23.trans (congrArg some (by kernel_rfl))
  f195 := Tryz.func91.trans (congrArg some (by kernel_rfl))
  f197 := Tryz.func92.trans (congrArg some (by kernel_rfl))
  f217 := Tryz.func110.trans (congrArg some (by kernel_rfl))
  f218 := Tryz.func93.trans (congrArg some (by kernel_rfl))
  f219 := Tryz.func94.trans (congrArg some (by kernel_rfl))
  f221 := Tryz.func49.trans (congrArg some (by kernel_rfl))
  f224 := Tryz.func112.trans (congrArg some (by kernel_rfl))
  f225 := Tryz.func111.trans (congrArg some (by kernel_rfl))
  f260 := Tryz.func109.trans (congrArg some (by kernel_rfl))
  f266 := Tryz.func124.trans (congrArg some (by kernel_rfl))
  f267 := Tryz.func113.trans (congrArg some (by kernel_rfl))
  f268 := Tryz.func68.trans (congrArg some (by kernel_rfl))
  f314 := Tryz.func125.trans (congrArg some (by kernel_rfl))
  t0 := Tryz.underlying0
  a0 := Tryz.isAgg0
  z0 := Tryz.sizeOf0
  v0 := Tryz.zeroValue0
  t3 := Tryz.underlying3
  a3 := Tryz.isAgg3
  z3 := Tryz.sizeOf3
  v3 := Tryz.zeroValue3
  t4 := Tryz.underlying4
  a4 := Tryz.isAgg4
  z4 := Tryz.sizeOf4
  v4 := Tryz.zeroValue4
  t5 := Tryz.underlying5
  a5 := Tryz.isAgg5
  z5 := Tryz.sizeOf5
  v5 := Tryz.zeroValue5
  t9 := Tryz.underlying9
  a9 := Tryz.isAgg9
  z9 := Tryz.sizeOf9
  v9 := Tryz.zeroValue9
  t21 := Tryz.underlying21
  a21 := Tryz.isAgg21
  z21 := Tryz.sizeOf21
  v21 := Tryz.zeroValue21
  t31 := Tryz.underlying46
  a31 := Tryz.isAgg46
  z31 := Tryz.sizeOf46
  v31 := Tryz.zeroValue46
  t46 := Tryz.underlying108
  a46 := Tryz.isAgg108
  z46 := Tryz.sizeOf108
  v46 := Tryz.zeroValue108
  t51 := Tryz.underlying154
  a51 := Tryz.isAgg154
  z51 := Tryz.sizeOf154
  v51 := Tryz.zeroValue154
  t105 := Tryz.underlying133
  a105 := Tryz.isAgg133
  z105 := Tryz.sizeOf133
  v105 := Tryz.zeroValue133
  t119 := Tryz.underlying158
  a119 := Tryz.isAgg158
  z119 := Tryz.sizeOf158
  t138 := Tryz.underlying160
  a138 := Tryz.isAgg160
  z138 := Tryz.sizeOf160
  v138 := Tryz.zeroValue160
  t139 := Tryz.underlying161
  a139 := Tryz.isAgg161
  z139 := Tryz.sizeOf161
  v139 := Tryz.zeroValue161
  t146 := Tryz.underlying162
  a146 := Tryz.isAgg162
  z146 := Tryz.sizeOf162
  v146 := Tryz.zeroValue162
  g1 := by kernel_rfl
  g3 := by kernel_rfl
  g4 := by kernel_rfl }
open Go.RowKit Go.Lib in
theorem Tryz.strings_Split (s sep : ByteArray) (m : Int) (w : World) (hs : s.size < 4294967281) (hm : w.cell? ⟨3, 0, none⟩ = some (.int .i64 m)) (h1 : 1 ≤ sep.size) :
    Calls Tryz.prog 23 #[.string s, .string sep] w fun e w' =>
      e = .returned (.slice (some ⟨w.heap.size, 0, none⟩) (Lib.countB s sep + 1) (Lib.countB s sep + 1)) ∧ w' = w.alloc (.cells ((Lib.splitB sep 0 (Lib.countB s sep) s).map Value.string).toArray 9) := Any.strings_Split Tryz.lays146 (by kernel_rfl) s sep m w hs hm h1
def Tryz.lays167_ren : Go.Shelf.Ren := ⟨fun | 167 => 84 | 240 => 77 | 276 => 101 | n => n, fun | 9 => 9 | 4 => 4 | 0 => 0 | 20 => 20 | 72 => 98 | 70 => 96 | 37 => 23 | 75 => 100 | 164 => 140 | 5 => 5 | 80 => 103 | n => n, fun | n => n⟩
theorem Tryz.lays167 : Go.Proofs.Lays.n167 Tryz.prog Tryz.lays167_ren := {
  mixed := by kernel_rfl
  f167 := Tryz.func84.trans (congrArg some (by kernel_rfl))
  f240 := Tryz.func77.trans (congrArg some (by kernel_rfl))
  f276 := Tryz.func101.trans (congrArg some (by kernel_rfl))
  t0 := Tryz.underlying0
  a0 := Tryz.isAgg0
  z0 := Tryz.sizeOf0
  v0 := Tryz.zeroValue0
  t4 := Tryz.underlying4
  a4 := Tryz.isAgg4
  z4 := Tryz.sizeOf4
  v4 := Tryz.zeroValue4
  t5 := Tryz.underlying5
  a5 := Tryz.isAgg5
  z5 := Tryz.sizeOf5
  v5 := Tryz.zeroValue5
  t9 := Tryz.underlying9
  a9 := Tryz.isAgg9
  z9 := Tryz.sizeOf9
  v9 := Tryz.zeroValue9
  t20 := Tryz.underlying20
  a20 := Tryz.isAgg20
  z20 := Tryz.sizeOf20
  v20 := Tryz.zeroValue20
  t37 := Tryz.underlying23
  a37 := Tryz.isAgg23
  z37 := Tryz.sizeOf23
  v37 := Tryz.zeroValue23
  t70 := Tryz.underlying96
  a70 := Tryz.isAgg96
  z70 := Tryz.sizeOf96
  v70 := Tryz.zeroValue96
  t72 := Tryz.underlying98
  a72 := Tryz.isAgg98
  z72 := Tryz.sizeOf98
  v72 := Tryz.zeroValue98
  t75 := Tryz.underlying100
  a75 := Tryz.isAgg100
  z75 := Tryz.sizeOf100
  v75 := Tryz.zeroValue100
  t164 := Tryz.underlying140
  a164 := Tryz.isAgg140
  z164 := Tryz.sizeOf140
  v164 := Tryz.zeroValue140 }
theorem Tryz.Builder_Extra_167 : Builder.Extra Tryz.prog Tryz.lays167_ren := {
  sizeBuilder := by kernel_rfl
  liesBuilder := by kernel_rfl
  t5 := Tryz.underlying5
  a5 := Tryz.isAgg5
  z5 := Tryz.sizeOf5
  v5 := Tryz.zeroValue5
  infoByte := by kernel_rfl
  cellsByte := by kernel_rfl
  sizeByte := by kernel_rfl
  neB5 := by decide }
theorem Tryz.Builder_WriteByte (B b : Nat) (bs : List Value) (c : Int) (w : World) (h : Lib.IsBuilder 98 5 B b bs w) (hlen : bs.length + 1 ≤ 140737488355328) (hBw : B ≤ w.heap.size) :
    Calls Tryz.prog 84 #[.pointer (some ⟨b, 0, none⟩), .int .u8 c] w fun e w' => e = .returned .nilIface ∧ (Lib.BuilderAt 98 5 B b (.pointer (some ⟨b, 0, none⟩)) (bs ++ [.int .u8 c]) w' ∧ RowKit.Below B w w') := Any.Builder_WriteByte Tryz.lays167 Tryz.Builder_Extra_167 B b bs c w h hlen hBw
end Go.Proofs

