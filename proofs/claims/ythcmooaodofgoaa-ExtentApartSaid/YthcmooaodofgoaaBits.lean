/-
  The contracts of the functions of the package bits. No condition.
-/
import Derived.Test.YthcmooaodofgoaaVc
import Derived.Test.YthcmooaodofgoaaProg

namespace Go.Vc

def bit (xs : List UInt8) (k : Nat) : Bool := (xs.getD (k / 8) 0).toNat.testBit (k % 8)

def flipB (b : UInt8) (j : Nat) : UInt8 := UInt8.ofNat (b.toNat ^^^ (1 <<< j))

def flipL (xs : List UInt8) (k : Nat) : List UInt8 := xs.set (k / 8) (flipB (xs.getD (k / 8) 0) (k % 8))

def getB (n : Nat) (xs : List UInt8) (k : Int) : Bool := decide (0 ≤ k) && (decide (k < n) && bit xs k.toNat)

theorem get_fin : ∀ x : Fin 256, ∀ j : Fin 8, decide ((0 : Int) < bits .and .u8 (Int.fdiv (x.val : Int) (2 ^ (min j.val 8))) 1) = Nat.testBit x.val j.val := by decide +kernel

theorem xor_fin : ∀ x : Fin 256, ∀ j : Fin 8, bits .xor .u8 (x.val : Int) (IntKind.wrap .u8 (1 * 2 ^ (min j.val 8))) = ((x.val ^^^ (1 <<< j.val) : Nat) : Int) ∧ x.val ^^^ (1 <<< j.val) < 256 := by decide +kernel

theorem get_byte (b : UInt8) (q : Int) (h0 : 0 ≤ q) (h1 : q < 8) : ((0 : Int) < bits .and .u8 (Int.fdiv (b.toNat : Int) (2 ^ (min q.toNat (IntKind.bits .u8)))) 1) ↔ b.toNat.testBit q.toNat = true := by
  have := get_fin ⟨b.toNat, b.toNat_lt⟩ ⟨q.toNat, by omega⟩
  rw [← this]
  simp [IntKind.bits]

theorem xor_byte (b : UInt8) (q : Int) (h0 : 0 ≤ q) (h1 : q < 8) : bits .xor .u8 (b.toNat : Int) (IntKind.wrap .u8 (1 * 2 ^ (min q.toNat (IntKind.bits .u8)))) = ((flipB b q.toNat).toNat : Int) := by
  obtain ⟨h2, h3⟩ := xor_fin ⟨b.toNat, b.toNat_lt⟩ ⟨q.toNat, by omega⟩
  simp only at h2 h3
  have : (flipB b q.toNat).toNat = b.toNat ^^^ (1 <<< q.toNat) := by
    unfold flipB
    rw [UInt8.toNat_ofNat']
    exact Nat.mod_eq_of_lt h3
  rw [this]
  exact h2

theorem bit_flip (xs : List UInt8) (k i : Nat) (hk : k / 8 < xs.length) : bit (flipL xs k) i = if i = k then !bit xs k else bit xs i := by
  unfold bit flipL
  have hj : k % 8 < 8 := Nat.mod_lt _ (by decide)
  have hx := (xor_fin ⟨(xs.getD (k / 8) 0).toNat, UInt8.toNat_lt _⟩ ⟨k % 8, hj⟩).2
  simp only at hx
  have hf : (flipB (xs.getD (k / 8) 0) (k % 8)).toNat = (xs.getD (k / 8) 0).toNat ^^^ (1 <<< (k % 8)) := by
    unfold flipB
    rw [UInt8.toNat_ofNat']
    exact Nat.mod_eq_of_lt hx
  by_cases h8 : i / 8 = k / 8
  · rw [h8, List.getD_eq_getElem?_getD, List.getElem?_set_self hk, Option.getD_some, hf, Nat.testBit_xor, Nat.one_shiftLeft, Nat.testBit_two_pow]
    by_cases he : i = k
    · subst he
      simp
    · have : ¬ (k % 8 = i % 8) := by omega
      simp [he, this]
  · have he : i ≠ k := by rintro rfl; exact h8 rfl
    rw [if_neg he, List.getD_eq_getElem?_getD, List.getElem?_set_ne (fun h => h8 h.symm), ← List.getD_eq_getElem?_getD]

theorem flipL_length (xs : List UInt8) (k : Nat) : (flipL xs k).length = xs.length := by simp [flipL]

/-- A map of bits in a heap. -/
structure IsMap (H : Heap) (pb : Nat) (a : Option Addr) (c : Nat) (n : Nat) (xs : List UInt8) : Prop where
  head : Blk H pb [.int .i64 n, .slice a xs.length c]
  own : Own H 1 a xs.length c (bytesV xs)
  apart : pb ∉ blkOf a
  len : xs.length = (n + 7) / 8
  small : n ≤ 1000000000000

theorem IsMap.ext {M : List Nat} {H H' : Heap} {pb : Nat} {a : Option Addr} {c n : Nat} {xs : List UInt8} (h : IsMap H pb a c n xs) (he : Ext M H H') (h1 : pb ∉ M) (h2 : ∀ k, k ∈ blkOf a → k ∉ M) : IsMap H' pb a c n xs :=
  ⟨h.head.ext he h1, h.own.ext he h2, h.apart, h.len, h.small⟩

end Go.Vc

section
open Go Go.Vc
namespace Go.Proofs
set_option maxRecDepth 100000
/-- pentimento/pentimentohand.Pick -/
theorem vc_pick (x0 : Int) (x1 : Int) (H : Heap) (R : Value → Heap → Prop) : Walk Try.prog 11 [] [(.int .i64 x0), (.int .i64 x1)] H R = (
  ((x1 : Int) ≠ 0) ∧
  ∀ q1 : Int, q1 = Int.tmod x0 x1 → (
    ((((q1 : Int) < 0) → (
          (In64 (q1 + x1)) ∧
          R (.int .i64 (q1 + x1)) H)) ∧ (¬ ((q1 : Int) < 0) → (
          R (.int .i64 q1) H))))) := by kernel_rfl


/-- pentimento/bits.New -/
theorem vc_new (x0 : Int) (H : Heap) (R : Value → Heap → Prop) : Walk Try.prog 12 [] [(.int .i64 x0)] H R = (
  (In64 ((max x0 0) + 8)) ∧
  (In64 (((max x0 0) + 8) - 1)) ∧
  ((8 : Int) ≠ 0) ∧
  ∀ q1 : Int, q1 = IntKind.wrap .i64 (Int.tdiv (((max x0 0) + 8) - 1) 8) → (
    (0 : Int) ≤ q1 ∧ (q1 : Int) ≤ q1 ∧ (1 : Int) * q1 ≤ 281474976710656 ∧ ∀ b2 : Nat, ∀ H3 : Heap, New H b2 (List.replicate (Int.toNat q1) (.int .u8 0)) 5 H3 → (
      ∀ b4 : Nat, ∀ H5 : Heap, New H3 b4 [(.int .i64 (max x0 0)), (.slice (some (⟨b2, 0, none⟩ : Addr)) (Int.toNat q1) (Int.toNat q1))] 77 H5 → (
        R (.pointer (some (⟨b4, 0, none⟩ : Addr))) H5)))) := by kernel_rfl


/-- (*pentimento/bits.Map).Get -/
theorem vc_get (x0 : Option Addr) (x1 : Int) (H : Heap) (R : Value → Heap → Prop) : Walk Try.prog 16 [] [(.pointer x0), (.int .i64 x1)] H R = (
  ((((0 : Int) ≤ x1) → (
        ∃ b1 o2 : Nat, x0 = some (⟨b1, o2, none⟩ : Addr) ∧ (
          ∃ n3 : Int, hcell H b1 o2 = some (.int .i64 n3) ∧ (
            ((((x1 : Int) < n3) → (
                  ∃ b4 o5 : Nat, x0 = some (⟨b4, o5, none⟩ : Addr) ∧ (
                    ∃ a6 : Option Addr, ∃ l7 : Nat, ∃ c8 : Nat, hcell H b4 (o5 + 1) = some (.slice a6 l7 c8) ∧ (
                      ((8 : Int) ≠ 0) ∧
                      ∀ q9 : Int, q9 = IntKind.wrap .i64 (Int.tdiv x1 8) → (
                        (0 : Int) ≤ q9 ∧ (q9 : Int) < (l7 : Int) ∧ ∃ b10 o11 : Nat, a6 = some (⟨b10, o11, none⟩ : Addr) ∧ (
                          ∃ n12 : Int, hcell H b10 (o11 + (Int.toNat q9)) = some (.int .u8 n12) ∧ (
                            ((8 : Int) ≠ 0) ∧
                            ∀ q13 : Int, q13 = Int.tmod x1 8 → (
                              ((0 : Int) ≤ q13) ∧
                              ∀ q14 : Int, q14 = Int.fdiv n12 (2 ^ (min q13.toNat (IntKind.bits .u8))) → (
                                ∀ q15 : Int, q15 = bits .and .u8 q14 1 → (
                                  R (.bool (@decide ((0 : Int) < q15) (Classical.propDecidable _))) H)))))))))) ∧ (¬ ((x1 : Int) < n3) → (
                  R (.bool false) H))))))) ∧ (¬ ((0 : Int) ≤ x1) → (
        R (.bool false) H)))) := by kernel_rfl


/-- (*pentimento/bits.Map).Set -/
theorem vc_set (x0 : Option Addr) (x1 : Int) (x2 : Bool) (H : Heap) (R : Value → Heap → Prop) : Walk Try.prog 14 [] [(.pointer x0), (.int .i64 x1), (.bool x2)] H R = (
  ((((x1 : Int) < 0) → (
        R (.bool false) H)) ∧ (¬ ((x1 : Int) < 0) → (
        ∃ b1 o2 : Nat, x0 = some (⟨b1, o2, none⟩ : Addr) ∧ (
          ∃ n3 : Int, hcell H b1 o2 = some (.int .i64 n3) ∧ (
            ((((n3 : Int) ≤ x1) → (
                  R (.bool false) H)) ∧ (¬ ((n3 : Int) ≤ x1) → (
                  Does Try.prog 16 [(.pointer x0), (.int .i64 x1)] H fun v4 H5 => ∃ t6 : Bool, v4 = (.bool t6) ∧ (
                    ((((t6 = true) ↔ (x2 = true)) → (
                          R (.bool false) H5)) ∧ (¬ ((t6 = true) ↔ (x2 = true)) → (
                          ∃ b7 o8 : Nat, x0 = some (⟨b7, o8, none⟩ : Addr) ∧ (
                            ∃ a9 : Option Addr, ∃ l10 : Nat, ∃ c11 : Nat, hcell H5 b7 (o8 + 1) = some (.slice a9 l10 c11) ∧ (
                              ((8 : Int) ≠ 0) ∧
                              ∀ q12 : Int, q12 = IntKind.wrap .i64 (Int.tdiv x1 8) → (
                                (0 : Int) ≤ q12 ∧ (q12 : Int) < (l10 : Int) ∧ ∃ b13 o14 : Nat, a9 = some (⟨b13, o14, none⟩ : Addr) ∧ (
                                  ∃ n15 : Int, hcell H5 b13 (o14 + (Int.toNat q12)) = some (.int .u8 n15) ∧ (
                                    ((8 : Int) ≠ 0) ∧
                                    ∀ q16 : Int, q16 = Int.tmod x1 8 → (
                                      ((0 : Int) ≤ q16) ∧
                                      ∀ q17 : Int, q17 = IntKind.wrap .u8 (1 * 2 ^ (min q16.toNat (IntKind.bits .u8))) → (
                                        ∀ q18 : Int, q18 = bits .xor .u8 n15 q17 → (
                                          (0 : Int) ≤ q12 ∧ (q12 : Int) < (l10 : Int) ∧ ∃ b19 o20 : Nat, a9 = some (⟨b19, o20, none⟩ : Addr) ∧ (
                                            Cells H5 b19 (o20 + (Int.toNat q12)) 1 ∧ ∀ H21 : Heap, Puts H5 b19 (o20 + (Int.toNat q12)) [(.int .u8 q18)] H21 → (
                                              (R (.bool true) H21)))))))))))))))))))))))) := by kernel_rfl


/-- (*pentimento/bits.Map).Run -/
theorem vc_run (x0 : Option Addr) (x1 : Int) (H : Heap) (R : Value → Heap → Prop) : Walk Try.prog 15 [(4, [(6, (.int .i64 0))])] [(.pointer x0), (.int .i64 x1)] H R = (
  ∃ I1 : Int → Heap → Prop, (
    ∃ I2 : Int → Heap → Prop, ∃ μ3 : Int → Heap → Nat, (I2 (max x1 0) H) ∧
    ∀ n4 : Int, ∀ H5 : Heap, I2 n4 H5 → (
      ∃ b6 o7 : Nat, x0 = some (⟨b6, o7, none⟩ : Addr) ∧ (
        ∃ n8 : Int, hcell H5 b6 o7 = some (.int .i64 n8) ∧ (
          ((((n4 : Int) < n8) → (
                Does Try.prog 16 [(.pointer x0), (.int .i64 n4)] H5 fun v9 H10 => ∃ t11 : Bool, v9 = (.bool t11) ∧ (
                  ((t11 = true → (
                        (In64 (n4 + 1)) ∧
                        (I2 (n4 + 1) H10) ∧ μ3 (n4 + 1) H10 < μ3 n4 H5)) ∧ (t11 = false → (
                        I1 n4 H10)))))) ∧ (¬ ((n4 : Int) < n8) → (
                I1 n4 H5))))))) ∧
  ∀ n12 : Int, ∀ H13 : Heap, I1 n12 H13 → (
    ∃ b14 o15 : Nat, x0 = some (⟨b14, o15, none⟩ : Addr) ∧ (
      ∃ n16 : Int, hcell H13 b14 o15 = some (.int .i64 n16) ∧ (
        ((((n16 : Int) ≤ n12) → (
              ∃ b17 o18 : Nat, x0 = some (⟨b17, o18, none⟩ : Addr) ∧ (
                ∃ n19 : Int, hcell H13 b17 o18 = some (.int .i64 n19) ∧ (
                  R (.tuple #[(.int .i64 n19), (.int .i64 0)]) H13)))) ∧ (¬ ((n16 : Int) ≤ n12) → (
              ∃ I20 : Int → Heap → Prop, ∃ μ21 : Int → Heap → Nat, (I20 n12 H13) ∧
              ∀ n22 : Int, ∀ H23 : Heap, I20 n22 H23 → (
                ∃ b24 o25 : Nat, x0 = some (⟨b24, o25, none⟩ : Addr) ∧ (
                  ∃ n26 : Int, hcell H23 b24 o25 = some (.int .i64 n26) ∧ (
                    ((((n22 : Int) < n26) → (
                          Does Try.prog 16 [(.pointer x0), (.int .i64 n22)] H23 fun v27 H28 => ∃ t29 : Bool, v27 = (.bool t29) ∧ (
                            (((t29 = false) → (
                                  (In64 (n22 + 1)) ∧
                                  (I20 (n22 + 1) H28) ∧ μ21 (n22 + 1) H28 < μ21 n22 H23)) ∧ (¬ (t29 = false) → (
                                  (In64 (n22 - n12)) ∧
                                  R (.tuple #[(.int .i64 n12), (.int .i64 (n22 - n12))]) H28)))))) ∧ (¬ ((n22 : Int) < n26) → (
                          (In64 (n22 - n12)) ∧
                          R (.tuple #[(.int .i64 n12), (.int .i64 (n22 - n12))]) H23))))))))))))) := by kernel_rfl


/-- (*pentimento/bits.Map).Free -/
theorem vc_free (x0 : Option Addr) (H : Heap) (R : Value → Heap → Prop) : Walk Try.prog 17 [(7, [(3, (.int .i64 0))])] [(.pointer x0)] H R = (
  ∃ b1 o2 : Nat, x0 = some (⟨b1, o2, none⟩ : Addr) ∧ (
    ∃ n3 : Int, hcell H b1 o2 = some (.int .i64 n3) ∧ (
      ∃ I4 : Int → Int → Heap → Prop, ∃ μ5 : Int → Int → Heap → Nat, (I4 0 0 H) ∧
      ∀ n6 : Int, ∀ n7 : Int, ∀ H8 : Heap, I4 n6 n7 H8 → (
        ((((n7 : Int) < n3) → (
              ∃ I9 : Int → Heap → Prop, (
                Does Try.prog 16 [(.pointer x0), (.int .i64 n7)] H8 fun v10 H11 => ∃ t12 : Bool, v10 = (.bool t12) ∧ (
                  (((t12 = false) → (
                        (In64 (n6 + 1)) ∧
                        I9 (n6 + 1) H11)) ∧ (¬ (t12 = false) → (
                        I9 n6 H11))))) ∧
              ∀ n13 : Int, ∀ H14 : Heap, I9 n13 H14 → (
                (In64 (n7 + 1)) ∧
                (I4 n13 (n7 + 1) H14) ∧ μ5 n13 (n7 + 1) H14 < μ5 n6 n7 H8))) ∧ (¬ ((n7 : Int) < n3) → (
              R (.int .i64 n6) H8))))))) := by kernel_rfl


/-- (*pentimento/bits.Map).Bytes -/
theorem vc_bytes (x0 : Option Addr) (H : Heap) (R : Value → Heap → Prop) : Walk Try.prog 18 [] [(.pointer x0)] H R = (
  ∃ b1 o2 : Nat, x0 = some (⟨b1, o2, none⟩ : Addr) ∧ (
    ∃ a3 : Option Addr, ∃ l4 : Nat, ∃ c5 : Nat, hcell H b1 (o2 + 1) = some (.slice a3 l4 c5) ∧ (
      Does Try.prog 44 [(.slice a3 l4 c5)] H fun v6 H7 => ∃ a8 : Option Addr, ∃ l9 : Nat, ∃ c10 : Nat, v6 = (.slice a8 l9 c10) ∧ (
        R (.slice a8 l9 c10) H7)))) := by kernel_rfl


/-- pentimento/bits.Load -/
theorem vc_load (x0 : Option Addr) (x0l : Nat) (x0c : Nat) (x1 : Int) (H : Heap) (R : Value → Heap → Prop) : Walk Try.prog 19 [(7, [])] [(.slice x0 x0l x0c), (.int .i64 x1)] H R = (
  Does Try.prog 12 [(.int .i64 x1)] H fun v1 H2 => ∃ p3 : Option Addr, v1 = (.pointer p3) ∧ (
    ∃ b4 o5 : Nat, p3 = some (⟨b4, o5, none⟩ : Addr) ∧ (
      ∃ a6 : Option Addr, ∃ l7 : Nat, ∃ c8 : Nat, hcell H2 b4 (o5 + 1) = some (.slice a6 l7 c8) ∧ (
        (((((x0l : Int) : Int) ≠ (l7 : Int)) → (
              R (.tuple #[(.pointer none), (.int .i64 2)]) H2)) ∧ (¬ (((x0l : Int) : Int) ≠ (l7 : Int)) → (
              ∃ I9 : Heap → Prop, (
                ∃ b10 o11 : Nat, p3 = some (⟨b10, o11, none⟩ : Addr) ∧ (
                  ∃ n12 : Int, hcell H2 b10 o11 = some (.int .i64 n12) ∧ (
                    ((8 : Int) ≠ 0) ∧
                    ∀ q13 : Int, q13 = Int.tmod n12 8 → (
                      ((((0 : Int) < q13) → (
                            (In64 ((x0l : Int) - 1)) ∧
                            (0 : Int) ≤ ((x0l : Int) - 1) ∧ (((x0l : Int) - 1) : Int) < (x0l : Int) ∧ ∃ b14 o15 : Nat, x0 = some (⟨b14, o15, none⟩ : Addr) ∧ (
                              ∃ n16 : Int, hcell H2 b14 (o15 + (Int.toNat ((x0l : Int) - 1))) = some (.int .u8 n16) ∧ (
                                ((0 : Int) ≤ q13) ∧
                                ∀ q17 : Int, q17 = Int.fdiv n16 (2 ^ (min q13.toNat (IntKind.bits .u8))) → (
                                  ((((0 : Int) < q17) → (
                                        R (.tuple #[(.pointer none), (.int .i64 2)]) H2)) ∧ (¬ ((0 : Int) < q17) → (
                                        I9 H2)))))))) ∧ (¬ ((0 : Int) < q13) → (
                            I9 H2))))))) ∧
              ∀ H18 : Heap, I9 H18 → (
                Does Try.prog 44 [(.slice x0 x0l x0c)] H18 fun v19 H20 => ∃ a21 : Option Addr, ∃ l22 : Nat, ∃ c23 : Nat, v19 = (.slice a21 l22 c23) ∧ (
                  ∃ b24 o25 : Nat, p3 = some (⟨b24, o25, none⟩ : Addr) ∧ (
                    Cells H20 b24 (o25 + 1) 1 ∧ ∀ H26 : Heap, Puts H20 b24 (o25 + 1) [(.slice a21 l22 c23)] H26 → (
                      R (.tuple #[(.pointer p3), (.int .i64 0)]) H26))))))))))) := by kernel_rfl


/-- (*pentimento/bits.Map).Len -/
theorem vc_len (x0 : Option Addr) (H : Heap) (R : Value → Heap → Prop) : Walk Try.prog 20 [] [(.pointer x0)] H R = (
  ∃ b1 o2 : Nat, x0 = some (⟨b1, o2, none⟩ : Addr) ∧ (
    ∃ n3 : Int, hcell H b1 o2 = some (.int .i64 n3) ∧ (
      R (.int .i64 n3) H))) := by kernel_rfl


/-- (*pentimento/bits.Map).Copy -/
theorem vc_copy (x0 : Option Addr) (H : Heap) (R : Value → Heap → Prop) : Walk Try.prog 23 [] [(.pointer x0)] H R = (
  ∃ b1 o2 : Nat, x0 = some (⟨b1, o2, none⟩ : Addr) ∧ (
    ∃ n3 : Int, hcell H b1 o2 = some (.int .i64 n3) ∧ (
      ∃ b4 o5 : Nat, x0 = some (⟨b4, o5, none⟩ : Addr) ∧ (
        ∃ a6 : Option Addr, ∃ l7 : Nat, ∃ c8 : Nat, hcell H b4 (o5 + 1) = some (.slice a6 l7 c8) ∧ (
          Does Try.prog 44 [(.slice a6 l7 c8)] H fun v9 H10 => ∃ a11 : Option Addr, ∃ l12 : Nat, ∃ c13 : Nat, v9 = (.slice a11 l12 c13) ∧ (
            isL H10 b1 o2 [(.int .i64 n3)] ∧ (∀ b14 : Nat, ∀ H15 : Heap, New H10 b14 [(.int .i64 n3), (.slice a11 l12 c13)] 77 H15 → (
                (R (.pointer (some (⟨b14, 0, none⟩ : Addr))) H15))))))))) := by kernel_rfl


/-- slices.Clone[[]byte,byte] -/
theorem vc_clone (x0 : Option Addr) (x0l : Nat) (x0c : Nat) (H : Heap) (R : Value → Heap → Prop) : Walk Try.prog 44 [] [(.slice x0 x0l x0c)] H R = (
  ((((x0 : Option Addr) = none) → (
        R (.slice none 0 0) H)) ∧ (¬ ((x0 : Option Addr) = none) → (
        ∀ b1 : Nat, ∀ H2 : Heap, New H b1 [] 5 H2 → (
          ∃ old3 new4 : List Value, SRow H2 1 0 (.slice (some (⟨b1, 0, none⟩ : Addr)) 0 0) old3 ∧ SRow H2 1 x0l (.slice x0 x0l x0c) new4 ∧ (∀ u ∈ new4, Value.oneCell' u = true) ∧ (0 + x0l) * 1 ≤ 140737488355328 ∧ (0 + x0l ≤ 0 → roomOf H2 (some (⟨b1, 0, none⟩ : Addr)) (0 * 1) (x0l * 1)) ∧ ∀ a5 : Option Addr, ∀ c6 : Nat, ∀ H7 : Heap, App H2 1 5 [(.int .u8 0)] (some (⟨b1, 0, none⟩ : Addr)) 0 0 old3 new4 x0l a5 c6 H7 → (
            R (.slice a5 (0 + x0l) c6) H7)))))) := by kernel_rfl


end Go.Proofs
end

section
open Go Go.Vc
namespace Go.Proofs

theorem Try.mixed : Try.prog.follows .mixedOrders = true := by kernel_rfl

def pick (n m : Int) : Int := n % m

theorem pick_ok (n m : Int) (H : Heap) (hm : 0 < m) (hm' : m ≤ 1000000000000) : Does Try.prog 11 [.int .i64 n, .int .i64 m] H fun v H' => v = .int .i64 (n % m) ∧ H = H' := by
  refine Fn_of_vc Try.mixed (vc_pick _ _ _ _) ?_
  refine ⟨by omega, ?_⟩
  rintro q rfl
  have h1 := Int.tmod_lt_of_pos n hm
  have h2 := Int.lt_tmod_of_pos n hm
  have h3 : n.tmod m = if 0 ≤ n ∨ m ∣ n then n % m else n % m - m := by
    rw [Int.tmod_eq_emod]
    split <;> simp
    omega
  refine ⟨fun hq => ?_, fun hq => ?_⟩
  · refine ⟨⟨by omega, by omega⟩, ?_, rfl⟩
    congr 1
    have h4 := Int.emod_nonneg n (show m ≠ 0 by omega)
    split at h3 <;> omega
  · refine ⟨?_, rfl⟩
    congr 1
    have h4 := Int.emod_nonneg n (show m ≠ 0 by omega)
    have h5 := Int.emod_lt_of_pos n hm
    split at h3 <;> omega

theorem new_ok (k : Int) (H : Heap) (hk : k ≤ 1000000000000) : Does Try.prog 12 [.int .i64 k] H fun v H' => ∃ pb bb, v = .pointer (some ⟨pb, 0, none⟩) ∧
    IsMap H' pb (some ⟨bb, 0, none⟩) ((k.toNat + 7) / 8) k.toNat (List.replicate ((k.toNat + 7) / 8) 0) ∧ Ext [] H H' ∧ H.size ≤ pb ∧ H.size ≤ bb := by
  refine Fn_of_vc Try.mixed (vc_new _ _ _) ?_
  refine ⟨⟨by omega, by omega⟩, ⟨by omega, by omega⟩, by decide, ?_⟩
  intro q hq
  rw [wrap_tdiv (by omega) (by decide) (by omega)] at hq
  have e1 : q.toNat = (k.toNat + 7) / 8 := by omega
  refine ⟨by omega, Int.le_refl _, by omega, ?_⟩
  intro b H1 h1 b' H2 h2
  have hx := h1.blk
  have hy := h2.blk
  have e2 : max k 0 = (k.toNat : Int) := by omega
  have s1 := h1.size
  have s2 := h2.eq
  have s3 := h1.eq
  rw [e1] at hx hy
  rw [e2] at hy
  refine ⟨b', b, rfl, ⟨by simpa using hy, ?_, by simp [blkOf]; omega, by simp, by omega⟩, h1.ext.trans h2.ext, by omega, by omega⟩
  have := Own.of_new (size := 1) (len := (k.toNat + 7) / 8) (cap := (k.toNat + 7) / 8) (hx.ext h2.ext (by simp)) (by simp) (Nat.le_refl _) (by unfold maxLen; omega)
  simpa [bytesV, List.map_replicate] using this

theorem len_ok {H : Heap} {pb : Nat} {a : Option Addr} {c n : Nat} {xs : List UInt8} (h : IsMap H pb a c n xs) : Does Try.prog 20 [.pointer (some ⟨pb, 0, none⟩)] H fun v H' => v = .int .i64 n ∧ H = H' := by
  refine Fn_of_vc Try.mixed (vc_len _ _ _) ?_
  refine ⟨_, _, rfl, _, h.head.cell 0, rfl, rfl⟩

theorem get_ok {H : Heap} {pb : Nat} {a : Option Addr} {c n : Nat} {xs : List UInt8} (h : IsMap H pb a c n xs) (k : Int) : Does Try.prog 16 [.pointer (some ⟨pb, 0, none⟩), .int .i64 k] H fun v H' => v = .bool (getB n xs k) ∧ H = H' := by
  refine Fn_of_vc Try.mixed (vc_get _ _ _ _) ?_
  have hs := h.small
  have hl := h.len
  refine ⟨fun h0 => ?_, fun h0 => ⟨by simp [getB, h0], rfl⟩⟩
  refine ⟨_, _, rfl, _, h.head.cell 0, ?_⟩
  refine ⟨fun h1 => ?_, fun h1 => ⟨by simp [getB, h1], rfl⟩⟩
  refine ⟨_, _, rfl, _, _, _, h.head.cell 1, by decide, ?_⟩
  intro q hq
  rw [wrap_tdiv h0 (by decide) (by omega)] at hq
  have e1 : q.toNat = k.toNat / 8 := by omega
  have hlt : k.toNat / 8 < xs.length := by omega
  obtain ⟨b, o, ha, hc⟩ := (h.own.row xs.length c).get (bytesV_get xs _ hlt)
  refine ⟨by omega, by omega, b, o, ha, _, by rw [e1]; exact hc, by decide, ?_⟩
  rintro q1 hq1
  rw [tmod_pos h0] at hq1
  refine ⟨by omega, ?_⟩
  rintro _ rfl _ rfl
  refine ⟨?_, rfl⟩
  congr 1
  have e2 : q1.toNat = k.toNat % 8 := by omega
  have := get_byte (xs.getD (k.toNat / 8) 0) q1 (by omega) (by omega)
  rw [e2] at this ⊢
  simp only [this, getB, bit, h0, decide_true, Bool.true_and]
  simp [h1]

theorem set_ok {H : Heap} {pb : Nat} {a : Option Addr} {c n : Nat} {xs : List UInt8} (h : IsMap H pb a c n xs) (k : Int) (on : Bool) : Does Try.prog 14 [.pointer (some ⟨pb, 0, none⟩), .int .i64 k, .bool on] H fun v H' =>
    (v = .bool false ∧ H = H' ∧ (k < 0 ∨ (n : Int) ≤ k ∨ getB n xs k = on)) ∨
    (v = .bool true ∧ 0 ≤ k ∧ k < n ∧ getB n xs k ≠ on ∧ IsMap H' pb a c n (flipL xs k.toNat) ∧ Ext (blkOf a) H H') := by
  refine Fn_of_vc Try.mixed (vc_set _ _ _ _ _) ?_
  have hs := h.small
  have hl := h.len
  refine ⟨fun h0 => .inl ⟨rfl, rfl, .inl h0⟩, fun h0 => ?_⟩
  refine ⟨_, _, rfl, _, h.head.cell 0, ?_⟩
  refine ⟨fun h1 => .inl ⟨rfl, rfl, .inr (.inl h1)⟩, fun h1 => ?_⟩
  refine (get_ok h k).mono ?_
  rintro _ _ ⟨rfl, rfl⟩
  refine ⟨_, rfl, fun h2 => .inl ⟨rfl, rfl, .inr (.inr (Bool.eq_iff_iff.2 h2))⟩, fun h2 => ?_⟩
  refine ⟨_, _, rfl, _, _, _, h.head.cell 1, by decide, ?_⟩
  intro q hq
  rw [wrap_tdiv (by omega) (by decide) (by omega)] at hq
  have e1 : q.toNat = k.toNat / 8 := by omega
  have hlt : k.toNat / 8 < xs.length := by omega
  have hown := h.own
  obtain ⟨o1, o2, o3, o4⟩ := hown
  rcases o4 with ⟨rfl, rfl⟩ | ⟨bb, tail, rfl, hb, hbl⟩
  · omega
  have hcell : hcell H bb (0 + q.toNat) = some (.int .u8 (xs.getD (k.toNat / 8) 0).toNat) := by
    rw [Nat.zero_add, hb.cell, List.getElem?_append_left (by rw [bytesV_length]; omega), e1]
    exact bytesV_get xs _ hlt
  refine ⟨by omega, by omega, bb, 0, rfl, _, hcell, by decide, ?_⟩
  intro q1 hq1
  rw [tmod_pos (by omega)] at hq1
  refine ⟨by omega, ?_⟩
  rintro _ rfl _ rfl
  rw [xor_byte _ q1 (by omega) (by omega)]
  have hin : 0 + q.toNat + 1 ≤ (bytesV xs ++ tail).length := by rw [List.length_append, bytesV_length]; omega
  refine ⟨by omega, by omega, bb, 0, rfl, hb.cells 1 _ hin, ?_⟩
  intro H2 hp
  have hb2 := hp.blk hb hin
  have he := hp.ext
  have e2 : q1.toNat = k.toNat % 8 := by omega
  refine .inr ⟨rfl, by omega, by omega, fun e => h2 (Bool.eq_iff_iff.1 e), ⟨?_, ?_, h.apart, ?_, hs⟩, he⟩
  · rw [flipL_length]
    exact h.head.ext he (by simpa [blkOf] using h.apart)
  · rw [flipL_length]
    refine ⟨by rw [bytesV_length, flipL_length, Nat.mul_one], o2, o3, .inr ⟨bb, tail, rfl, ?_, ?_⟩⟩
    · rw [splice_one _ _ _ (by omega), Nat.zero_add, e1, e2, List.set_append_left _ _ (by rw [bytesV_length]; omega)] at hb2
      rw [flipL, bytesV_set]
      exact hb2
    · rw [← hbl]
      simp [bytesV_length, flipL_length]
  · rw [flipL_length]; exact hl

end Go.Proofs
end

section
open Go Go.Vc
namespace Go.Proofs

/-! ### Plain -/

def skipTo (p : Nat → Bool) : Nat → Nat → Nat
  | 0, k => k
  | f + 1, k => match p k with | true => skipTo p f (k + 1) | false => k

theorem skipTo_step {p : Nat → Bool} {n k : Nat} (h : k < n) (hp : p k = true) : skipTo p (n - (k + 1)) (k + 1) = skipTo p (n - k) k := by
  rw [show n - k = (n - (k + 1)) + 1 by omega, skipTo, hp]
theorem skipTo_stop {p : Nat → Bool} {n k : Nat} (hp : p k = false) : skipTo p (n - k) k = k := by
  cases h : n - k with
  | zero => rfl
  | succ m => rw [skipTo, hp]
theorem skipTo_end {p : Nat → Bool} {n k : Nat} (h : n ≤ k) : skipTo p (n - k) k = k := by
  rw [show n - k = 0 by omega]; rfl
theorem skipTo_ge (p : Nat → Bool) : ∀ (f k : Nat), k ≤ skipTo p f k ∧ skipTo p f k ≤ k + f
  | 0, k => ⟨Nat.le_refl _, Nat.le_refl _⟩
  | f + 1, k => by
    unfold skipTo
    split
    · have := skipTo_ge p f (k + 1); omega
    · omega
theorem skipTo_all (p : Nat → Bool) : ∀ (f k i : Nat), k ≤ i → i < skipTo p f k → p i = true
  | 0, k, i, h1, h2 => by simp only [skipTo] at h2; omega
  | f + 1, k, i, h1, h2 => by
    unfold skipTo at h2
    split at h2
    · rename_i hp
      by_cases e : i = k
      · subst e; exact hp
      · exact skipTo_all p f (k + 1) i (by omega) h2
    · omega
theorem skipTo_not (p : Nat → Bool) : ∀ (f k : Nat), skipTo p f k < k + f → p (skipTo p f k) = false
  | 0, k, h => by simp only [skipTo] at h; omega
  | f + 1, k, h => by
    unfold skipTo at h ⊢
    split
    · rename_i hp
      rw [hp] at h
      simp only at h
      exact skipTo_not p f (k + 1) (by omega)
    · rename_i hp; exact hp

/-- The run of bits that are off, from 'from' on. -/
def runF (p : Nat → Bool) (n k : Nat) : Nat × Nat :=
  let s := skipTo p (n - k) k
  if n ≤ s then (n, 0) else (s, skipTo (fun i => !p i) (n - s) s - s)

def cntF (p : Nat → Bool) : Nat → Nat
  | 0 => 0
  | k + 1 => cntF p k + (if p k then 0 else 1)

theorem cntF_le (p : Nat → Bool) : ∀ n, cntF p n ≤ n
  | 0 => Nat.le_refl _
  | n + 1 => by have := cntF_le p n; unfold cntF; split <;> omega

theorem getB_nat (n : Nat) (xs : List UInt8) (k : Nat) (h : k < n) : getB n xs (k : Int) = bit xs k := by
  simp [getB, h]

def lastB (xs : List UInt8) (n : Nat) : Prop := n % 8 = 0 ∨ (xs.getD (xs.length - 1) 0).toNat / 2 ^ (n % 8) = 0

instance (xs : List UInt8) (n : Nat) : Decidable (lastB xs n) := by unfold lastB; infer_instance

def loadB (xs : List UInt8) (n : Nat) : Prop := xs.length = (n + 7) / 8 ∧ lastB xs n

theorem shr_byte (b : UInt8) (q : Int) (h0 : 0 ≤ q) (h1 : q < 8) : (0 : Int) < Int.fdiv (b.toNat : Int) (2 ^ (min q.toNat (IntKind.bits .u8))) ↔ b.toNat / 2 ^ q.toNat ≠ 0 := by
  have e : min q.toNat (IntKind.bits .u8) = q.toNat := by simp [IntKind.bits]; omega
  rw [e, Int.fdiv_eq_ediv_of_nonneg _ (Int.pow_nonneg (by decide))]
  have : ((b.toNat : Int) / (2 : Int) ^ q.toNat) = ((b.toNat / 2 ^ q.toNat : Nat) : Int) := by simp
  rw [this]
  generalize b.toNat / 2 ^ q.toNat = x
  omega

/-! ### Walks -/

theorem run_ok {H : Heap} {pb : Nat} {a : Option Addr} {c n : Nat} {xs : List UInt8} (h : IsMap H pb a c n xs) (k : Int) (_hk : k ≤ 9223372036854775807) : Does Try.prog 15 [.pointer (some ⟨pb, 0, none⟩), .int .i64 k] H fun v H' =>
    v = .tuple #[.int .i64 (runF (bit xs) n k.toNat).1, .int .i64 (runF (bit xs) n k.toNat).2] ∧ H = H' := by
  refine Fn_of_vc Try.mixed (vc_run _ _ _ _) ?_
  have hs := h.small
  refine ⟨fun m H' => ∃ j : Nat, m = j ∧ H = H' ∧ (k.toNat ≤ j) ∧ (j ≤ n ∨ j = k.toNat) ∧ j = skipTo (bit xs) (n - k.toNat) k.toNat, ?_, ?_⟩
  · refine ⟨fun m H' => ∃ j : Nat, m = j ∧ H = H' ∧ (k.toNat ≤ j) ∧ (j ≤ n ∨ j = k.toNat) ∧ skipTo (bit xs) (n - j) j = skipTo (bit xs) (n - k.toNat) k.toNat, fun m _ => n - m.toNat, ?_, ?_⟩
    · exact ⟨k.toNat, by omega, rfl, Nat.le_refl _, .inr rfl, rfl⟩
    · rintro _ _ ⟨j, rfl, rfl, hj1, hj2, hj⟩
      refine ⟨_, _, rfl, _, h.head.cell 0, fun h1 => ?_, fun h1 => ?_⟩
      · refine (get_ok h j).mono ?_
        rintro _ _ ⟨rfl, rfl⟩
        rw [getB_nat _ _ _ (by omega)]
        refine ⟨_, rfl, fun h2 => ⟨⟨by omega, by omega⟩, ⟨j + 1, by omega, rfl, by omega, .inl (by omega), ?_⟩, ?_⟩, fun h2 => ?_⟩
        · rw [skipTo_step (by omega) h2]; exact hj
        · show n - ((j : Int) + 1).toNat < n - (j : Int).toNat
          omega
        · refine ⟨j, rfl, rfl, hj1, hj2, ?_⟩
          rw [← hj, skipTo_stop h2]
      · refine ⟨j, rfl, rfl, hj1, hj2, ?_⟩
        rw [← hj, skipTo_end (by omega)]
  · rintro _ _ ⟨j, rfl, rfl, hj1, hj2, hj⟩
    refine ⟨_, _, rfl, _, h.head.cell 0, fun h1 => ?_, fun h1 => ?_⟩
    · refine ⟨_, _, rfl, _, h.head.cell 0, ?_, rfl⟩
      have : runF (bit xs) n k.toNat = (n, 0) := by
        unfold runF
        simp only [← hj]
        rw [if_pos (by omega)]
      rw [this]; rfl
    · have hrun : runF (bit xs) n k.toNat = (j, skipTo (fun i => !bit xs i) (n - j) j - j) := by
        unfold runF
        simp only [← hj]
        rw [if_neg (by omega)]
      refine ⟨fun m H' => ∃ i : Nat, m = i ∧ H = H' ∧ j ≤ i ∧ i ≤ n ∧ skipTo (fun i => !bit xs i) (n - i) i = skipTo (fun i => !bit xs i) (n - j) j, fun m _ => n - m.toNat, ?_, ?_⟩
      · exact ⟨j, rfl, rfl, Nat.le_refl _, by omega, rfl⟩
      · rintro _ _ ⟨i, rfl, rfl, hi1, hi2, hi⟩
        have fin : skipTo (fun i => !bit xs i) (n - i) i = i → In64 ((i : Int) - j) ∧ (Value.tuple #[.int .i64 (j : Int), .int .i64 ((i : Int) - j)] = Value.tuple #[.int .i64 (runF (bit xs) n k.toNat).1, .int .i64 (runF (bit xs) n k.toNat).2] ∧ H = H) := by
          intro h3
          refine ⟨⟨by omega, by omega⟩, ?_, rfl⟩
          rw [hrun, ← hi, h3]
          simp only
          rw [Int.ofNat_sub hi1]
        refine ⟨_, _, rfl, _, h.head.cell 0, fun h2 => ?_, fun h2 => ?_⟩
        · refine (get_ok h i).mono ?_
          rintro _ _ ⟨rfl, rfl⟩
          rw [getB_nat _ _ _ (by omega)]
          refine ⟨_, rfl, fun h3 => ⟨⟨by omega, by omega⟩, ⟨i + 1, by omega, rfl, by omega, by omega, ?_⟩, ?_⟩, fun h3 => ?_⟩
          · rw [skipTo_step (by omega) (by simp [h3])]; exact hi
          · show n - ((i : Int) + 1).toNat < n - (i : Int).toNat
            omega
          · exact fin (skipTo_stop (by simpa using h3))
        · exact fin (skipTo_end (by omega))

theorem free_ok {H : Heap} {pb : Nat} {a : Option Addr} {c n : Nat} {xs : List UInt8} (h : IsMap H pb a c n xs) : Does Try.prog 17 [.pointer (some ⟨pb, 0, none⟩)] H fun v H' => v = .int .i64 (cntF (bit xs) n) ∧ H = H' := by
  refine Fn_of_vc Try.mixed (vc_free _ _ _) ?_
  have hs := h.small
  refine ⟨_, _, rfl, _, h.head.cell 0, fun m k H' => ∃ j : Nat, k = j ∧ j ≤ n ∧ m = cntF (bit xs) j ∧ H = H', fun _ k _ => n - k.toNat, ⟨0, rfl, Nat.zero_le _, rfl, rfl⟩, ?_⟩
  rintro _ _ _ ⟨j, rfl, hj, rfl, rfl⟩
  have hle := cntF_le (bit xs) j
  refine ⟨fun h1 => ?_, fun h1 => ?_⟩
  · refine ⟨fun m H' => m = cntF (bit xs) (j + 1) ∧ H = H', ?_, ?_⟩
    · refine (get_ok h j).mono ?_
      rintro _ _ ⟨rfl, rfl⟩
      rw [getB_nat _ _ _ (by omega)]
      refine ⟨_, rfl, fun h2 => ⟨⟨by omega, by omega⟩, ?_, rfl⟩, fun h2 => ⟨?_, rfl⟩⟩
      · simp [cntF, h2]
      · simp [cntF, h2]
    · rintro _ _ ⟨rfl, rfl⟩
      refine ⟨⟨by omega, by omega⟩, ⟨j + 1, by omega, by omega, rfl, rfl⟩, ?_⟩
      show n - ((j : Int) + 1).toNat < n - (j : Int).toNat
      omega
  · have : j = n := by omega
    subst this
    exact ⟨rfl, rfl⟩

theorem clone_ok {H : Heap} {a : Option Addr} {len cap : Nat} {xs : List UInt8} (h : SRow H 1 len (.slice a len cap) (bytesV xs)) (hl : len ≤ 140737488355328) : Does Try.prog 44 [.slice a len cap] H fun v H' =>
    ∃ a' c', v = .slice a' len c' ∧ Own H' 1 a' len c' (bytesV xs) ∧ Ext [] H H' ∧ (∀ k, k ∈ blkOf a' → H.size ≤ k) := by
  refine Fn_of_vc Try.mixed (vc_clone _ _ _ _ _) ?_
  refine ⟨fun h0 => ?_, fun h0 => ?_⟩
  · subst h0
    have h2 := h.2
    simp only at h2
    have h1 := h.1
    rw [h2] at h1
    have : len = 0 := by simpa using h1.symm
    subst this
    rw [h2]
    exact ⟨none, 0, rfl, Own.nil _ _, Ext.refl _ _, fun k hk => by cases hk⟩
  · intro b H2 hn
    have hx := hn.ext
    have ho : Own H2 1 (some ⟨b, 0, none⟩) 0 0 [] := ⟨rfl, Nat.le_refl _, by unfold maxLen; omega, .inr ⟨b, [], rfl, hn.blk, rfl⟩⟩
    refine ⟨[], bytesV xs, ho.row 0 0, h.ext hx (by simp), bytesV_one xs, by omega, fun hle => ?_, ?_⟩
    · exact ho.room (n := len) hle
    · intro a5 c6 H7 happ
      obtain ⟨h1, h2, h3⟩ := happ.own ho (ho.row 0 0) h.1 rfl
      simp only [Nat.zero_add, List.nil_append] at h1 ⊢
      have hb := hn.eq
      refine ⟨a5, c6, rfl, h1, hx.trans' h2 (fun i hi => ?_), fun k hk => ?_⟩
      · simp only [blkOf, List.mem_singleton] at hi; omega
      · rcases h3 k hk with h4 | h4
        · simp only [blkOf, List.mem_singleton] at h4; omega
        · have := hn.size; omega

theorem bytes_ok {H : Heap} {pb : Nat} {a : Option Addr} {c n : Nat} {xs : List UInt8} (h : IsMap H pb a c n xs) : Does Try.prog 18 [.pointer (some ⟨pb, 0, none⟩)] H fun v H' =>
    ∃ a' c', v = .slice a' xs.length c' ∧ Own H' 1 a' xs.length c' (bytesV xs) ∧ Ext [] H H' ∧ (∀ k, k ∈ blkOf a' → H.size ≤ k) := by
  refine Fn_of_vc Try.mixed (vc_bytes _ _ _) ?_
  have hs := h.small
  have hl := h.len
  refine ⟨_, _, rfl, _, _, _, h.head.cell 1, (clone_ok (h.own.row _ _) (by omega)).mono ?_⟩
  rintro _ H' ⟨a', c', rfl, h1, h2, h3⟩
  exact ⟨_, _, _, rfl, a', c', rfl, h1, h2, h3⟩

/-- What a loaded map is. -/
def Loaded (H H' : Heap) (n : Nat) (xs : List UInt8) (v : Value) : Prop :=
  (¬ loadB xs n ∧ v = .tuple #[.pointer none, .int .i64 2]) ∨
  (loadB xs n ∧ ∃ pb a c, v = .tuple #[.pointer (some ⟨pb, 0, none⟩), .int .i64 0] ∧ IsMap H' pb a c n xs ∧ H.size ≤ pb ∧ (∀ k, k ∈ blkOf a → H.size ≤ k))

theorem load_ok {H : Heap} {a : Option Addr} {len cap : Nat} {xs : List UInt8} (h : SRow H 1 len (.slice a len cap) (bytesV xs)) (k : Int) (hk : k ≤ 1000000000000) :
    Does Try.prog 19 [.slice a len cap, .int .i64 k] H fun v H' => Loaded H H' k.toNat xs v ∧ Ext [] H H' := by
  refine Fn_of_vc Try.mixed (vc_load _ _ _ _ _ _) ?_
  have hlen : xs.length = len := by have := h.1; rw [bytesV_length] at this; omega
  refine (new_ok k H hk).mono ?_
  rintro _ H2 ⟨pb, bb, rfl, hm, hx, hp, hb⟩
  have hm0 := hm
  generalize k.toNat = n at *
  have hsm := hm.small
  refine ⟨_, rfl, _, _, rfl, _, _, _, hm.head.cell 1, fun h1 => ?_, fun h1 => ?_⟩
  · refine ⟨.inl ⟨fun hq => ?_, rfl⟩, hx⟩
    rw [List.length_replicate] at h1
    have := hq.1
    omega
  · rw [List.length_replicate] at h1
    have h1' : xs.length = (n + 7) / 8 := by omega
    have hr2 := h.ext hx (by simp)
    refine ⟨fun H' => H2 = H' ∧ lastB xs n, ?_, ?_⟩
    · refine ⟨_, _, rfl, _, hm.head.cell 0, by decide, ?_⟩
      intro q hq
      rw [tmod_pos (by omega)] at hq
      have e2 : q.toNat = n % 8 := by omega
      refine ⟨fun h2 => ?_, fun h2 => ⟨rfl, .inl (by omega)⟩⟩
      refine ⟨⟨by omega, by omega⟩, by omega, by omega, ?_⟩
      have hlt : xs.length - 1 < xs.length := by omega
      obtain ⟨b, o, ha, hc⟩ := hr2.get (bytesV_get xs _ hlt)
      refine ⟨b, o, ha, _, by rw [show Int.toNat ((len : Int) - 1) = xs.length - 1 by omega]; exact hc, by omega, ?_⟩
      rintro _ rfl
      have hsb := shr_byte (xs.getD (xs.length - 1) 0) q (by omega) (by omega)
      refine ⟨fun h3 => ?_, fun h3 => ?_⟩
      · refine ⟨.inl ⟨fun hq => ?_, rfl⟩, hx⟩
        have h4 := hsb.1 h3
        rw [e2] at h4
        rcases hq.2 with h5 | h5
        · omega
        · exact h4 h5
      · refine ⟨rfl, .inr ?_⟩
        rw [hsb, e2] at h3
        exact Decidable.not_not.1 h3
    · rintro _ ⟨rfl, hlast⟩
      refine (clone_ok hr2 (by omega)).mono ?_
      rintro _ H3 ⟨a', c', rfl, h2, h3, h4⟩
      have hhead := hm.head.ext h3 (by simp)
      refine ⟨_, _, _, rfl, _, _, rfl, hhead.cells 1 1 (by simp), ?_⟩
      intro H4 hput
      have hb4 := hput.blk hhead (by simp)
      rw [splice_one _ _ _ (by simp)] at hb4
      have hxp := hput.ext
      have hpb := hm.head.lt
      have hna : ∀ k, k ∈ blkOf a' → k ≠ pb := by
        intro k hk e
        have := h4 k hk
        omega
      refine ⟨.inr ⟨⟨h1', hlast⟩, pb, a', c', rfl, ⟨?_, ?_, fun hk => hna _ hk rfl, h1', hsm⟩, hp, fun k hk => ?_⟩, ?_⟩
      · rw [hlen]; exact hb4
      · rw [hlen]; exact h2.ext hxp (by intro k hk; simpa using hna k hk)
      · have := h4 k hk
        have := hx.size
        omega
      · exact (hx.trans h3).trans' hxp (by intro i hi; simp only [List.mem_singleton] at hi; omega)

theorem copy_ok {H : Heap} {pb : Nat} {a : Option Addr} {c n : Nat} {xs : List UInt8} (h : IsMap H pb a c n xs) : Does Try.prog 23 [.pointer (some ⟨pb, 0, none⟩)] H fun v H' =>
    ∃ pb' a' c', v = .pointer (some ⟨pb', 0, none⟩) ∧ IsMap H' pb' a' c' n xs ∧ Ext [] H H' ∧ H.size ≤ pb' ∧ (∀ k, k ∈ blkOf a' → H.size ≤ k) := by
  refine Fn_of_vc Try.mixed (vc_copy _ _ _) ?_
  have hs := h.small
  have hl := h.len
  refine ⟨_, _, rfl, _, h.head.cell 0, _, _, rfl, _, _, _, h.head.cell 1, (clone_ok (h.own.row _ _) (by omega)).mono ?_⟩
  rintro _ H' ⟨a', c', rfl, h1, h2, h3⟩
  refine ⟨_, _, _, rfl, ⟨(h.head.ext h2 (by simp)).cell 0, trivial⟩, ?_⟩
  intro b' H2 hn
  have hbe := hn.eq
  refine ⟨b', a', c', rfl, ⟨hn.blk, h1.ext hn.ext (by simp), fun hk => ?_, hl, hs⟩, h2.trans hn.ext, ?_, h3⟩
  · have := h1.lt _ hk; omega
  · have := h2.size; omega

end Go.Proofs
end

section
open Go Go.Vc
namespace Go.Proofs
set_option maxRecDepth 100000
/-- pentimento/pentimentolaw6.known -/
theorem vc_known (H : Heap) (R : Value → Heap → Prop) : Walk Try.prog 13 [] [] H R = (
  Does Try.prog 12 [(.int .i64 10)] H fun v1 H2 => ∃ p3 : Option Addr, v1 = (.pointer p3) ∧ (
    ((((p3 : Option Addr) = none) → (
          R (.bool false) H2)) ∧ (¬ ((p3 : Option Addr) = none) → (
          Does Try.prog 14 [(.pointer p3), (.int .i64 0), (.bool true)] H2 fun v4 H5 => ∃ t6 : Bool, v4 = (.bool t6) ∧ (
            (((t6 = false) → (
                  R (.bool false) H5)) ∧ (¬ (t6 = false) → (
                  Does Try.prog 15 [(.pointer p3), (.int .i64 0)] H5 fun v7 H8 => ∃ n9 : Int, ∃ n10 : Int, v7 = (.tuple #[(.int .i64 n9), (.int .i64 n10)]) ∧ (
                    ((((n9 : Int) = 1) → (
                          ((((n10 : Int) = 9) → (
                                Does Try.prog 16 [(.pointer p3), (.int .i64 0)] H8 fun v11 H12 => ∃ t13 : Bool, v11 = (.bool t13) ∧ (
                                  ((t13 = true → (
                                        Does Try.prog 17 [(.pointer p3)] H12 fun v14 H15 => ∃ n16 : Int, v14 = (.int .i64 n16) ∧ (
                                          R (.bool (@decide ((n16 : Int) = 9) (Classical.propDecidable _))) H15))) ∧ (t13 = false → (
                                        R (.bool false) H12)))))) ∧ (¬ ((n10 : Int) = 9) → (
                                R (.bool false) H8))))) ∧ (¬ ((n9 : Int) = 1) → (
                          R (.bool false) H8))))))))))))) := by kernel_rfl


end Go.Proofs
end

section
open Go Go.Vc
namespace Go.Proofs

theorem known_ok (H : Heap) : Does Try.prog 13 [] H fun v H' => v = .bool true ∧ Ext [] H H' := by
  refine Fn_of_vc Try.mixed (vc_known _ _) ?_
  refine (new_ok 10 H (by decide)).mono ?_
  rintro _ H2 ⟨pb, bb, rfl, h, hx, hp, hb⟩
  refine ⟨_, rfl, fun e => (by cases e), fun _ => ?_⟩
  refine (set_ok h 0 true).mono ?_
  rintro _ H3 (⟨rfl, _, h3⟩ | ⟨rfl, _, _, _, h3, hx3⟩)
  · exfalso; revert h3; decide
  refine ⟨_, rfl, fun e => (by cases e), fun _ => ?_⟩
  have hx4 : Ext [] H H3 := hx.trans' hx3 (by intro i hi; simp only [blkOf, List.mem_singleton] at hi; omega)
  refine (run_ok h3 0 (by decide)).mono ?_
  rintro _ _ ⟨rfl, rfl⟩
  refine ⟨_, _, rfl, fun _ => ⟨fun _ => ?_, fun e => absurd (by decide) e⟩, fun e => absurd (by decide) e⟩
  refine (get_ok h3 0).mono ?_
  rintro _ _ ⟨rfl, rfl⟩
  refine ⟨_, rfl, fun _ => ?_, fun e => absurd e (by decide)⟩
  refine (free_ok h3).mono ?_
  rintro _ _ ⟨rfl, rfl⟩
  refine ⟨_, rfl, yes ?_, hx4⟩
  show ((cntF (bit (flipL (List.replicate (((10 : Int).toNat + 7) / 8) 0) (0 : Int).toNat)) (10 : Int).toNat : Nat) : Int) = 9
  decide

end Go.Proofs
end

section
open Go Go.Vc
namespace Go.Proofs

structure RunSpec (p : Nat → Bool) (n k s c : Nat) : Prop where
  from_ : k ≤ s
  on : ∀ i, k ≤ i → i < s → p i = true
  off : ∀ i, s ≤ i → i < s + c → p i = false
  fin : s + c ≤ n
  next : s + c < n → p (s + c) = true
  zero : c = 0 → s = n

theorem runF_spec (p : Nat → Bool) (n k : Nat) (hk : k ≤ n) : RunSpec p n k (runF p n k).1 (runF p n k).2 := by
  unfold runF
  simp only
  have h1 := skipTo_ge p (n - k) k
  have h2 := skipTo_all p (n - k) k
  have h3 := skipTo_not p (n - k) k
  generalize skipTo p (n - k) k = s at *
  split
  · exact ⟨hk, fun i hi hl => h2 i hi (by omega), fun i hi hl => by omega, Nat.le_refl _, fun h => by omega, fun _ => rfl⟩
  · have g1 := skipTo_ge (fun i => !p i) (n - s) s
    have g2 := skipTo_all (fun i => !p i) (n - s) s
    have g3 := skipTo_not (fun i => !p i) (n - s) s
    have g4 : skipTo (fun i => !p i) (n - s) s ≠ s := by
      have e : n - s = (n - s - 1) + 1 := by omega
      rw [e, skipTo, h3 (by omega)]
      have := (skipTo_ge (fun i => !p i) (n - s - 1) (s + 1)).1
      simp only [Bool.not_false]
      omega
    generalize skipTo (fun i => !p i) (n - s) s = t at *
    refine ⟨h1.1, h2, fun i hi hl => by simpa using g2 i hi (by simp only at hl; omega), by simp only; omega, fun h => ?_, fun h => by simp only at h; omega⟩
    have e : s + (t - s) = t := by omega
    simp only [e] at h ⊢
    simpa using g3 (by omega)

theorem cntF_on {p : Nat → Bool} {k : Nat} : ∀ {s : Nat}, k ≤ s → (∀ i, k ≤ i → i < s → p i = true) → cntF p s = cntF p k
  | 0, h, _ => by rw [Nat.le_zero.1 h]
  | s + 1, h, ho => by
    by_cases e : k = s + 1
    · rw [e]
    · rw [cntF, ho s (by omega) (by omega), cntF_on (by omega) (fun i h1 h2 => ho i h1 (by omega))]
      simp

theorem cntF_off {p : Nat → Bool} {s : Nat} : ∀ {c : Nat}, (∀ i, s ≤ i → i < s + c → p i = false) → cntF p (s + c) = cntF p s + c
  | 0, _ => rfl
  | c + 1, ho => by
    rw [← Nat.add_assoc, cntF, ho (s + c) (by omega) (by omega), cntF_off (fun i h1 h2 => ho i h1 (by omega))]
    simp
    omega

end Go.Proofs
end

