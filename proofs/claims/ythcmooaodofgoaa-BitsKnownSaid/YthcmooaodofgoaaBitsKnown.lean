/-
  The law BitsKnown is true and changes nothing that was there, whatever the input. No condition.
-/
import Derived.Test.YthcmooaodofgoaaProg
import Derived.Test.YthcmooaodofgoaaVc
import Derived.Test.YthcmooaodofgoaaBits
import Derived.Test.YthcmooaodofgoaaRows
import Derived.WalkKit
import Derived.ProofKit
import Derived.OpenShut
import Derived.ShutString
import Derived.ChangeOld
import Derived.Below

section
open Go Go.Vc
namespace Go.Proofs
set_option maxRecDepth 100000
/-- pentimento/pentimentolaw6.known -/
theorem vc_known (H : Heap) (R : Value → Heap → Prop) : Walk Try.prog 13 [] [] H R = (
  Does Try.prog 12 [(.int .i64 10)] H fun v1 H2 => ∃ p3 : Option Addr, v1 = (.pointer p3) ∧ (
    ((((p3 : Option Addr) = none) → (
          R (.bool false) H2)) ∧ (¬ ((p3 : Option Addr) = none) → (
          Does Try.prog 14 [(.pointer p3), (.int .i64 0), (.bool true)] H2 fun v4 H5 => ∃ t6 : Bool, v4 = (.bool t6) ∧ (
            (((t6 = false) → (
                  R (.bool false) H5)) ∧ (¬ (t6 = false) → (
                  Does Try.prog 15 [(.pointer p3), (.int .i64 0)] H5 fun v7 H8 => ∃ n9 : Int, ∃ n10 : Int, v7 = (.tuple #[(.int .i64 n9), (.int .i64 n10)]) ∧ (
                    ((((n9 : Int) = 1) → (
                          ((((n10 : Int) = 9) → (
                                Does Try.prog 16 [(.pointer p3), (.int .i64 0)] H8 fun v11 H12 => ∃ t13 : Bool, v11 = (.bool t13) ∧ (
                                  ((t13 = true → (
                                        Does Try.prog 17 [(.pointer p3)] H12 fun v14 H15 => ∃ n16 : Int, v14 = (.int .i64 n16) ∧ (
                                          R (.bool (@decide ((n16 : Int) = 9) (Classical.propDecidable _))) H15))) ∧ (t13 = false → (
                                        R (.bool false) H12)))))) ∧ (¬ ((n10 : Int) = 9) → (
                                R (.bool false) H8))))) ∧ (¬ ((n9 : Int) = 1) → (
                          R (.bool false) H8))))))))))))) := by kernel_rfl


/-- pentimento/pentimentoref6.NewMap -/
theorem vc_rnew (x0 : Int) (H : Heap) (R : Value → Heap → Prop) : Walk Try.prog 21 [] [(.int .i64 x0)] H R = (
  (0 : Int) ≤ (max 0 x0) ∧ ((max 0 x0) : Int) ≤ (max 0 x0) ∧ (1 : Int) * (max 0 x0) ≤ 281474976710656 ∧ ∀ b1 : Nat, ∀ H2 : Heap, New H b1 (List.replicate (Int.toNat (max 0 x0)) (.bool false)) 4 H2 → (
    ∀ b3 : Nat, ∀ H4 : Heap, New H2 b3 [(.slice (some (⟨b1, 0, none⟩ : Addr)) (Int.toNat (max 0 x0)) (Int.toNat (max 0 x0)))] 46 H4 → (
      R (.pointer (some (⟨b3, 0, none⟩ : Addr))) H4))) := by kernel_rfl


/-- (*pentimento/pentimentoref6.Map).Bytes -/
theorem vc_rbytes (x0 : Option Addr) (H : Heap) (R : Value → Heap → Prop) : Walk Try.prog 22 [] [(.pointer x0)] H R = (
  ∃ b1 o2 : Nat, x0 = some (⟨b1, o2, none⟩ : Addr) ∧ (
    ∃ a3 : Option Addr, ∃ l4 : Nat, ∃ c5 : Nat, hcell H b1 o2 = some (.slice a3 l4 c5) ∧ (
      (In64 ((l4 : Int) + 7)) ∧
      ((8 : Int) ≠ 0) ∧
      ∀ q6 : Int, q6 = IntKind.wrap .i64 (Int.tdiv ((l4 : Int) + 7) 8) → (
        (0 : Int) ≤ q6 ∧ (q6 : Int) ≤ q6 ∧ (1 : Int) * q6 ≤ 281474976710656 ∧ ∀ b7 : Nat, ∀ H8 : Heap, New H b7 (List.replicate (Int.toNat q6) (.int .u8 0)) 5 H8 → (
          ∃ I9 : Int → Heap → Prop, ∃ μ10 : Int → Heap → Nat, (I9 0 H8) ∧
          ∀ n11 : Int, ∀ H12 : Heap, I9 n11 H12 → (
            ∃ b13 o14 : Nat, x0 = some (⟨b13, o14, none⟩ : Addr) ∧ (
              ∃ a15 : Option Addr, ∃ l16 : Nat, ∃ c17 : Nat, hcell H12 b13 o14 = some (.slice a15 l16 c17) ∧ (
                ((((n11 : Int) < (l16 : Int)) → (
                      ∃ b18 o19 : Nat, x0 = some (⟨b18, o19, none⟩ : Addr) ∧ (
                        ∃ a20 : Option Addr, ∃ l21 : Nat, ∃ c22 : Nat, hcell H12 b18 o19 = some (.slice a20 l21 c22) ∧ (
                          (0 : Int) ≤ n11 ∧ (n11 : Int) < (l21 : Int) ∧ ∃ b23 o24 : Nat, a20 = some (⟨b23, o24, none⟩ : Addr) ∧ (
                            ∃ t25 : Bool, hcell H12 b23 (o24 + (Int.toNat n11)) = some (.bool t25) ∧ (
                              ((t25 = true → (
                                    ((8 : Int) ≠ 0) ∧
                                    ∀ q26 : Int, q26 = IntKind.wrap .i64 (Int.tdiv n11 8) → (
                                      ((8 : Int) ≠ 0) ∧
                                      ∀ q27 : Int, q27 = IntKind.wrap .i64 (Int.tdiv n11 8) → (
                                        (0 : Int) ≤ q27 ∧ (q27 : Int) < ((Int.toNat q6) : Int) ∧ ∃ b28 o29 : Nat, (some (⟨b7, 0, none⟩ : Addr)) = some (⟨b28, o29, none⟩ : Addr) ∧ (
                                          ∃ n30 : Int, hcell H12 b28 (o29 + (Int.toNat q27)) = some (.int .u8 n30) ∧ (
                                            ((8 : Int) ≠ 0) ∧
                                            ∀ q31 : Int, q31 = Int.tmod n11 8 → (
                                              ∀ q32 : Int, q32 = IntKind.wrap .u64 q31 → (
                                                ((0 : Int) ≤ q32) ∧
                                                ∀ q33 : Int, q33 = IntKind.wrap .u8 (1 * 2 ^ (min q32.toNat (IntKind.bits .u8))) → (
                                                  ∀ q34 : Int, q34 = bits .or .u8 n30 q33 → (
                                                    (0 : Int) ≤ q26 ∧ (q26 : Int) < ((Int.toNat q6) : Int) ∧ ∃ b35 o36 : Nat, (some (⟨b7, 0, none⟩ : Addr)) = some (⟨b35, o36, none⟩ : Addr) ∧ (
                                                      Cells H12 b35 (o36 + (Int.toNat q26)) 1 ∧ ∀ H37 : Heap, Puts H12 b35 (o36 + (Int.toNat q26)) [(.int .u8 q34)] H37 → (
                                                        (In64 (n11 + 1)) ∧
                                                        (I9 (n11 + 1) H37) ∧ μ10 (n11 + 1) H37 < μ10 n11 H12)))))))))))) ∧ (t25 = false → (
                                    (In64 (n11 + 1)) ∧
                                    (I9 (n11 + 1) H12) ∧ μ10 (n11 + 1) H12 < μ10 n11 H12))))))))) ∧ (¬ ((n11 : Int) < (l16 : Int)) → (
                      R (.slice (some (⟨b7, 0, none⟩ : Addr)) (Int.toNat q6) (Int.toNat q6)) H12))))))))))) := by kernel_rfl


/-- (*pentimento/pentimentoref6.Map).Run -/
theorem vc_rrun (x0 : Option Addr) (x1 : Int) (H : Heap) (R : Value → Heap → Prop) : Walk Try.prog 24 [] [(.pointer x0), (.int .i64 x1)] H R = (
  ∃ I1 : Int → Heap → Prop, ∃ μ2 : Int → Heap → Nat, (I1 (max 0 x1) H) ∧
  ∀ n3 : Int, ∀ H4 : Heap, I1 n3 H4 → (
    ∃ b5 o6 : Nat, x0 = some (⟨b5, o6, none⟩ : Addr) ∧ (
      ∃ a7 : Option Addr, ∃ l8 : Nat, ∃ c9 : Nat, hcell H4 b5 o6 = some (.slice a7 l8 c9) ∧ (
        ((((n3 : Int) < (l8 : Int)) → (
              ∃ b10 o11 : Nat, x0 = some (⟨b10, o11, none⟩ : Addr) ∧ (
                ∃ a12 : Option Addr, ∃ l13 : Nat, ∃ c14 : Nat, hcell H4 b10 o11 = some (.slice a12 l13 c14) ∧ (
                  (0 : Int) ≤ n3 ∧ (n3 : Int) < (l13 : Int) ∧ ∃ b15 o16 : Nat, a12 = some (⟨b15, o16, none⟩ : Addr) ∧ (
                    ∃ t17 : Bool, hcell H4 b15 (o16 + (Int.toNat n3)) = some (.bool t17) ∧ (
                      ((t17 = true → (
                            (In64 (n3 + 1)) ∧
                            (I1 (n3 + 1) H4) ∧ μ2 (n3 + 1) H4 < μ2 n3 H4)) ∧ (t17 = false → (
                            ∃ b18 o19 : Nat, x0 = some (⟨b18, o19, none⟩ : Addr) ∧ (
                              ∃ a20 : Option Addr, ∃ l21 : Nat, ∃ c22 : Nat, hcell H4 b18 o19 = some (.slice a20 l21 c22) ∧ (
                                (((((l21 : Int) : Int) ≤ n3) → (
                                      ∃ b23 o24 : Nat, x0 = some (⟨b23, o24, none⟩ : Addr) ∧ (
                                        ∃ a25 : Option Addr, ∃ l26 : Nat, ∃ c27 : Nat, hcell H4 b23 o24 = some (.slice a25 l26 c27) ∧ (
                                          R (.tuple #[(.int .i64 (l26 : Int)), (.int .i64 0)]) H4)))) ∧ (¬ (((l21 : Int) : Int) ≤ n3) → (
                                      ∃ I28 : Int → Heap → Prop, ∃ μ29 : Int → Heap → Nat, (I28 0 H4) ∧
                                      ∀ n30 : Int, ∀ H31 : Heap, I28 n30 H31 → (
                                        (In64 (n3 + n30)) ∧
                                        ∃ b32 o33 : Nat, x0 = some (⟨b32, o33, none⟩ : Addr) ∧ (
                                          ∃ a34 : Option Addr, ∃ l35 : Nat, ∃ c36 : Nat, hcell H31 b32 o33 = some (.slice a34 l35 c36) ∧ (
                                            (((((n3 + n30) : Int) < (l35 : Int)) → (
                                                  ∃ b37 o38 : Nat, x0 = some (⟨b37, o38, none⟩ : Addr) ∧ (
                                                    ∃ a39 : Option Addr, ∃ l40 : Nat, ∃ c41 : Nat, hcell H31 b37 o38 = some (.slice a39 l40 c41) ∧ (
                                                      (In64 (n3 + n30)) ∧
                                                      (0 : Int) ≤ (n3 + n30) ∧ ((n3 + n30) : Int) < (l40 : Int) ∧ ∃ b42 o43 : Nat, a39 = some (⟨b42, o43, none⟩ : Addr) ∧ (
                                                        ∃ t44 : Bool, hcell H31 b42 (o43 + (Int.toNat (n3 + n30))) = some (.bool t44) ∧ (
                                                          (((t44 = false) → (
                                                            (In64 (n30 + 1)) ∧
                                                            (I28 (n30 + 1) H31) ∧ μ29 (n30 + 1) H31 < μ29 n30 H31)) ∧ (¬ (t44 = false) → (
                                                            R (.tuple #[(.int .i64 n3), (.int .i64 n30)]) H31))))))))) ∧ (¬ (((n3 + n30) : Int) < (l35 : Int)) → (
                                                  R (.tuple #[(.int .i64 n3), (.int .i64 n30)]) H31)))))))))))))))))))) ∧ (¬ ((n3 : Int) < (l8 : Int)) → (
              ∃ b45 o46 : Nat, x0 = some (⟨b45, o46, none⟩ : Addr) ∧ (
                ∃ a47 : Option Addr, ∃ l48 : Nat, ∃ c49 : Nat, hcell H4 b45 o46 = some (.slice a47 l48 c49) ∧ (
                  (((((l48 : Int) : Int) ≤ n3) → (
                        ∃ b50 o51 : Nat, x0 = some (⟨b50, o51, none⟩ : Addr) ∧ (
                          ∃ a52 : Option Addr, ∃ l53 : Nat, ∃ c54 : Nat, hcell H4 b50 o51 = some (.slice a52 l53 c54) ∧ (
                            R (.tuple #[(.int .i64 (l53 : Int)), (.int .i64 0)]) H4)))) ∧ (¬ (((l48 : Int) : Int) ≤ n3) → (
                        ∃ I55 : Int → Heap → Prop, ∃ μ56 : Int → Heap → Nat, (I55 0 H4) ∧
                        ∀ n57 : Int, ∀ H58 : Heap, I55 n57 H58 → (
                          (In64 (n3 + n57)) ∧
                          ∃ b59 o60 : Nat, x0 = some (⟨b59, o60, none⟩ : Addr) ∧ (
                            ∃ a61 : Option Addr, ∃ l62 : Nat, ∃ c63 : Nat, hcell H58 b59 o60 = some (.slice a61 l62 c63) ∧ (
                              (((((n3 + n57) : Int) < (l62 : Int)) → (
                                    ∃ b64 o65 : Nat, x0 = some (⟨b64, o65, none⟩ : Addr) ∧ (
                                      ∃ a66 : Option Addr, ∃ l67 : Nat, ∃ c68 : Nat, hcell H58 b64 o65 = some (.slice a66 l67 c68) ∧ (
                                        (In64 (n3 + n57)) ∧
                                        (0 : Int) ≤ (n3 + n57) ∧ ((n3 + n57) : Int) < (l67 : Int) ∧ ∃ b69 o70 : Nat, a66 = some (⟨b69, o70, none⟩ : Addr) ∧ (
                                          ∃ t71 : Bool, hcell H58 b69 (o70 + (Int.toNat (n3 + n57))) = some (.bool t71) ∧ (
                                            (((t71 = false) → (
                                                  (In64 (n57 + 1)) ∧
                                                  (I55 (n57 + 1) H58) ∧ μ56 (n57 + 1) H58 < μ56 n57 H58)) ∧ (¬ (t71 = false) → (
                                                  R (.tuple #[(.int .i64 n3), (.int .i64 n57)]) H58))))))))) ∧ (¬ (((n3 + n57) : Int) < (l62 : Int)) → (
                                    R (.tuple #[(.int .i64 n3), (.int .i64 n57)]) H58)))))))))))))))))) := by kernel_rfl


/-- (*pentimento/pentimentoref6.Map).Free -/
theorem vc_rfree (x0 : Option Addr) (H : Heap) (R : Value → Heap → Prop) : Walk Try.prog 25 [] [(.pointer x0)] H R = (
  ∃ I1 : Int → Int → Heap → Prop, ∃ μ2 : Int → Int → Heap → Nat, (I1 0 0 H) ∧
  ∀ n3 : Int, ∀ n4 : Int, ∀ H5 : Heap, I1 n3 n4 H5 → (
    ∃ b6 o7 : Nat, x0 = some (⟨b6, o7, none⟩ : Addr) ∧ (
      ∃ a8 : Option Addr, ∃ l9 : Nat, ∃ c10 : Nat, hcell H5 b6 o7 = some (.slice a8 l9 c10) ∧ (
        ((((n4 : Int) < (l9 : Int)) → (
              ∃ b11 o12 : Nat, x0 = some (⟨b11, o12, none⟩ : Addr) ∧ (
                ∃ a13 : Option Addr, ∃ l14 : Nat, ∃ c15 : Nat, hcell H5 b11 o12 = some (.slice a13 l14 c15) ∧ (
                  (0 : Int) ≤ n4 ∧ (n4 : Int) < (l14 : Int) ∧ ∃ b16 o17 : Nat, a13 = some (⟨b16, o17, none⟩ : Addr) ∧ (
                    ∃ t18 : Bool, hcell H5 b16 (o17 + (Int.toNat n4)) = some (.bool t18) ∧ (
                      (((t18 = false) → (
                            (In64 (n3 + 1)) ∧
                            (In64 (n4 + 1)) ∧
                            (I1 (n3 + 1) (n4 + 1) H5) ∧ μ2 (n3 + 1) (n4 + 1) H5 < μ2 n3 n4 H5)) ∧ (¬ (t18 = false) → (
                            (In64 (n4 + 1)) ∧
                            (I1 n3 (n4 + 1) H5) ∧ μ2 n3 (n4 + 1) H5 < μ2 n3 n4 H5))))))))) ∧ (¬ ((n4 : Int) < (l9 : Int)) → (
              R (.int .i64 n3) H5))))))) := by kernel_rfl


/-- pentimento/pentimentoref6.LoadMap -/
theorem vc_rload (x0 : Option Addr) (x0l : Nat) (x0c : Nat) (x1 : Int) (H : Heap) (R : Value → Heap → Prop) : Walk Try.prog 26 [] [(.slice x0 x0l x0c), (.int .i64 x1)] H R = (
  Does Try.prog 21 [(.int .i64 x1)] H fun v1 H2 => ∃ p3 : Option Addr, v1 = (.pointer p3) ∧ (
    ∃ b4 o5 : Nat, p3 = some (⟨b4, o5, none⟩ : Addr) ∧ (
      ∃ a6 : Option Addr, ∃ l7 : Nat, ∃ c8 : Nat, hcell H2 b4 o5 = some (.slice a6 l7 c8) ∧ (
        (In64 ((l7 : Int) + 7)) ∧
        ((8 : Int) ≠ 0) ∧
        ∀ q9 : Int, q9 = IntKind.wrap .i64 (Int.tdiv ((l7 : Int) + 7) 8) → (
          (((((x0l : Int) : Int) ≠ q9) → (
                R (.tuple #[(.pointer none), (.bool false)]) H2)) ∧ (¬ (((x0l : Int) : Int) ≠ q9) → (
                ∃ I10 : Int → Heap → Prop, ∃ μ11 : Int → Heap → Nat, (I10 0 H2) ∧
                ∀ n12 : Int, ∀ H13 : Heap, I10 n12 H13 → (
                  ∃ b14 o15 : Nat, p3 = some (⟨b14, o15, none⟩ : Addr) ∧ (
                    ∃ a16 : Option Addr, ∃ l17 : Nat, ∃ c18 : Nat, hcell H13 b14 o15 = some (.slice a16 l17 c18) ∧ (
                      ((((n12 : Int) < (l17 : Int)) → (
                            ∃ b19 o20 : Nat, p3 = some (⟨b19, o20, none⟩ : Addr) ∧ (
                              ∃ a21 : Option Addr, ∃ l22 : Nat, ∃ c23 : Nat, hcell H13 b19 o20 = some (.slice a21 l22 c23) ∧ (
                                ((8 : Int) ≠ 0) ∧
                                ∀ q24 : Int, q24 = IntKind.wrap .i64 (Int.tdiv n12 8) → (
                                  (0 : Int) ≤ q24 ∧ (q24 : Int) < (x0l : Int) ∧ ∃ b25 o26 : Nat, x0 = some (⟨b25, o26, none⟩ : Addr) ∧ (
                                    ∃ n27 : Int, hcell H13 b25 (o26 + (Int.toNat q24)) = some (.int .u8 n27) ∧ (
                                      ((8 : Int) ≠ 0) ∧
                                      ∀ q28 : Int, q28 = Int.tmod n12 8 → (
                                        ∀ q29 : Int, q29 = IntKind.wrap .u64 q28 → (
                                          ((0 : Int) ≤ q29) ∧
                                          ∀ q30 : Int, q30 = Int.fdiv n27 (2 ^ (min q29.toNat (IntKind.bits .u8))) → (
                                            ∀ q31 : Int, q31 = bits .and .u8 q30 1 → (
                                              (0 : Int) ≤ n12 ∧ (n12 : Int) < (l22 : Int) ∧ ∃ b32 o33 : Nat, a21 = some (⟨b32, o33, none⟩ : Addr) ∧ (
                                                Cells H13 b32 (o33 + (Int.toNat n12)) 1 ∧ ∀ H34 : Heap, Puts H13 b32 (o33 + (Int.toNat n12)) [(.bool (@decide ((q31 : Int) = 1) (Classical.propDecidable _)))] H34 → (
                                                  ((In64 (n12 + 1)) ∧
                                                    (I10 (n12 + 1) H34) ∧ μ11 (n12 + 1) H34 < μ11 n12 H13)))))))))))))) ∧ (¬ ((n12 : Int) < (l17 : Int)) → (
                            ∃ l35 : List UInt8, SRow H13 1 x0l (.slice x0 x0l x0c) (List.map (fun (b : UInt8) => Value.int .u8 b.toNat) l35) ∧ (
                              Does Try.prog 22 [(.pointer p3)] H13 fun v36 H37 => ∃ a38 : Option Addr, ∃ l39 : Nat, ∃ c40 : Nat, v36 = (.slice a38 l39 c40) ∧ (
                                SRow H37 1 x0l (.slice x0 x0l x0c) (List.map (fun (b : UInt8) => Value.int .u8 b.toNat) l35) ∧ (∃ l41 : List UInt8, SRow H37 1 l39 (.slice a38 l39 c40) (List.map (fun (b : UInt8) => Value.int .u8 b.toNat) l41) ∧ (
                                    R (.tuple #[(.pointer p3), (.bool (@decide (((ByteArray.mk (List.toArray l41)) : ByteArray) = (ByteArray.mk (List.toArray l35))) (Classical.propDecidable _)))]) H37)))))))))))))))))) := by kernel_rfl


/-- pentimento/pentimentolaw6.BitsKnown -/
theorem vc_bknown (H : Heap) (R : Value → Heap → Prop) : Walk Try.prog 4 [] [] H R = (
  Does Try.prog 12 [(.int .i64 10)] H fun v1 H2 => ∃ p3 : Option Addr, v1 = (.pointer p3) ∧ (
    Does Try.prog 13 [] H2 fun v4 H5 => ∃ t6 : Bool, v4 = (.bool t6) ∧ (
      (((t6 = false) → (
            R (.bool false) H5)) ∧ (¬ (t6 = false) → (
            ((((p3 : Option Addr) = none) → (
                  R (.bool false) H5)) ∧ (¬ ((p3 : Option Addr) = none) → (
                  Does Try.prog 14 [(.pointer p3), (.int .i64 9), (.bool true)] H5 fun v7 H8 => ∃ t9 : Bool, v7 = (.bool t9) ∧ (
                    Does Try.prog 14 [(.pointer p3), (.int .i64 9), (.bool true)] H8 fun v10 H11 => ∃ t12 : Bool, v10 = (.bool t12) ∧ (
                      Does Try.prog 14 [(.pointer p3), (.int .i64 10), (.bool true)] H11 fun v13 H14 => ∃ t15 : Bool, v13 = (.bool t15) ∧ (
                        Does Try.prog 18 [(.pointer p3)] H14 fun v16 H17 => ∃ a18 : Option Addr, ∃ l19 : Nat, ∃ c20 : Nat, v16 = (.slice a18 l19 c20) ∧ (
                          Does Try.prog 19 [(.slice a18 l19 c20), (.int .i64 10)] H17 fun v21 H22 => ∃ p23 : Option Addr, ∃ n24 : Int, v21 = (.tuple #[(.pointer p23), (.int .i64 n24)]) ∧ (
                            Does Try.prog 19 [(.slice a18 l19 c20), (.int .i64 9)] H22 fun v25 H26 => ∃ p27 : Option Addr, ∃ n28 : Int, v25 = (.tuple #[(.pointer p27), (.int .i64 n28)]) ∧ (
                              Does Try.prog 19 [(.slice a18 l19 c20), (.int .i64 17)] H26 fun v29 H30 => ∃ p31 : Option Addr, ∃ n32 : Int, v29 = (.tuple #[(.pointer p31), (.int .i64 n32)]) ∧ (
                                Does Try.prog 15 [(.pointer p3), (.int .i64 9)] H30 fun v33 H34 => ∃ n35 : Int, ∃ n36 : Int, v33 = (.tuple #[(.int .i64 n35), (.int .i64 n36)]) ∧ (
                                  Does Try.prog 12 [(.int .i64 (-3))] H34 fun v37 H38 => ∃ p39 : Option Addr, v37 = (.pointer p39) ∧ (
                                    ((t9 = true → (
                                          (((t12 = false) → (
                                                (((t15 = false) → (
                                                      (((((l19 : Int) : Int) = 2) → (
                                                            (0 : Int) ≤ 1 ∧ (1 : Int) < (l19 : Int) ∧ ∃ b40 o41 : Nat, a18 = some (⟨b40, o41, none⟩ : Addr) ∧ (
                                                            ∃ n42 : Int, hcell H38 b40 (o41 + (Int.toNat 1)) = some (.int .u8 n42) ∧ (
                                                            ((((n42 : Int) = 2) → (
                                                            ((((n24 : Int) = 0) → (
                                                            (((¬ ((p23 : Option Addr) = none)) → (
                                                            Does Try.prog 16 [(.pointer p23), (.int .i64 9)] H38 fun v43 H44 => ∃ t45 : Bool, v43 = (.bool t45) ∧ (
                                                            ((t45 = true → (
                                                            ((((n28 : Int) = 2) → (
                                                            ((((n32 : Int) = 2) → (
                                                            ((((n35 : Int) = 10) → (
                                                            ((((n36 : Int) = 0) → (
                                                            (((¬ ((p39 : Option Addr) = none)) → (
                                                            Does Try.prog 20 [(.pointer p39)] H44 fun v46 H47 => ∃ n48 : Int, v46 = (.int .i64 n48) ∧ (
                                                            ((((n48 : Int) = 0) → (
                                                            Does Try.prog 16 [(.pointer p3), (.int .i64 (-1))] H47 fun v49 H50 => ∃ t51 : Bool, v49 = (.bool t51) ∧ (
                                                            (((t51 = false) → (
                                                            Does Try.prog 20 [(.pointer p3)] H50 fun v52 H53 => ∃ n54 : Int, v52 = (.int .i64 n54) ∧ (
                                                            R (.bool (@decide ((n54 : Int) = 10) (Classical.propDecidable _))) H53))) ∧ (¬ (t51 = false) → (
                                                            R (.bool false) H50)))))) ∧ (¬ ((n48 : Int) = 0) → (
                                                            R (.bool false) H47)))))) ∧ (¬ (¬ ((p39 : Option Addr) = none)) → (
                                                            R (.bool false) H44))))) ∧ (¬ ((n36 : Int) = 0) → (
                                                            R (.bool false) H44))))) ∧ (¬ ((n35 : Int) = 10) → (
                                                            R (.bool false) H44))))) ∧ (¬ ((n32 : Int) = 2) → (
                                                            R (.bool false) H44))))) ∧ (¬ ((n28 : Int) = 2) → (
                                                            R (.bool false) H44))))) ∧ (t45 = false → (
                                                            R (.bool false) H44)))))) ∧ (¬ (¬ ((p23 : Option Addr) = none)) → (
                                                            R (.bool false) H38))))) ∧ (¬ ((n24 : Int) = 0) → (
                                                            R (.bool false) H38))))) ∧ (¬ ((n42 : Int) = 2) → (
                                                            R (.bool false) H38))))))) ∧ (¬ (((l19 : Int) : Int) = 2) → (
                                                            R (.bool false) H38))))) ∧ (¬ (t15 = false) → (
                                                      R (.bool false) H38))))) ∧ (¬ (t12 = false) → (
                                                R (.bool false) H38))))) ∧ (t9 = false → (
                                          R (.bool false) H38))))))))))))))))))))) := by kernel_rfl


/-- pentimento/pentimentolaw6.BitsRuns -/
theorem vc_bruns (x0 : Int) (x1 : Option Addr) (x1l : Nat) (x1c : Nat) (H : Heap) (R : Value → Heap → Prop) : Walk Try.prog 3 [] [(.int .i64 x0), (.slice x1 x1l x1c)] H R = (
  Does Try.prog 11 [(.int .i64 x0), (.int .i64 90)] H fun v1 H2 => ∃ n3 : Int, v1 = (.int .i64 n3) ∧ (
    Does Try.prog 12 [(.int .i64 n3)] H2 fun v4 H5 => ∃ p6 : Option Addr, v4 = (.pointer p6) ∧ (
      Does Try.prog 13 [] H5 fun v7 H8 => ∃ t9 : Bool, v7 = (.bool t9) ∧ (
        (((t9 = false) → (
              R (.bool false) H8)) ∧ (¬ (t9 = false) → (
              ((((p6 : Option Addr) = none) → (
                    R (.bool false) H8)) ∧ (¬ ((p6 : Option Addr) = none) → (
                    ∃ I10 : Int → Heap → Prop, ∃ μ11 : Int → Heap → Nat, (I10 0 H8) ∧
                    ∀ n12 : Int, ∀ H13 : Heap, I10 n12 H13 → (
                      ((((n12 : Int) < (x1l : Int)) → (
                            ((((n12 : Int) < 40) → (
                                  ((((0 : Int) < n3) → (
                                        (0 : Int) ≤ n12 ∧ (n12 : Int) < (x1l : Int) ∧ ∃ b14 o15 : Nat, x1 = some (⟨b14, o15, none⟩ : Addr) ∧ (
                                          ∃ n16 : Int, hcell H13 b14 (o15 + (Int.toNat n12)) = some (.int .i64 n16) ∧ (
                                            Does Try.prog 11 [(.int .i64 n16), (.int .i64 n3)] H13 fun v17 H18 => ∃ n19 : Int, v17 = (.int .i64 n19) ∧ (
                                              Does Try.prog 14 [(.pointer p6), (.int .i64 n19), (.bool true)] H18 fun v20 H21 => ∃ t22 : Bool, v20 = (.bool t22) ∧ (
                                                (In64 (n12 + 1)) ∧
                                                (I10 (n12 + 1) H21) ∧ μ11 (n12 + 1) H21 < μ11 n12 H13)))))) ∧ (¬ ((0 : Int) < n3) → (
                                        ∃ I23 : Int → Int → Int → Heap → Prop, ∃ μ24 : Int → Int → Int → Heap → Nat, (I23 0 0 0 H13) ∧
                                        ∀ n25 : Int, ∀ n26 : Int, ∀ n27 : Int, ∀ H28 : Heap, I23 n25 n26 n27 H28 → (
                                          ((((n27 : Int) ≤ n3) → (
                                                Does Try.prog 15 [(.pointer p6), (.int .i64 n26)] H28 fun v29 H30 => ∃ n31 : Int, ∃ n32 : Int, v29 = (.tuple #[(.int .i64 n31), (.int .i64 n32)]) ∧ (
                                                  ∃ I33 : Int → Heap → Prop, ∃ μ34 : Int → Heap → Nat, (I33 n26 H30) ∧
                                                  ∀ n35 : Int, ∀ H36 : Heap, I33 n35 H36 → (
                                                    ((((n35 : Int) < n31) → (
                                                          Does Try.prog 16 [(.pointer p6), (.int .i64 n35)] H36 fun v37 H38 => ∃ t39 : Bool, v37 = (.bool t39) ∧ (
                                                            (((t39 = false) → (
                                                            R (.bool false) H38)) ∧ (¬ (t39 = false) → (
                                                            (In64 (n35 + 1)) ∧
                                                            (I33 (n35 + 1) H38) ∧ μ34 (n35 + 1) H38 < μ34 n35 H36)))))) ∧ (¬ ((n35 : Int) < n31) → (
                                                          ((((n32 : Int) = 0) → (
                                                            ((((n31 : Int) = n3) → (
                                                            Does Try.prog 17 [(.pointer p6)] H36 fun v40 H41 => ∃ n42 : Int, v40 = (.int .i64 n42) ∧ (
                                                            R (.bool (@decide ((n25 : Int) = n42) (Classical.propDecidable _))) H41))) ∧ (¬ ((n31 : Int) = n3) → (
                                                            R (.bool false) H36))))) ∧ (¬ ((n32 : Int) = 0) → (
                                                            ∃ I43 : Int → Heap → Prop, ∃ μ44 : Int → Heap → Nat, (I43 n31 H36) ∧
                                                            ∀ n45 : Int, ∀ H46 : Heap, I43 n45 H46 → (
                                                            (In64 (n31 + n32)) ∧
                                                            ((((n45 : Int) < (n31 + n32)) → (
                                                            Does Try.prog 16 [(.pointer p6), (.int .i64 n45)] H46 fun v47 H48 => ∃ t49 : Bool, v47 = (.bool t49) ∧ (
                                                            ((t49 = true → (
                                                            R (.bool false) H48)) ∧ (t49 = false → (
                                                            (In64 (n45 + 1)) ∧
                                                            (I43 (n45 + 1) H48) ∧ μ44 (n45 + 1) H48 < μ44 n45 H46)))))) ∧ (¬ ((n45 : Int) < (n31 + n32)) → (
                                                            (In64 (n31 + n32)) ∧
                                                            (((((n31 + n32) : Int) < n3) → (
                                                            (In64 (n31 + n32)) ∧
                                                            Does Try.prog 16 [(.pointer p6), (.int .i64 (n31 + n32))] H46 fun v50 H51 => ∃ t52 : Bool, v50 = (.bool t52) ∧ (
                                                            (((t52 = false) → (
                                                            R (.bool false) H51)) ∧ (¬ (t52 = false) → (
                                                            (In64 (n31 + n32)) ∧
                                                            ((((n3 : Int) < (n31 + n32)) → (
                                                            R (.bool false) H51)) ∧ (¬ ((n3 : Int) < (n31 + n32)) → (
                                                            (In64 (n25 + n32)) ∧
                                                            (In64 (n31 + n32)) ∧
                                                            (In64 (n27 + 1)) ∧
                                                            (I23 (n25 + n32) (n31 + n32) (n27 + 1) H51) ∧ μ24 (n25 + n32) (n31 + n32) (n27 + 1) H51 < μ24 n25 n26 n27 H28))))))))) ∧ (¬ (((n31 + n32) : Int) < n3) → (
                                                            (In64 (n31 + n32)) ∧
                                                            ((((n3 : Int) < (n31 + n32)) → (
                                                            R (.bool false) H46)) ∧ (¬ ((n3 : Int) < (n31 + n32)) → (
                                                            (In64 (n25 + n32)) ∧
                                                            (In64 (n31 + n32)) ∧
                                                            (In64 (n27 + 1)) ∧
                                                            (I23 (n25 + n32) (n31 + n32) (n27 + 1) H46) ∧ μ24 (n25 + n32) (n31 + n32) (n27 + 1) H46 < μ24 n25 n26 n27 H28)))))))))))))))))))) ∧ (¬ ((n27 : Int) ≤ n3) → (
                                                R (.bool false) H28))))))))) ∧ (¬ ((n12 : Int) < 40) → (
                                  ∃ I53 : Int → Int → Int → Heap → Prop, ∃ μ54 : Int → Int → Int → Heap → Nat, (I53 0 0 0 H13) ∧
                                  ∀ n55 : Int, ∀ n56 : Int, ∀ n57 : Int, ∀ H58 : Heap, I53 n55 n56 n57 H58 → (
                                    ((((n57 : Int) ≤ n3) → (
                                          Does Try.prog 15 [(.pointer p6), (.int .i64 n56)] H58 fun v59 H60 => ∃ n61 : Int, ∃ n62 : Int, v59 = (.tuple #[(.int .i64 n61), (.int .i64 n62)]) ∧ (
                                            ∃ I63 : Int → Heap → Prop, ∃ μ64 : Int → Heap → Nat, (I63 n56 H60) ∧
                                            ∀ n65 : Int, ∀ H66 : Heap, I63 n65 H66 → (
                                              ((((n65 : Int) < n61) → (
                                                    Does Try.prog 16 [(.pointer p6), (.int .i64 n65)] H66 fun v67 H68 => ∃ t69 : Bool, v67 = (.bool t69) ∧ (
                                                      (((t69 = false) → (
                                                            R (.bool false) H68)) ∧ (¬ (t69 = false) → (
                                                            (In64 (n65 + 1)) ∧
                                                            (I63 (n65 + 1) H68) ∧ μ64 (n65 + 1) H68 < μ64 n65 H66)))))) ∧ (¬ ((n65 : Int) < n61) → (
                                                    ((((n62 : Int) = 0) → (
                                                          ((((n61 : Int) = n3) → (
                                                            Does Try.prog 17 [(.pointer p6)] H66 fun v70 H71 => ∃ n72 : Int, v70 = (.int .i64 n72) ∧ (
                                                            R (.bool (@decide ((n55 : Int) = n72) (Classical.propDecidable _))) H71))) ∧ (¬ ((n61 : Int) = n3) → (
                                                            R (.bool false) H66))))) ∧ (¬ ((n62 : Int) = 0) → (
                                                          ∃ I73 : Int → Heap → Prop, ∃ μ74 : Int → Heap → Nat, (I73 n61 H66) ∧
                                                          ∀ n75 : Int, ∀ H76 : Heap, I73 n75 H76 → (
                                                            (In64 (n61 + n62)) ∧
                                                            ((((n75 : Int) < (n61 + n62)) → (
                                                            Does Try.prog 16 [(.pointer p6), (.int .i64 n75)] H76 fun v77 H78 => ∃ t79 : Bool, v77 = (.bool t79) ∧ (
                                                            ((t79 = true → (
                                                            R (.bool false) H78)) ∧ (t79 = false → (
                                                            (In64 (n75 + 1)) ∧
                                                            (I73 (n75 + 1) H78) ∧ μ74 (n75 + 1) H78 < μ74 n75 H76)))))) ∧ (¬ ((n75 : Int) < (n61 + n62)) → (
                                                            (In64 (n61 + n62)) ∧
                                                            (((((n61 + n62) : Int) < n3) → (
                                                            (In64 (n61 + n62)) ∧
                                                            Does Try.prog 16 [(.pointer p6), (.int .i64 (n61 + n62))] H76 fun v80 H81 => ∃ t82 : Bool, v80 = (.bool t82) ∧ (
                                                            (((t82 = false) → (
                                                            R (.bool false) H81)) ∧ (¬ (t82 = false) → (
                                                            (In64 (n61 + n62)) ∧
                                                            ((((n3 : Int) < (n61 + n62)) → (
                                                            R (.bool false) H81)) ∧ (¬ ((n3 : Int) < (n61 + n62)) → (
                                                            (In64 (n55 + n62)) ∧
                                                            (In64 (n61 + n62)) ∧
                                                            (In64 (n57 + 1)) ∧
                                                            (I53 (n55 + n62) (n61 + n62) (n57 + 1) H81) ∧ μ54 (n55 + n62) (n61 + n62) (n57 + 1) H81 < μ54 n55 n56 n57 H58))))))))) ∧ (¬ (((n61 + n62) : Int) < n3) → (
                                                            (In64 (n61 + n62)) ∧
                                                            ((((n3 : Int) < (n61 + n62)) → (
                                                            R (.bool false) H76)) ∧ (¬ ((n3 : Int) < (n61 + n62)) → (
                                                            (In64 (n55 + n62)) ∧
                                                            (In64 (n61 + n62)) ∧
                                                            (In64 (n57 + 1)) ∧
                                                            (I53 (n55 + n62) (n61 + n62) (n57 + 1) H76) ∧ μ54 (n55 + n62) (n61 + n62) (n57 + 1) H76 < μ54 n55 n56 n57 H58)))))))))))))))))))) ∧ (¬ ((n57 : Int) ≤ n3) → (
                                          R (.bool false) H58))))))))) ∧ (¬ ((n12 : Int) < (x1l : Int)) → (
                            ∃ I83 : Int → Int → Int → Heap → Prop, ∃ μ84 : Int → Int → Int → Heap → Nat, (I83 0 0 0 H13) ∧
                            ∀ n85 : Int, ∀ n86 : Int, ∀ n87 : Int, ∀ H88 : Heap, I83 n85 n86 n87 H88 → (
                              ((((n87 : Int) ≤ n3) → (
                                    Does Try.prog 15 [(.pointer p6), (.int .i64 n86)] H88 fun v89 H90 => ∃ n91 : Int, ∃ n92 : Int, v89 = (.tuple #[(.int .i64 n91), (.int .i64 n92)]) ∧ (
                                      ∃ I93 : Int → Heap → Prop, ∃ μ94 : Int → Heap → Nat, (I93 n86 H90) ∧
                                      ∀ n95 : Int, ∀ H96 : Heap, I93 n95 H96 → (
                                        ((((n95 : Int) < n91) → (
                                              Does Try.prog 16 [(.pointer p6), (.int .i64 n95)] H96 fun v97 H98 => ∃ t99 : Bool, v97 = (.bool t99) ∧ (
                                                (((t99 = false) → (
                                                      R (.bool false) H98)) ∧ (¬ (t99 = false) → (
                                                      (In64 (n95 + 1)) ∧
                                                      (I93 (n95 + 1) H98) ∧ μ94 (n95 + 1) H98 < μ94 n95 H96)))))) ∧ (¬ ((n95 : Int) < n91) → (
                                              ((((n92 : Int) = 0) → (
                                                    ((((n91 : Int) = n3) → (
                                                          Does Try.prog 17 [(.pointer p6)] H96 fun v100 H101 => ∃ n102 : Int, v100 = (.int .i64 n102) ∧ (
                                                            R (.bool (@decide ((n85 : Int) = n102) (Classical.propDecidable _))) H101))) ∧ (¬ ((n91 : Int) = n3) → (
                                                          R (.bool false) H96))))) ∧ (¬ ((n92 : Int) = 0) → (
                                                    ∃ I103 : Int → Heap → Prop, ∃ μ104 : Int → Heap → Nat, (I103 n91 H96) ∧
                                                    ∀ n105 : Int, ∀ H106 : Heap, I103 n105 H106 → (
                                                      (In64 (n91 + n92)) ∧
                                                      ((((n105 : Int) < (n91 + n92)) → (
                                                            Does Try.prog 16 [(.pointer p6), (.int .i64 n105)] H106 fun v107 H108 => ∃ t109 : Bool, v107 = (.bool t109) ∧ (
                                                            ((t109 = true → (
                                                            R (.bool false) H108)) ∧ (t109 = false → (
                                                            (In64 (n105 + 1)) ∧
                                                            (I103 (n105 + 1) H108) ∧ μ104 (n105 + 1) H108 < μ104 n105 H106)))))) ∧ (¬ ((n105 : Int) < (n91 + n92)) → (
                                                            (In64 (n91 + n92)) ∧
                                                            (((((n91 + n92) : Int) < n3) → (
                                                            (In64 (n91 + n92)) ∧
                                                            Does Try.prog 16 [(.pointer p6), (.int .i64 (n91 + n92))] H106 fun v110 H111 => ∃ t112 : Bool, v110 = (.bool t112) ∧ (
                                                            (((t112 = false) → (
                                                            R (.bool false) H111)) ∧ (¬ (t112 = false) → (
                                                            (In64 (n91 + n92)) ∧
                                                            ((((n3 : Int) < (n91 + n92)) → (
                                                            R (.bool false) H111)) ∧ (¬ ((n3 : Int) < (n91 + n92)) → (
                                                            (In64 (n85 + n92)) ∧
                                                            (In64 (n91 + n92)) ∧
                                                            (In64 (n87 + 1)) ∧
                                                            (I83 (n85 + n92) (n91 + n92) (n87 + 1) H111) ∧ μ84 (n85 + n92) (n91 + n92) (n87 + 1) H111 < μ84 n85 n86 n87 H88))))))))) ∧ (¬ (((n91 + n92) : Int) < n3) → (
                                                            (In64 (n91 + n92)) ∧
                                                            ((((n3 : Int) < (n91 + n92)) → (
                                                            R (.bool false) H106)) ∧ (¬ ((n3 : Int) < (n91 + n92)) → (
                                                            (In64 (n85 + n92)) ∧
                                                            (In64 (n91 + n92)) ∧
                                                            (In64 (n87 + 1)) ∧
                                                            (I83 (n85 + n92) (n91 + n92) (n87 + 1) H106) ∧ μ84 (n85 + n92) (n91 + n92) (n87 + 1) H106 < μ84 n85 n86 n87 H88)))))))))))))))))))) ∧ (¬ ((n87 : Int) ≤ n3) → (
                                    R (.bool false) H88)))))))))))))))))) := by kernel_rfl


end Go.Proofs
end

section
open Go Go.Vc
namespace Go.Proofs

theorem yes {p : Prop} {i : Decidable p} (h : p) : Value.bool (@decide p i) = .bool true := congrArg Value.bool (@decide_eq_true p i h)

theorem known_ok (H : Heap) : Does Try.prog 13 [] H fun v H' => v = .bool true ∧ Ext [] H H' := by
  refine Fn_of_vc Try.mixed (vc_known _ _) ?_
  refine (new_ok 10 H (by decide)).mono ?_
  rintro _ H2 ⟨pb, bb, rfl, h, hx, hp, hb⟩
  refine ⟨_, rfl, fun e => (by cases e), fun _ => ?_⟩
  refine (set_ok h 0 true).mono ?_
  rintro _ H3 (⟨rfl, _, h3⟩ | ⟨rfl, _, _, _, h3, hx3⟩)
  · exfalso; revert h3; decide
  refine ⟨_, rfl, fun e => (by cases e), fun _ => ?_⟩
  have hx4 : Ext [] H H3 := hx.trans' hx3 (by intro i hi; simp only [blkOf, List.mem_singleton] at hi; omega)
  refine (run_ok h3 0 (by decide)).mono ?_
  rintro _ _ ⟨rfl, rfl⟩
  refine ⟨_, _, rfl, fun _ => ⟨fun _ => ?_, fun e => absurd (by decide) e⟩, fun e => absurd (by decide) e⟩
  refine (get_ok h3 0).mono ?_
  rintro _ _ ⟨rfl, rfl⟩
  refine ⟨_, rfl, fun _ => ?_, fun e => absurd e (by decide)⟩
  refine (free_ok h3).mono ?_
  rintro _ _ ⟨rfl, rfl⟩
  refine ⟨_, rfl, yes ?_, hx4⟩
  show ((cntF (bit (flipL (List.replicate (((10 : Int).toNat + 7) / 8) 0) (0 : Int).toNat)) (10 : Int).toNat : Nat) : Int) = 9
  decide


theorem bknown_ok (H : Heap) : Does Try.prog 4 [] H fun v H' => v = .bool true ∧ Ext [] H H' := by
  refine Fn_of_vc Try.mixed (vc_bknown _ _) ?_
  refine (new_ok 10 H (by decide)).mono ?_
  rintro _ H2 ⟨pb, bb, rfl, h, hx, hp, hb⟩
  refine ⟨_, rfl, (known_ok H2).mono ?_⟩
  rintro _ H5 ⟨rfl, hx5⟩
  have h5 := h.ext hx5 (by simp) (by simp)
  refine ⟨_, rfl, fun e => (by cases e), fun _ => ⟨fun e => (by cases e), fun _ => ?_⟩⟩
  refine (set_ok h5 9 true).mono ?_
  rintro _ H8 (⟨rfl, _, h8⟩ | ⟨rfl, _, _, _, h8, hx8⟩)
  · exfalso; revert h8; decide
  have hx8' : Ext [] H H8 := (hx.trans hx5).trans' hx8 (by intro i hi; simp only [blkOf, List.mem_singleton] at hi; omega)
  refine ⟨_, rfl, (set_ok h8 9 true).mono ?_⟩
  rintro _ H11 (⟨rfl, rfl, _⟩ | ⟨rfl, _, _, h11, _⟩)
  rotate_left
  · exfalso; revert h11; decide
  refine ⟨_, rfl, (set_ok h8 10 true).mono ?_⟩
  rintro _ H14 (⟨rfl, rfl, _⟩ | ⟨rfl, _, h14, _⟩)
  rotate_left
  · exfalso; revert h14; decide
  refine ⟨_, rfl, (bytes_ok h8).mono ?_⟩
  rintro _ H17 ⟨a', c', rfl, hby, hx17, _⟩
  have hr17 := hby.row (flipL (List.replicate (((10 : Int).toNat + 7) / 8) 0) (9 : Int).toNat).length c'
  refine ⟨_, _, _, rfl, (load_ok hr17 (by decide) 10 (by decide)).mono ?_⟩
  rintro _ H22 ⟨h22 | h22, hx22⟩
  · exfalso; have := h22.1; revert this; unfold loadB; decide
  obtain ⟨_, qb, qa, qc, rfl, hq, _, _⟩ := h22
  have hr22 := hr17.ext hx22 (by simp)
  refine ⟨_, _, rfl, (load_ok hr22 (by decide) 9 (by decide)).mono ?_⟩
  rintro _ H26 ⟨h26 | h26, hx26⟩
  rotate_left
  · exfalso; have := h26.1; revert this; unfold loadB; decide
  obtain ⟨_, rfl⟩ := h26
  have hr26 := hr22.ext hx26 (by simp)
  refine ⟨_, _, rfl, (load_ok hr26 (by decide) 17 (by decide)).mono ?_⟩
  rintro _ H30 ⟨h30 | h30, hx30⟩
  rotate_left
  · exfalso; have := h30.1; revert this; unfold loadB; decide
  obtain ⟨_, rfl⟩ := h30
  have hm30 := h8.ext (hx17.trans (hx22.trans (hx26.trans hx30))) (by simp) (by simp)
  refine ⟨_, _, rfl, (run_ok hm30 9 (by decide)).mono ?_⟩
  rintro _ _ ⟨rfl, rfl⟩
  refine ⟨_, _, rfl, (new_ok (-3) H30 (by decide)).mono ?_⟩
  rintro _ H38 ⟨ob, oc, rfl, ho, hx38, _, _⟩
  have hr38 := (hr26.ext hx30 (by simp)).ext hx38 (by simp)
  have hm38 := hm30.ext hx38 (by simp) (by simp)
  have hq38 := hq.ext (hx26.trans (hx30.trans hx38)) (by simp) (by simp)
  have hfin : Ext [] H H38 := hx8'.trans (hx17.trans (hx22.trans (hx26.trans (hx30.trans hx38))))
  have hne : ∀ {x : Addr}, ¬ ((some x : Option Addr) = none) := by intro x e; cases e
  refine ⟨_, rfl, fun _ => ⟨fun _ => ⟨fun _ => ⟨fun _ => ?_, fun e => absurd (by decide) e⟩, fun e => absurd rfl e⟩, fun e => absurd rfl e⟩, fun e => (by cases e)⟩
  obtain ⟨b, o, ha, hc⟩ := hr38.get (j := 1) (u := .int .u8 2) rfl
  refine ⟨by decide, by decide, b, o, ha, _, hc, fun _ => ⟨fun _ => ⟨fun _ => ?_, fun e => absurd hne e⟩, fun e => absurd rfl e⟩, fun e => absurd rfl e⟩
  refine (get_ok hq38 9).mono ?_
  rintro _ _ ⟨rfl, rfl⟩
  refine ⟨_, rfl, fun _ => ⟨fun _ => ⟨fun _ => ⟨fun _ => ⟨fun _ => ⟨fun _ => ?_, fun e => absurd hne e⟩, fun e => absurd (by decide) e⟩, fun e => absurd (by decide) e⟩, fun e => absurd rfl e⟩, fun e => absurd rfl e⟩, fun e => absurd e (by decide)⟩
  refine (len_ok ho).mono ?_
  rintro _ _ ⟨rfl, rfl⟩
  refine ⟨_, rfl, fun _ => ?_, fun e => absurd (by decide) e⟩
  refine (get_ok hm38 (-1)).mono ?_
  rintro _ _ ⟨rfl, rfl⟩
  refine ⟨_, rfl, fun _ => ?_, fun e => absurd (by decide) e⟩
  refine (len_ok hm38).mono ?_
  rintro _ _ ⟨rfl, rfl⟩
  exact ⟨_, rfl, yes (by decide), hfin⟩

end Go.Proofs
end

namespace Go.Proofs.Ythcmooaodofgoaa.bitsKnown
open Go.ChangeShapes Go.WideShapes Go.ChangeAt Go.RowKit
open Go.ChangeMaps (open_string shut_string)
set_option linter.unusedVariables false      -- a walk need not use every 'w<i>' (that an integer argument fits its kind)

theorem own : ownKnob Try.prog.godebug = none := by kernel_rfl

/-! ### STEP 1: THE WALK: the Go text returns true. 'Grown w w'': the world has at most new blocks (Derived/RowKit3.lean). Part the cases AHEAD of 'go_enter' where a test parts the walk; take each callee by a contract of your own. -/
theorem walk (w : World) : Calls Try.prog 4 #[] w fun e w' => e = .returned (.bool true) ∧ Below w.heap.size w w' :=
  Go.Vc.Does.below (bknown_ok w.heap)

/-! ### THE ROW's STEP: WRITTEN OUT: LEAVE IT -/
set_option maxRecDepth 100000 in
theorem lifted (os : Os) (started : os.Started) (H : Type) (enc : TypeId × Value → H) :
    ReturnsInHanded {} Try.checked os 4 .any (Rows.bitsKnownSpec.pre6 enc Try.prog Try.f4 Rows.bitsKnownRow.domain false) (Rows.bitsKnownSpec.post enc Try.prog Try.f4 false true false false) := by
  refine returnsInHanded_of_change (C := Try.checked) own started (by kernel_rfl) Try.func4
    (ChangeSpec.witness6 (enc := enc) (C := Try.checked) false ⟨#[], #[], []⟩ 8 (by kernel_rfl) (by kernel_rfl) (by kernel_rfl) (by kernel_rfl)) ?_
  intro W base args ds gs before hval0 hW hcnd _
  have hval : ∀ (j : Nat) t v, Try.f4.params[j]? = some t → args[j]? = some v → Value.okWide Try.prog W .any base t v := hval0
  have hW' := hW
  obtain ⟨p, q, hA0, hV, rfl, hfz, hnd⟩ := hW
  have hA : DataW.TrodAll enc Try.prog W 0 (fun _ => true) true Try.f4.params.toList args.toList ds p := hA0
  rw [Try.params4] at hA hval
  obtain ⟨rfl, rfl, rfl⟩ := trodAll_none hA
  obtain ⟨rfl, rfl⟩ := trodVars_none hV
  clear hA0 hval0
  simp only [List.append_nil] at hW'
  refine (walk W).mono fun e W' ⟨he, bel⟩ => ?_
  subst he
  exact ⟨_, rfl, _, _, _, [], _, [], hW', trodAll_mk1 (shut_bool Try.underlying4 _), trodAll_mk0, rfl, bel.frame _, fun h => by cases h⟩

theorem over : Rows.bitsKnownRow.holds Try.pinned (OpenSpec.ofChange Rows.bitsKnownSpec) :=
  OpenClaim.holds_of_wide 4 Try.f4 rfl rfl rfl rfl rfl rfl rfl ⟨rfl, rfl, rfl, rfl, rfl⟩ rfl rfl rfl rfl rfl (by kernel_rfl) Try.func4 (by kernel_rfl)
    (of_decide_eq_true (by kernel_rfl)) (by unfold Func.isWrapper; first | (rw [if_pos (by decide +kernel)]; kernel_rfl) | (rw [if_neg (by decide +kernel)]; exact ⟨rfl, rfl⟩))
    (fun os started H enc _ => lifted os started H enc)

/-- ████ THE STATEMENT ████ -/
theorem proved : Rows.BitsKnownSaid :=
  over
#print axioms proved
end Go.Proofs.Ythcmooaodofgoaa.bitsKnown

