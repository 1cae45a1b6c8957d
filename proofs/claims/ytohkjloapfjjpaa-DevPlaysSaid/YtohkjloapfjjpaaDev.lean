/-
  The contracts of the functions of the package device and of its reference. No condition.
-/
import Derived.Test.YtohkjloapfjjpaaProg
import Derived.Test.YtohkjloapfjjpaaVc

section
open Go Go.Vc
namespace Go.Proofs
set_option maxRecDepth 100000
/-- pentimento/pentimentohand.Pick -/
theorem vc_pick (x0 : Int) (x1 : Int) (H : Heap) (R : Value → Heap → Prop) : Walk Try.prog 15 [] [(.int .i64 x0), (.int .i64 x1)] H R = (
  ((x1 : Int) ≠ 0) ∧
  ∀ q1 : Int, q1 = Int.tmod x0 x1 → (
    ((((q1 : Int) < 0) → (
          (In64 (q1 + x1)) ∧
          R (.int .i64 (q1 + x1)) H)) ∧ (¬ ((q1 : Int) < 0) → (
          R (.int .i64 q1) H))))) := by kernel_rfl


/-- slices.Clone[[][]byte,[]byte] -/
theorem vc_clonell (x0 : Option Addr) (x0l : Nat) (x0c : Nat) (H : Heap) (R : Value → Heap → Prop) : Walk Try.prog 47 [] [(.slice x0 x0l x0c)] H R = (
  ((((x0 : Option Addr) = none) → (
        R (.slice none 0 0) H)) ∧ (¬ ((x0 : Option Addr) = none) → (
        ∀ b1 : Nat, ∀ H2 : Heap, New H b1 [] 23 H2 → (
          ∃ old3 new4 : List Value, SRow H2 1 0 (.slice (some (⟨b1, 0, none⟩ : Addr)) 0 0) old3 ∧ SRow H2 1 x0l (.slice x0 x0l x0c) new4 ∧ (∀ u ∈ new4, Value.oneCell' u = true) ∧ (0 + x0l) * 24 ≤ 140737488355328 ∧ (0 + x0l ≤ 0 → roomOf H2 (some (⟨b1, 0, none⟩ : Addr)) (0 * 1) (x0l * 1)) ∧ ∀ a5 : Option Addr, ∀ c6 : Nat, ∀ H7 : Heap, App H2 1 23 [(.slice none 0 0)] (some (⟨b1, 0, none⟩ : Addr)) 0 0 old3 new4 x0l a5 c6 H7 → (
            R (.slice a5 (0 + x0l) c6) H7)))))) := by kernel_rfl


/-- (*pentimento/dev.Device).work -/
theorem vc_work (x0 : Option Addr) (H : Heap) (R : Value → Heap → Prop) : Walk Try.prog 48 [] [(.pointer x0)] H R = (
  ∃ b1 o2 : Nat, x0 = some (⟨b1, o2, none⟩ : Addr) ∧ (
    ∃ n3 : Int, hcell H b1 (o2 + 3) = some (.int .i64 n3) ∧ (
      ((((n3 : Int) = 0) → (
            ∃ b4 o5 : Nat, x0 = some (⟨b4, o5, none⟩ : Addr) ∧ (
              Cells H b4 (o5 + 4) 1 ∧ ∀ H6 : Heap, Puts H b4 (o5 + 4) [(.bool true)] H6 → (
                ∃ b7 o8 : Nat, x0 = some (⟨b7, o8, none⟩ : Addr) ∧ (
                  ∃ t9 : Bool, hcell H6 b7 (o8 + 4) = some (.bool t9) ∧ (
                    ((t9 = true → (
                          R (.int .i64 4) H6)) ∧ (t9 = false → (
                          ∃ b10 o11 : Nat, x0 = some (⟨b10, o11, none⟩ : Addr) ∧ (
                            ∃ n12 : Int, hcell H6 b10 (o11 + 3) = some (.int .i64 n12) ∧ (
                              ((((0 : Int) < n12) → (
                                    ∃ b13 o14 : Nat, x0 = some (⟨b13, o14, none⟩ : Addr) ∧ (
                                      ∃ n15 : Int, hcell H6 b13 (o14 + 3) = some (.int .i64 n15) ∧ (
                                        (In64 (n15 - 1)) ∧
                                        ∃ b16 o17 : Nat, x0 = some (⟨b16, o17, none⟩ : Addr) ∧ (
                                          Cells H6 b16 (o17 + 3) 1 ∧ ∀ H18 : Heap, Puts H6 b16 (o17 + 3) [(.int .i64 (n15 - 1))] H18 → (
                                            ∃ b19 o20 : Nat, x0 = some (⟨b19, o20, none⟩ : Addr) ∧ (
                                              ∃ n21 : Int, hcell H18 b19 (o20 + 5) = some (.int .i64 n21) ∧ (
                                                (In64 (n21 + 1)) ∧
                                                ∃ b22 o23 : Nat, x0 = some (⟨b22, o23, none⟩ : Addr) ∧ (
                                                  Cells H18 b22 (o23 + 5) 1 ∧ ∀ H24 : Heap, Puts H18 b22 (o23 + 5) [(.int .i64 (n21 + 1))] H24 → (
                                                    R (.int .i64 0) H24)))))))))) ∧ (¬ ((0 : Int) < n12) → (
                                    ∃ b25 o26 : Nat, x0 = some (⟨b25, o26, none⟩ : Addr) ∧ (
                                      ∃ n27 : Int, hcell H6 b25 (o26 + 5) = some (.int .i64 n27) ∧ (
                                        (In64 (n27 + 1)) ∧
                                        ∃ b28 o29 : Nat, x0 = some (⟨b28, o29, none⟩ : Addr) ∧ (
                                          Cells H6 b28 (o29 + 5) 1 ∧ ∀ H30 : Heap, Puts H6 b28 (o29 + 5) [(.int .i64 (n27 + 1))] H30 → (
                                            R (.int .i64 0) H30)))))))))))))))))) ∧ (¬ ((n3 : Int) = 0) → (
            ∃ b31 o32 : Nat, x0 = some (⟨b31, o32, none⟩ : Addr) ∧ (
              ∃ t33 : Bool, hcell H b31 (o32 + 4) = some (.bool t33) ∧ (
                ((t33 = true → (
                      R (.int .i64 4) H)) ∧ (t33 = false → (
                      ∃ b34 o35 : Nat, x0 = some (⟨b34, o35, none⟩ : Addr) ∧ (
                        ∃ n36 : Int, hcell H b34 (o35 + 3) = some (.int .i64 n36) ∧ (
                          ((((0 : Int) < n36) → (
                                ∃ b37 o38 : Nat, x0 = some (⟨b37, o38, none⟩ : Addr) ∧ (
                                  ∃ n39 : Int, hcell H b37 (o38 + 3) = some (.int .i64 n39) ∧ (
                                    (In64 (n39 - 1)) ∧
                                    ∃ b40 o41 : Nat, x0 = some (⟨b40, o41, none⟩ : Addr) ∧ (
                                      Cells H b40 (o41 + 3) 1 ∧ ∀ H42 : Heap, Puts H b40 (o41 + 3) [(.int .i64 (n39 - 1))] H42 → (
                                        ∃ b43 o44 : Nat, x0 = some (⟨b43, o44, none⟩ : Addr) ∧ (
                                          ∃ n45 : Int, hcell H42 b43 (o44 + 5) = some (.int .i64 n45) ∧ (
                                            (In64 (n45 + 1)) ∧
                                            ∃ b46 o47 : Nat, x0 = some (⟨b46, o47, none⟩ : Addr) ∧ (
                                              Cells H42 b46 (o47 + 5) 1 ∧ ∀ H48 : Heap, Puts H42 b46 (o47 + 5) [(.int .i64 (n45 + 1))] H48 → (
                                                R (.int .i64 0) H48)))))))))) ∧ (¬ ((0 : Int) < n36) → (
                                ∃ b49 o50 : Nat, x0 = some (⟨b49, o50, none⟩ : Addr) ∧ (
                                  ∃ n51 : Int, hcell H b49 (o50 + 5) = some (.int .i64 n51) ∧ (
                                    (In64 (n51 + 1)) ∧
                                    ∃ b52 o53 : Nat, x0 = some (⟨b52, o53, none⟩ : Addr) ∧ (
                                      Cells H b52 (o53 + 5) 1 ∧ ∀ H54 : Heap, Puts H b52 (o53 + 5) [(.int .i64 (n51 + 1))] H54 → (
                                        R (.int .i64 0) H54)))))))))))))))))))) := by kernel_rfl


/-- (*pentimento/dev.Device).has -/
theorem vc_has (x0 : Option Addr) (x1 : Int) (H : Heap) (R : Value → Heap → Prop) : Walk Try.prog 49 [] [(.pointer x0), (.int .i64 x1)] H R = (
  ((((0 : Int) ≤ x1) → (
        ∃ b1 o2 : Nat, x0 = some (⟨b1, o2, none⟩ : Addr) ∧ (
          ∃ a3 : Option Addr, ∃ l4 : Nat, ∃ c5 : Nat, hcell H b1 (o2 + 1) = some (.slice a3 l4 c5) ∧ (
            R (.bool (@decide ((x1 : Int) < (l4 : Int)) (Classical.propDecidable _))) H)))) ∧ (¬ ((0 : Int) ≤ x1) → (
        R (.bool false) H)))) := by kernel_rfl


/-- slices.Clone[[]byte,byte] -/
theorem vc_clonel (x0 : Option Addr) (x0l : Nat) (x0c : Nat) (H : Heap) (R : Value → Heap → Prop) : Walk Try.prog 50 [] [(.slice x0 x0l x0c)] H R = (
  ((((x0 : Option Addr) = none) → (
        R (.slice none 0 0) H)) ∧ (¬ ((x0 : Option Addr) = none) → (
        ∀ b1 : Nat, ∀ H2 : Heap, New H b1 [] 5 H2 → (
          ∃ old3 new4 : List Value, SRow H2 1 0 (.slice (some (⟨b1, 0, none⟩ : Addr)) 0 0) old3 ∧ SRow H2 1 x0l (.slice x0 x0l x0c) new4 ∧ (∀ u ∈ new4, Value.oneCell' u = true) ∧ (0 + x0l) * 1 ≤ 140737488355328 ∧ (0 + x0l ≤ 0 → roomOf H2 (some (⟨b1, 0, none⟩ : Addr)) (0 * 1) (x0l * 1)) ∧ ∀ a5 : Option Addr, ∀ c6 : Nat, ∀ H7 : Heap, App H2 1 5 [(.int .u8 0)] (some (⟨b1, 0, none⟩ : Addr)) 0 0 old3 new4 x0l a5 c6 H7 → (
            R (.slice a5 (0 + x0l) c6) H7)))))) := by kernel_rfl


/-- pentimento/dev.set -/
theorem vc_set (x0 : Option Addr) (x0l : Nat) (x0c : Nat) (x1 : Int) (H : Heap) (R : Value → Heap → Prop) : Walk Try.prog 51 [] [(.slice x0 x0l x0c), (.int .i64 x1)] H R = (
  ((8 : Int) ≠ 0) ∧
  ∀ q1 : Int, q1 = IntKind.wrap .i64 (Int.tdiv x1 8) → (
    ((((q1 : Int) < (x0l : Int)) → (
          ((8 : Int) ≠ 0) ∧
          ∀ q2 : Int, q2 = IntKind.wrap .i64 (Int.tdiv x1 8) → (
            (0 : Int) ≤ q2 ∧ (q2 : Int) < (x0l : Int) ∧ ∃ b3 o4 : Nat, x0 = some (⟨b3, o4, none⟩ : Addr) ∧ (
              ∃ n5 : Int, hcell H b3 (o4 + (Int.toNat q2)) = some (.int .u8 n5) ∧ (
                ((8 : Int) ≠ 0) ∧
                ∀ q6 : Int, q6 = Int.tmod x1 8 → (
                  ((0 : Int) ≤ q6) ∧
                  ∀ q7 : Int, q7 = Int.fdiv n5 (2 ^ (min q6.toNat (IntKind.bits .u8))) → (
                    ∀ q8 : Int, q8 = bits .and .u8 q7 1 → (
                      R (.bool (@decide ((0 : Int) < q8) (Classical.propDecidable _))) H)))))))) ∧ (¬ ((q1 : Int) < (x0l : Int)) → (
          R (.bool false) H))))) := by kernel_rfl


/-- (*pentimento/pentimentoref4.Device).works -/
theorem vc_rworks (x0 : Option Addr) (H : Heap) (R : Value → Heap → Prop) : Walk Try.prog 52 [] [(.pointer x0)] H R = (
  ∃ b1 o2 : Nat, x0 = some (⟨b1, o2, none⟩ : Addr) ∧ (
    ∃ t3 : Bool, hcell H b1 (o2 + 3) = some (.bool t3) ∧ (
      ((t3 = true → (
            R (.bool false) H)) ∧ (t3 = false → (
            ∃ b4 o5 : Nat, x0 = some (⟨b4, o5, none⟩ : Addr) ∧ (
              ∃ n6 : Int, hcell H b4 (o5 + 2) = some (.int .i64 n6) ∧ (
                ((((n6 : Int) = 0) → (
                      ∃ b7 o8 : Nat, x0 = some (⟨b7, o8, none⟩ : Addr) ∧ (
                        Cells H b7 (o8 + 3) 1 ∧ ∀ H9 : Heap, Puts H b7 (o8 + 3) [(.bool true)] H9 → (
                          R (.bool false) H9)))) ∧ (¬ ((n6 : Int) = 0) → (
                      ∃ b10 o11 : Nat, x0 = some (⟨b10, o11, none⟩ : Addr) ∧ (
                        ∃ n12 : Int, hcell H b10 (o11 + 2) = some (.int .i64 n12) ∧ (
                          ((((0 : Int) < n12) → (
                                ∃ b13 o14 : Nat, x0 = some (⟨b13, o14, none⟩ : Addr) ∧ (
                                  ∃ n15 : Int, hcell H b13 (o14 + 2) = some (.int .i64 n15) ∧ (
                                    (In64 (n15 - 1)) ∧
                                    ∃ b16 o17 : Nat, x0 = some (⟨b16, o17, none⟩ : Addr) ∧ (
                                      Cells H b16 (o17 + 2) 1 ∧ ∀ H18 : Heap, Puts H b16 (o17 + 2) [(.int .i64 (n15 - 1))] H18 → (
                                        ∃ b19 o20 : Nat, x0 = some (⟨b19, o20, none⟩ : Addr) ∧ (
                                          ∃ n21 : Int, hcell H18 b19 (o20 + 4) = some (.int .i64 n21) ∧ (
                                            (In64 (n21 + 1)) ∧
                                            ∃ b22 o23 : Nat, x0 = some (⟨b22, o23, none⟩ : Addr) ∧ (
                                              Cells H18 b22 (o23 + 4) 1 ∧ ∀ H24 : Heap, Puts H18 b22 (o23 + 4) [(.int .i64 (n21 + 1))] H24 → (
                                                R (.bool true) H24)))))))))) ∧ (¬ ((0 : Int) < n12) → (
                                ∃ b25 o26 : Nat, x0 = some (⟨b25, o26, none⟩ : Addr) ∧ (
                                  ∃ n27 : Int, hcell H b25 (o26 + 4) = some (.int .i64 n27) ∧ (
                                    (In64 (n27 + 1)) ∧
                                    ∃ b28 o29 : Nat, x0 = some (⟨b28, o29, none⟩ : Addr) ∧ (
                                      Cells H b28 (o29 + 4) 1 ∧ ∀ H30 : Heap, Puts H b28 (o29 + 4) [(.int .i64 (n27 + 1))] H30 → (
                                        R (.bool true) H30)))))))))))))))))))) := by kernel_rfl


/-- (*pentimento/pentimentoref4.Device).keep -/
theorem vc_rkeep (x0 : Option Addr) (x1_0 : Int) (x1_1 : Option Addr) (x1_1l : Nat) (x1_1c : Nat) (H : Heap) (R : Value → Heap → Prop) : Walk Try.prog 53 [] [(.pointer x0), (.agg #[(.int .i64 x1_0), (.slice x1_1 x1_1l x1_1c)])] H R = (
  ∀ b1 : Nat, ∀ H2 : Heap, New H b1 [(.int .i64 x1_0), (.slice x1_1 x1_1l x1_1c)] 86 H2 → (
    ∀ b3 : Nat, ∀ H4 : Heap, New H2 b3 [] 23 H4 → (
      ∃ b5 o6 : Nat, x0 = some (⟨b5, o6, none⟩ : Addr) ∧ (
        ∃ a7 : Option Addr, ∃ l8 : Nat, ∃ c9 : Nat, hcell H4 b5 o6 = some (.slice a7 l8 c9) ∧ (
          ∃ old10 new11 : List Value, SRow H4 1 0 (.slice (some (⟨b3, 0, none⟩ : Addr)) 0 0) old10 ∧ SRow H4 1 l8 (.slice a7 l8 c9) new11 ∧ (∀ u ∈ new11, Value.oneCell' u = true) ∧ (0 + l8) * 24 ≤ 140737488355328 ∧ (0 + l8 ≤ 0 → roomOf H4 (some (⟨b3, 0, none⟩ : Addr)) (0 * 1) (l8 * 1)) ∧ ∀ a12 : Option Addr, ∀ c13 : Nat, ∀ H14 : Heap, App H4 1 23 [(.slice none 0 0)] (some (⟨b3, 0, none⟩ : Addr)) 0 0 old10 new11 l8 a12 c13 H14 → (
            ∃ n15 : Int, hcell H14 b1 0 = some (.int .i64 n15) ∧ (
              ∃ a16 : Option Addr, ∃ l17 : Nat, ∃ c18 : Nat, hcell H14 b1 (0 + 1) = some (.slice a16 l17 c18) ∧ (
                (0 : Int) ≤ n15 ∧ (n15 : Int) < ((0 + l8) : Int) ∧ ∃ b19 o20 : Nat, a12 = some (⟨b19, o20, none⟩ : Addr) ∧ (
                  Cells H14 b19 (o20 + (Int.toNat n15)) 1 ∧ ∀ H21 : Heap, Puts H14 b19 (o20 + (Int.toNat n15)) [(.slice a16 l17 c18)] H21 → (
                    ∃ b22 o23 : Nat, x0 = some (⟨b22, o23, none⟩ : Addr) ∧ (
                      Cells H21 b22 o23 1 ∧ ∀ H24 : Heap, Puts H21 b22 o23 [(.slice a12 (0 + l8) c13)] H24 → (
                        R (.tuple #[]) H24)))))))))))) := by kernel_rfl


/-- pentimento/dev.New -/
theorem vc_dnew (x0 : Int) (H : Heap) (R : Value → Heap → Prop) : Walk Try.prog 13 [] [(.int .i64 x0)] H R = (
  ((((x0 : Int) < 8) → (
        R (.tuple #[(.pointer none), (.int .i64 1)]) H)) ∧ (¬ ((x0 : Int) < 8) → (
        ((((4096 : Int) < x0) → (
              R (.tuple #[(.pointer none), (.int .i64 1)]) H)) ∧ (¬ ((4096 : Int) < x0) → (
              ∀ b1 : Nat, ∀ H2 : Heap, New H b1 [(.slice none 0 0), (.slice none 0 0), (.slice none 0 0), (.int .i64 (-1)), (.bool false), (.int .i64 0)] 78 H2 → (
                ∃ I3 : Int → Heap → Prop, ∃ μ4 : Int → Heap → Nat, (I3 0 H2) ∧
                ∀ n5 : Int, ∀ H6 : Heap, I3 n5 H6 → (
                  ((((n5 : Int) < x0) → (
                        ∃ b7 o8 : Nat, (some (⟨b1, 0, none⟩ : Addr)) = some (⟨b7, o8, none⟩ : Addr) ∧ (
                          ∃ a9 : Option Addr, ∃ l10 : Nat, ∃ c11 : Nat, hcell H6 b7 o8 = some (.slice a9 l10 c11) ∧ (
                            (0 : Int) ≤ 128 ∧ (128 : Int) ≤ 128 ∧ (1 : Int) * 128 ≤ 281474976710656 ∧ ∀ b12 : Nat, ∀ H13 : Heap, New H6 b12 (List.replicate (Int.toNat 128) (.int .u8 0)) 5 H13 → (
                              isL H13 b7 o8 [(.slice a9 l10 c11)] ∧ (∀ b14 : Nat, ∀ H15 : Heap, New H13 b14 [(.slice (some (⟨b12, 0, none⟩ : Addr)) (Int.toNat 128) (Int.toNat 128))] 23 H15 → (
                                  isL H15 b7 o8 [(.slice a9 l10 c11)] ∧ (∃ old16 new17 : List Value, SRow H15 1 l10 (.slice a9 l10 c11) old16 ∧ SRow H15 1 1 (.slice (some (⟨b14, 0, none⟩ : Addr)) 1 1) new17 ∧ (∀ u ∈ new17, Value.oneCell' u = true) ∧ (l10 + 1) * 24 ≤ 140737488355328 ∧ (l10 + 1 ≤ c11 → roomOf H15 a9 (l10 * 1) (1 * 1)) ∧ ∀ a18 : Option Addr, ∀ c19 : Nat, ∀ H20 : Heap, App H15 1 23 [(.slice none 0 0)] a9 l10 c11 old16 new17 1 a18 c19 H20 → (
                                      (∃ b21 o22 : Nat, (some (⟨b1, 0, none⟩ : Addr)) = some (⟨b21, o22, none⟩ : Addr) ∧ (
                                          Cells H20 b21 o22 1 ∧ ∀ H23 : Heap, Puts H20 b21 o22 [(.slice a18 (l10 + 1) c19)] H23 → (
                                            ((In64 (n5 + 1)) ∧
                                              (I3 (n5 + 1) H23) ∧ μ4 (n5 + 1) H23 < μ4 n5 H6))))))))))))) ∧ (¬ ((n5 : Int) < x0) → (
                        ∃ b24 o25 : Nat, (some (⟨b1, 0, none⟩ : Addr)) = some (⟨b24, o25, none⟩ : Addr) ∧ (
                          ∃ a26 : Option Addr, ∃ l27 : Nat, ∃ c28 : Nat, hcell H6 b24 o25 = some (.slice a26 l27 c28) ∧ (
                            Does Try.prog 47 [(.slice a26 l27 c28)] H6 fun v29 H30 => ∃ a31 : Option Addr, ∃ l32 : Nat, ∃ c33 : Nat, v29 = (.slice a31 l32 c33) ∧ (
                              ∃ b34 o35 : Nat, (some (⟨b1, 0, none⟩ : Addr)) = some (⟨b34, o35, none⟩ : Addr) ∧ (
                                Cells H30 b34 (o35 + 1) 1 ∧ ∀ H36 : Heap, Puts H30 b34 (o35 + 1) [(.slice a31 l32 c33)] H36 → (
                                  R (.tuple #[(.pointer (some (⟨b1, 0, none⟩ : Addr))), (.int .i64 0)]) H36))))))))))))))))) := by kernel_rfl


/-- (*pentimento/dev.Device).Flush -/
theorem vc_dflush (x0 : Option Addr) (H : Heap) (R : Value → Heap → Prop) : Walk Try.prog 16 [] [(.pointer x0)] H R = (
  Does Try.prog 48 [(.pointer x0)] H fun v1 H2 => ∃ n3 : Int, v1 = (.int .i64 n3) ∧ (
    ((((n3 : Int) ≠ 0) → (
          R (.int .i64 n3) H2)) ∧ (¬ ((n3 : Int) ≠ 0) → (
          ∃ b4 o5 : Nat, x0 = some (⟨b4, o5, none⟩ : Addr) ∧ (
            ∃ a6 : Option Addr, ∃ l7 : Nat, ∃ c8 : Nat, hcell H2 b4 (o5 + 1) = some (.slice a6 l7 c8) ∧ (
              Does Try.prog 47 [(.slice a6 l7 c8)] H2 fun v9 H10 => ∃ a11 : Option Addr, ∃ l12 : Nat, ∃ c13 : Nat, v9 = (.slice a11 l12 c13) ∧ (
                ∃ b14 o15 : Nat, x0 = some (⟨b14, o15, none⟩ : Addr) ∧ (
                  Cells H10 b14 o15 1 ∧ ∀ H16 : Heap, Puts H10 b14 o15 [(.slice a11 l12 c13)] H16 → (
                    ∃ b17 o18 : Nat, x0 = some (⟨b17, o18, none⟩ : Addr) ∧ (
                      Cells H16 b17 (o18 + 2) 1 ∧ ∀ H19 : Heap, Puts H16 b17 (o18 + 2) [(.slice none 0 0)] H19 → (
                        R (.int .i64 0) H19)))))))))))) := by kernel_rfl


/-- (*pentimento/dev.Device).Write -/
theorem vc_dwrite (x0 : Option Addr) (x1 : Int) (x2 : Option Addr) (x2l : Nat) (x2c : Nat) (H : Heap) (R : Value → Heap → Prop) : Walk Try.prog 17 [] [(.pointer x0), (.int .i64 x1), (.slice x2 x2l x2c)] H R = (
  Does Try.prog 49 [(.pointer x0), (.int .i64 x1)] H fun v1 H2 => ∃ t3 : Bool, v1 = (.bool t3) ∧ (
    (((t3 = false) → (
          R (.int .i64 1) H2)) ∧ (¬ (t3 = false) → (
          (((((x2l : Int) : Int) ≠ 128) → (
                R (.int .i64 1) H2)) ∧ (¬ (((x2l : Int) : Int) ≠ 128) → (
                Does Try.prog 48 [(.pointer x0)] H2 fun v4 H5 => ∃ n6 : Int, v4 = (.int .i64 n6) ∧ (
                  ((((n6 : Int) ≠ 0) → (
                        R (.int .i64 n6) H5)) ∧ (¬ ((n6 : Int) ≠ 0) → (
                        Does Try.prog 50 [(.slice x2 x2l x2c)] H5 fun v7 H8 => ∃ a9 : Option Addr, ∃ l10 : Nat, ∃ c11 : Nat, v7 = (.slice a9 l10 c11) ∧ (
                          ∀ b12 : Nat, ∀ H13 : Heap, New H8 b12 [(.int .i64 0), (.slice none 0 0)] 83 H13 → (
                            Cells H13 b12 0 2 ∧ ∀ H14 : Heap, Puts H13 b12 0 [(.int .i64 x1), (.slice a9 l10 c11)] H14 → (
                              ∃ b15 o16 : Nat, x0 = some (⟨b15, o16, none⟩ : Addr) ∧ (
                                ∃ a17 : Option Addr, ∃ l18 : Nat, ∃ c19 : Nat, hcell H14 b15 (o16 + 2) = some (.slice a17 l18 c19) ∧ (
                                  ∃ n20 : Int, hcell H14 b12 0 = some (.int .i64 n20) ∧ (
                                    ∃ a21 : Option Addr, ∃ l22 : Nat, ∃ c23 : Nat, hcell H14 b12 (0 + 1) = some (.slice a21 l22 c23) ∧ (
                                      ∀ b24 : Nat, ∀ H25 : Heap, New H14 b24 [(.int .i64 n20), (.slice a21 l22 c23)] 83 H25 → (
                                        isL H25 b15 (o16 + 2) [(.slice a17 l18 c19)] ∧ (∃ old26 new27 : List Value, SRow H25 2 l18 (.slice a17 l18 c19) old26 ∧ SRow H25 2 1 (.slice (some (⟨b24, 0, none⟩ : Addr)) 1 1) new27 ∧ (∀ u ∈ new27, Value.oneCell' u = true) ∧ (l18 + 1) * 32 ≤ 140737488355328 ∧ (l18 + 1 ≤ c19 → roomOf H25 a17 (l18 * 2) (1 * 2)) ∧ ∀ a28 : Option Addr, ∀ c29 : Nat, ∀ H30 : Heap, App H25 2 83 [(.int .i64 0), (.slice none 0 0)] a17 l18 c19 old26 new27 1 a28 c29 H30 → (
                                            (∃ b31 o32 : Nat, x0 = some (⟨b31, o32, none⟩ : Addr) ∧ (
                                                Cells H30 b31 (o32 + 2) 1 ∧ ∀ H33 : Heap, Puts H30 b31 (o32 + 2) [(.slice a28 (l18 + 1) c29)] H33 → (
                                                  (∃ b34 o35 : Nat, x0 = some (⟨b34, o35, none⟩ : Addr) ∧ (
                                                      ∃ a36 : Option Addr, ∃ l37 : Nat, ∃ c38 : Nat, hcell H33 b34 (o35 + 1) = some (.slice a36 l37 c38) ∧ (
                                                        ∃ a39 : Option Addr, ∃ l40 : Nat, ∃ c41 : Nat, hcell H33 b12 (0 + 1) = some (.slice a39 l40 c41) ∧ (
                                                          (0 : Int) ≤ x1 ∧ (x1 : Int) < (l37 : Int) ∧ ∃ b42 o43 : Nat, a36 = some (⟨b42, o43, none⟩ : Addr) ∧ (
                                                            Cells H33 b42 (o43 + (Int.toNat x1)) 1 ∧ ∀ H44 : Heap, Puts H33 b42 (o43 + (Int.toNat x1)) [(.slice a39 l40 c41)] H44 → (
                                                            (R (.int .i64 0) H44)))))))))))))))))))))))))))))))) := by kernel_rfl


/-- (*pentimento/dev.Device).Crash -/
theorem vc_dcrash (x0 : Option Addr) (x1 : Option Addr) (x1l : Nat) (x1c : Nat) (H : Heap) (R : Value → Heap → Prop) : Walk Try.prog 19 [(5, [])] [(.pointer x0), (.slice x1 x1l x1c)] H R = (
  ∃ b1 o2 : Nat, x0 = some (⟨b1, o2, none⟩ : Addr) ∧ (
    ∃ a3 : Option Addr, ∃ l4 : Nat, ∃ c5 : Nat, hcell H b1 (o2 + 2) = some (.slice a3 l4 c5) ∧ (
      ∃ I6 : Int → Heap → Prop, ∃ μ7 : Int → Heap → Nat, (I6 0 H) ∧
      ∀ n8 : Int, ∀ H9 : Heap, I6 n8 H9 → (
        ((((n8 : Int) < (l4 : Int)) → (
              ∃ I10 : Heap → Prop, (
                (0 : Int) ≤ n8 ∧ (n8 : Int) < (l4 : Int) ∧ ∃ b11 o12 : Nat, a3 = some (⟨b11, o12, none⟩ : Addr) ∧ (
                  ∃ n13 : Int, hcell H9 b11 (o12 + (Int.toNat n8) * 2) = some (.int .i64 n13) ∧ (
                    ∃ a14 : Option Addr, ∃ l15 : Nat, ∃ c16 : Nat, hcell H9 b11 ((o12 + (Int.toNat n8) * 2) + 1) = some (.slice a14 l15 c16) ∧ (
                      ∀ b17 : Nat, ∀ H18 : Heap, New H9 b17 [(.int .i64 0), (.slice none 0 0)] 83 H18 → (
                        Cells H18 b17 0 2 ∧ ∀ H19 : Heap, Puts H18 b17 0 [(.int .i64 n13), (.slice a14 l15 c16)] H19 → (
                          Does Try.prog 51 [(.slice x1 x1l x1c), (.int .i64 n8)] H19 fun v20 H21 => ∃ t22 : Bool, v20 = (.bool t22) ∧ (
                            ((t22 = true → (
                                  ∃ b23 o24 : Nat, x0 = some (⟨b23, o24, none⟩ : Addr) ∧ (
                                    ∃ a25 : Option Addr, ∃ l26 : Nat, ∃ c27 : Nat, hcell H21 b23 o24 = some (.slice a25 l26 c27) ∧ (
                                      ∃ n28 : Int, hcell H21 b17 0 = some (.int .i64 n28) ∧ (
                                        ∃ a29 : Option Addr, ∃ l30 : Nat, ∃ c31 : Nat, hcell H21 b17 (0 + 1) = some (.slice a29 l30 c31) ∧ (
                                          (0 : Int) ≤ n28 ∧ (n28 : Int) < (l26 : Int) ∧ ∃ b32 o33 : Nat, a25 = some (⟨b32, o33, none⟩ : Addr) ∧ (
                                            Cells H21 b32 (o33 + (Int.toNat n28)) 1 ∧ ∀ H34 : Heap, Puts H21 b32 (o33 + (Int.toNat n28)) [(.slice a29 l30 c31)] H34 → (
                                              (I10 H34))))))))) ∧ (t22 = false → (
                                  I10 H21)))))))))) ∧
              ∀ H35 : Heap, I10 H35 → (
                (In64 (n8 + 1)) ∧
                (I6 (n8 + 1) H35) ∧ μ7 (n8 + 1) H35 < μ7 n8 H9))) ∧ (¬ ((n8 : Int) < (l4 : Int)) → (
              ∃ b36 o37 : Nat, x0 = some (⟨b36, o37, none⟩ : Addr) ∧ (
                ∃ a38 : Option Addr, ∃ l39 : Nat, ∃ c40 : Nat, hcell H9 b36 o37 = some (.slice a38 l39 c40) ∧ (
                  Does Try.prog 47 [(.slice a38 l39 c40)] H9 fun v41 H42 => ∃ a43 : Option Addr, ∃ l44 : Nat, ∃ c45 : Nat, v41 = (.slice a43 l44 c45) ∧ (
                    ∃ b46 o47 : Nat, x0 = some (⟨b46, o47, none⟩ : Addr) ∧ (
                      Cells H42 b46 (o47 + 1) 1 ∧ ∀ H48 : Heap, Puts H42 b46 (o47 + 1) [(.slice a43 l44 c45)] H48 → (
                        ∃ b49 o50 : Nat, x0 = some (⟨b49, o50, none⟩ : Addr) ∧ (
                          Cells H48 b49 (o50 + 2) 1 ∧ ∀ H51 : Heap, Puts H48 b49 (o50 + 2) [(.slice none 0 0)] H51 → (
                            ∃ b52 o53 : Nat, x0 = some (⟨b52, o53, none⟩ : Addr) ∧ (
                              Cells H51 b52 (o53 + 4) 1 ∧ ∀ H54 : Heap, Puts H51 b52 (o53 + 4) [(.bool false)] H54 → (
                                ∃ b55 o56 : Nat, x0 = some (⟨b55, o56, none⟩ : Addr) ∧ (
                                  Cells H54 b55 (o56 + 3) 1 ∧ ∀ H57 : Heap, Puts H54 b55 (o56 + 3) [(.int .i64 (-1))] H57 → (
                                    R (.tuple #[]) H57)))))))))))))))))) := by kernel_rfl


/-- (*pentimento/dev.Device).Read -/
theorem vc_dread (x0 : Option Addr) (x1 : Int) (H : Heap) (R : Value → Heap → Prop) : Walk Try.prog 20 [] [(.pointer x0), (.int .i64 x1)] H R = (
  Does Try.prog 49 [(.pointer x0), (.int .i64 x1)] H fun v1 H2 => ∃ t3 : Bool, v1 = (.bool t3) ∧ (
    (((t3 = false) → (
          R (.tuple #[(.slice none 0 0), (.int .i64 1)]) H2)) ∧ (¬ (t3 = false) → (
          ∃ b4 o5 : Nat, x0 = some (⟨b4, o5, none⟩ : Addr) ∧ (
            ∃ t6 : Bool, hcell H2 b4 (o5 + 4) = some (.bool t6) ∧ (
              ((t6 = true → (
                    R (.tuple #[(.slice none 0 0), (.int .i64 4)]) H2)) ∧ (t6 = false → (
                    ∃ b7 o8 : Nat, x0 = some (⟨b7, o8, none⟩ : Addr) ∧ (
                      ∃ a9 : Option Addr, ∃ l10 : Nat, ∃ c11 : Nat, hcell H2 b7 (o8 + 1) = some (.slice a9 l10 c11) ∧ (
                        (0 : Int) ≤ x1 ∧ (x1 : Int) < (l10 : Int) ∧ ∃ b12 o13 : Nat, a9 = some (⟨b12, o13, none⟩ : Addr) ∧ (
                          ∃ a14 : Option Addr, ∃ l15 : Nat, ∃ c16 : Nat, hcell H2 b12 (o13 + (Int.toNat x1)) = some (.slice a14 l15 c16) ∧ (
                            Does Try.prog 50 [(.slice a14 l15 c16)] H2 fun v17 H18 => ∃ a19 : Option Addr, ∃ l20 : Nat, ∃ c21 : Nat, v17 = (.slice a19 l20 c21) ∧ (
                              R (.tuple #[(.slice a19 l20 c21), (.int .i64 0)]) H18))))))))))))))) := by kernel_rfl


/-- (*pentimento/dev.Device).Pending -/
theorem vc_dpending (x0 : Option Addr) (H : Heap) (R : Value → Heap → Prop) : Walk Try.prog 21 [] [(.pointer x0)] H R = (
  ∃ b1 o2 : Nat, x0 = some (⟨b1, o2, none⟩ : Addr) ∧ (
    ∃ a3 : Option Addr, ∃ l4 : Nat, ∃ c5 : Nat, hcell H b1 (o2 + 2) = some (.slice a3 l4 c5) ∧ (
      R (.int .i64 (l4 : Int)) H))) := by kernel_rfl


/-- pentimento/pentimentoref4.New -/
theorem vc_rdnew (x0 : Int) (H : Heap) (R : Value → Heap → Prop) : Walk Try.prog 22 [] [(.int .i64 x0)] H R = (
  ∀ b1 : Nat, ∀ H2 : Heap, New H b1 [(.slice none 0 0), (.slice none 0 0), (.int .i64 (-1)), (.bool false), (.int .i64 0)] 49 H2 → (
    ∃ I3 : Int → Heap → Prop, ∃ μ4 : Int → Heap → Nat, (I3 0 H2) ∧
    ∀ n5 : Int, ∀ H6 : Heap, I3 n5 H6 → (
      ((((n5 : Int) < x0) → (
            ∃ b7 o8 : Nat, (some (⟨b1, 0, none⟩ : Addr)) = some (⟨b7, o8, none⟩ : Addr) ∧ (
              ∃ a9 : Option Addr, ∃ l10 : Nat, ∃ c11 : Nat, hcell H6 b7 o8 = some (.slice a9 l10 c11) ∧ (
                (0 : Int) ≤ 128 ∧ (128 : Int) ≤ 128 ∧ (1 : Int) * 128 ≤ 281474976710656 ∧ ∀ b12 : Nat, ∀ H13 : Heap, New H6 b12 (List.replicate (Int.toNat 128) (.int .u8 0)) 5 H13 → (
                  isL H13 b7 o8 [(.slice a9 l10 c11)] ∧ (∀ b14 : Nat, ∀ H15 : Heap, New H13 b14 [(.slice (some (⟨b12, 0, none⟩ : Addr)) (Int.toNat 128) (Int.toNat 128))] 23 H15 → (
                      isL H15 b7 o8 [(.slice a9 l10 c11)] ∧ (∃ old16 new17 : List Value, SRow H15 1 l10 (.slice a9 l10 c11) old16 ∧ SRow H15 1 1 (.slice (some (⟨b14, 0, none⟩ : Addr)) 1 1) new17 ∧ (∀ u ∈ new17, Value.oneCell' u = true) ∧ (l10 + 1) * 24 ≤ 140737488355328 ∧ (l10 + 1 ≤ c11 → roomOf H15 a9 (l10 * 1) (1 * 1)) ∧ ∀ a18 : Option Addr, ∀ c19 : Nat, ∀ H20 : Heap, App H15 1 23 [(.slice none 0 0)] a9 l10 c11 old16 new17 1 a18 c19 H20 → (
                          (∃ b21 o22 : Nat, (some (⟨b1, 0, none⟩ : Addr)) = some (⟨b21, o22, none⟩ : Addr) ∧ (
                              Cells H20 b21 o22 1 ∧ ∀ H23 : Heap, Puts H20 b21 o22 [(.slice a18 (l10 + 1) c19)] H23 → (
                                ((In64 (n5 + 1)) ∧
                                  (I3 (n5 + 1) H23) ∧ μ4 (n5 + 1) H23 < μ4 n5 H6))))))))))))) ∧ (¬ ((n5 : Int) < x0) → (
            R (.pointer (some (⟨b1, 0, none⟩ : Addr))) H6)))))) := by kernel_rfl


/-- (*pentimento/pentimentoref4.Device).Flush -/
theorem vc_rdflush (x0 : Option Addr) (H : Heap) (R : Value → Heap → Prop) : Walk Try.prog 23 [] [(.pointer x0)] H R = (
  Does Try.prog 52 [(.pointer x0)] H fun v1 H2 => ∃ t3 : Bool, v1 = (.bool t3) ∧ (
    (((t3 = false) → (
          R (.int .i64 4) H2)) ∧ (¬ (t3 = false) → (
          ∃ I4 : Int → Heap → Prop, ∃ μ5 : Int → Heap → Nat, (I4 0 H2) ∧
          ∀ n6 : Int, ∀ H7 : Heap, I4 n6 H7 → (
            ∃ b8 o9 : Nat, x0 = some (⟨b8, o9, none⟩ : Addr) ∧ (
              ∃ a10 : Option Addr, ∃ l11 : Nat, ∃ c12 : Nat, hcell H7 b8 (o9 + 1) = some (.slice a10 l11 c12) ∧ (
                ((((n6 : Int) < (l11 : Int)) → (
                      ∃ b13 o14 : Nat, x0 = some (⟨b13, o14, none⟩ : Addr) ∧ (
                        ∃ a15 : Option Addr, ∃ l16 : Nat, ∃ c17 : Nat, hcell H7 b13 (o14 + 1) = some (.slice a15 l16 c17) ∧ (
                          (0 : Int) ≤ n6 ∧ (n6 : Int) < (l16 : Int) ∧ ∃ b18 o19 : Nat, a15 = some (⟨b18, o19, none⟩ : Addr) ∧ (
                            ∃ n20 : Int, hcell H7 b18 (o19 + (Int.toNat n6) * 2) = some (.int .i64 n20) ∧ (
                              ∃ a21 : Option Addr, ∃ l22 : Nat, ∃ c23 : Nat, hcell H7 b18 ((o19 + (Int.toNat n6) * 2) + 1) = some (.slice a21 l22 c23) ∧ (
                                Does Try.prog 53 [(.pointer x0), (.agg #[(.int .i64 n20), (.slice a21 l22 c23)])] H7 fun v24 H25 => v24 = (.tuple #[]) ∧ (
                                  (In64 (n6 + 1)) ∧
                                  (I4 (n6 + 1) H25) ∧ μ5 (n6 + 1) H25 < μ5 n6 H7)))))))) ∧ (¬ ((n6 : Int) < (l11 : Int)) → (
                      ∃ b26 o27 : Nat, x0 = some (⟨b26, o27, none⟩ : Addr) ∧ (
                        Cells H7 b26 (o27 + 1) 1 ∧ ∀ H28 : Heap, Puts H7 b26 (o27 + 1) [(.slice none 0 0)] H28 → (
                          R (.int .i64 0) H28))))))))))))) := by kernel_rfl


/-- (*pentimento/pentimentoref4.Device).Crash -/
theorem vc_rdcrash (x0 : Option Addr) (x1 : Option Addr) (x1l : Nat) (x1c : Nat) (H : Heap) (R : Value → Heap → Prop) : Walk Try.prog 24 [(2, [])] [(.pointer x0), (.slice x1 x1l x1c)] H R = (
  ∃ I1 : Int → Heap → Prop, ∃ μ2 : Int → Heap → Nat, (I1 0 H) ∧
  ∀ n3 : Int, ∀ H4 : Heap, I1 n3 H4 → (
    ∃ b5 o6 : Nat, x0 = some (⟨b5, o6, none⟩ : Addr) ∧ (
      ∃ a7 : Option Addr, ∃ l8 : Nat, ∃ c9 : Nat, hcell H4 b5 (o6 + 1) = some (.slice a7 l8 c9) ∧ (
        ((((n3 : Int) < (l8 : Int)) → (
              ∃ I10 : Heap → Prop, (
                ((8 : Int) ≠ 0) ∧
                ∀ q11 : Int, q11 = IntKind.wrap .i64 (Int.tdiv n3 8) → (
                  ((((q11 : Int) < (x1l : Int)) → (
                        ((8 : Int) ≠ 0) ∧
                        ∀ q12 : Int, q12 = IntKind.wrap .i64 (Int.tdiv n3 8) → (
                          (0 : Int) ≤ q12 ∧ (q12 : Int) < (x1l : Int) ∧ ∃ b13 o14 : Nat, x1 = some (⟨b13, o14, none⟩ : Addr) ∧ (
                            ∃ n15 : Int, hcell H4 b13 (o14 + (Int.toNat q12)) = some (.int .u8 n15) ∧ (
                              ((8 : Int) ≠ 0) ∧
                              ∀ q16 : Int, q16 = Int.tmod n3 8 → (
                                ∀ q17 : Int, q17 = IntKind.wrap .u64 q16 → (
                                  ((0 : Int) ≤ q17) ∧
                                  ∀ q18 : Int, q18 = Int.fdiv n15 (2 ^ (min q17.toNat (IntKind.bits .u8))) → (
                                    ∀ q19 : Int, q19 = bits .and .u8 q18 1 → (
                                      ((((q19 : Int) = 1) → (
                                            ∃ b20 o21 : Nat, x0 = some (⟨b20, o21, none⟩ : Addr) ∧ (
                                              ∃ a22 : Option Addr, ∃ l23 : Nat, ∃ c24 : Nat, hcell H4 b20 (o21 + 1) = some (.slice a22 l23 c24) ∧ (
                                                (0 : Int) ≤ n3 ∧ (n3 : Int) < (l23 : Int) ∧ ∃ b25 o26 : Nat, a22 = some (⟨b25, o26, none⟩ : Addr) ∧ (
                                                  ∃ n27 : Int, hcell H4 b25 (o26 + (Int.toNat n3) * 2) = some (.int .i64 n27) ∧ (
                                                    ∃ a28 : Option Addr, ∃ l29 : Nat, ∃ c30 : Nat, hcell H4 b25 ((o26 + (Int.toNat n3) * 2) + 1) = some (.slice a28 l29 c30) ∧ (
                                                      Does Try.prog 53 [(.pointer x0), (.agg #[(.int .i64 n27), (.slice a28 l29 c30)])] H4 fun v31 H32 => v31 = (.tuple #[]) ∧ (
                                                        I10 H32)))))))) ∧ (¬ ((q19 : Int) = 1) → (
                                            I10 H4)))))))))))) ∧ (¬ ((q11 : Int) < (x1l : Int)) → (
                        I10 H4))))) ∧
              ∀ H33 : Heap, I10 H33 → (
                (In64 (n3 + 1)) ∧
                (I1 (n3 + 1) H33) ∧ μ2 (n3 + 1) H33 < μ2 n3 H4))) ∧ (¬ ((n3 : Int) < (l8 : Int)) → (
              ∃ b34 o35 : Nat, x0 = some (⟨b34, o35, none⟩ : Addr) ∧ (
                Cells H4 b34 (o35 + 1) 1 ∧ ∀ H36 : Heap, Puts H4 b34 (o35 + 1) [(.slice none 0 0)] H36 → (
                  ∃ b37 o38 : Nat, x0 = some (⟨b37, o38, none⟩ : Addr) ∧ (
                    Cells H36 b37 (o38 + 3) 1 ∧ ∀ H39 : Heap, Puts H36 b37 (o38 + 3) [(.bool false)] H39 → (
                      ∃ b40 o41 : Nat, x0 = some (⟨b40, o41, none⟩ : Addr) ∧ (
                        Cells H39 b40 (o41 + 2) 1 ∧ ∀ H42 : Heap, Puts H39 b40 (o41 + 2) [(.int .i64 (-1))] H42 → (
                          R (.tuple #[]) H42))))))))))))) := by kernel_rfl


/-- (*pentimento/dev.Device).Fuse -/
theorem vc_dfuse (x0 : Option Addr) (x1 : Int) (H : Heap) (R : Value → Heap → Prop) : Walk Try.prog 25 [] [(.pointer x0), (.int .i64 x1)] H R = (
  ∃ b1 o2 : Nat, x0 = some (⟨b1, o2, none⟩ : Addr) ∧ (
    Cells H b1 (o2 + 3) 1 ∧ ∀ H3 : Heap, Puts H b1 (o2 + 3) [(.int .i64 (max x1 (-1)))] H3 → (
      R (.tuple #[]) H3))) := by kernel_rfl


/-- (*pentimento/pentimentoref4.Device).SetFuse -/
theorem vc_rdfuse (x0 : Option Addr) (x1 : Int) (H : Heap) (R : Value → Heap → Prop) : Walk Try.prog 26 [] [(.pointer x0), (.int .i64 x1)] H R = (
  ∃ b1 o2 : Nat, x0 = some (⟨b1, o2, none⟩ : Addr) ∧ (
    Cells H b1 (o2 + 2) 1 ∧ ∀ H3 : Heap, Puts H b1 (o2 + 2) [(.int .i64 (max (-1) x1))] H3 → (
      R (.tuple #[]) H3))) := by kernel_rfl


/-- (*pentimento/pentimentoref4.Device).Write -/
theorem vc_rdwrite (x0 : Option Addr) (x1 : Int) (x2 : Option Addr) (x2l : Nat) (x2c : Nat) (H : Heap) (R : Value → Heap → Prop) : Walk Try.prog 27 [] [(.pointer x0), (.int .i64 x1), (.slice x2 x2l x2c)] H R = (
  ((((x1 : Int) < 0) → (
        R (.int .i64 1) H)) ∧ (¬ ((x1 : Int) < 0) → (
        ∃ b1 o2 : Nat, x0 = some (⟨b1, o2, none⟩ : Addr) ∧ (
          ∃ a3 : Option Addr, ∃ l4 : Nat, ∃ c5 : Nat, hcell H b1 o2 = some (.slice a3 l4 c5) ∧ (
            (((((l4 : Int) : Int) ≤ x1) → (
                  R (.int .i64 1) H)) ∧ (¬ (((l4 : Int) : Int) ≤ x1) → (
                  (((((x2l : Int) : Int) ≠ 128) → (
                        R (.int .i64 1) H)) ∧ (¬ (((x2l : Int) : Int) ≠ 128) → (
                        Does Try.prog 52 [(.pointer x0)] H fun v6 H7 => ∃ t8 : Bool, v6 = (.bool t8) ∧ (
                          (((t8 = false) → (
                                R (.int .i64 4) H7)) ∧ (¬ (t8 = false) → (
                                ∃ b9 o10 : Nat, x0 = some (⟨b9, o10, none⟩ : Addr) ∧ (
                                  ∃ a11 : Option Addr, ∃ l12 : Nat, ∃ c13 : Nat, hcell H7 b9 (o10 + 1) = some (.slice a11 l12 c13) ∧ (
                                    ∀ b14 : Nat, ∀ H15 : Heap, New H7 b14 [] 5 H15 → (
                                      isL H15 b9 (o10 + 1) [(.slice a11 l12 c13)] ∧ (∃ old16 new17 : List Value, SRow H15 1 0 (.slice (some (⟨b14, 0, none⟩ : Addr)) 0 0) old16 ∧ SRow H15 1 x2l (.slice x2 x2l x2c) new17 ∧ (∀ u ∈ new17, Value.oneCell' u = true) ∧ (0 + x2l) * 1 ≤ 140737488355328 ∧ (0 + x2l ≤ 0 → roomOf H15 (some (⟨b14, 0, none⟩ : Addr)) (0 * 1) (x2l * 1)) ∧ ∀ a18 : Option Addr, ∀ c19 : Nat, ∀ H20 : Heap, App H15 1 5 [(.int .u8 0)] (some (⟨b14, 0, none⟩ : Addr)) 0 0 old16 new17 x2l a18 c19 H20 → (
                                          isL H20 b9 (o10 + 1) [(.slice a11 l12 c13)] ∧ (∀ b21 : Nat, ∀ H22 : Heap, New H20 b21 [(.int .i64 x1), (.slice a18 (0 + x2l) c19)] 86 H22 → (
                                              isL H22 b9 (o10 + 1) [(.slice a11 l12 c13)] ∧ (∃ old23 new24 : List Value, SRow H22 2 l12 (.slice a11 l12 c13) old23 ∧ SRow H22 2 1 (.slice (some (⟨b21, 0, none⟩ : Addr)) 1 1) new24 ∧ (∀ u ∈ new24, Value.oneCell' u = true) ∧ (l12 + 1) * 32 ≤ 140737488355328 ∧ (l12 + 1 ≤ c13 → roomOf H22 a11 (l12 * 2) (1 * 2)) ∧ ∀ a25 : Option Addr, ∀ c26 : Nat, ∀ H27 : Heap, App H22 2 86 [(.int .i64 0), (.slice none 0 0)] a11 l12 c13 old23 new24 1 a25 c26 H27 → (
                                                  (∃ b28 o29 : Nat, x0 = some (⟨b28, o29, none⟩ : Addr) ∧ (
                                                      Cells H27 b28 (o29 + 1) 1 ∧ ∀ H30 : Heap, Puts H27 b28 (o29 + 1) [(.slice a25 (l12 + 1) c26)] H30 → (
                                                        (R (.int .i64 0) H30))))))))))))))))))))))))))))) := by kernel_rfl


/-- (*pentimento/dev.Device).Dead -/
theorem vc_ddead (x0 : Option Addr) (H : Heap) (R : Value → Heap → Prop) : Walk Try.prog 28 [] [(.pointer x0)] H R = (
  ∃ b1 o2 : Nat, x0 = some (⟨b1, o2, none⟩ : Addr) ∧ (
    ∃ t3 : Bool, hcell H b1 (o2 + 4) = some (.bool t3) ∧ (
      R (.bool t3) H))) := by kernel_rfl


/-- (*pentimento/dev.Device).Works -/
theorem vc_dworks (x0 : Option Addr) (H : Heap) (R : Value → Heap → Prop) : Walk Try.prog 29 [] [(.pointer x0)] H R = (
  ∃ b1 o2 : Nat, x0 = some (⟨b1, o2, none⟩ : Addr) ∧ (
    ∃ n3 : Int, hcell H b1 (o2 + 5) = some (.int .i64 n3) ∧ (
      R (.int .i64 n3) H))) := by kernel_rfl


/-- (*pentimento/pentimentoref4.Device).Read -/
theorem vc_rdread (x0 : Option Addr) (x1 : Int) (H : Heap) (R : Value → Heap → Prop) : Walk Try.prog 30 [] [(.pointer x0), (.int .i64 x1)] H R = (
  ((((x1 : Int) < 0) → (
        R (.tuple #[(.slice none 0 0), (.int .i64 1)]) H)) ∧ (¬ ((x1 : Int) < 0) → (
        ∃ b1 o2 : Nat, x0 = some (⟨b1, o2, none⟩ : Addr) ∧ (
          ∃ a3 : Option Addr, ∃ l4 : Nat, ∃ c5 : Nat, hcell H b1 o2 = some (.slice a3 l4 c5) ∧ (
            (((((l4 : Int) : Int) ≤ x1) → (
                  R (.tuple #[(.slice none 0 0), (.int .i64 1)]) H)) ∧ (¬ (((l4 : Int) : Int) ≤ x1) → (
                  ∃ b6 o7 : Nat, x0 = some (⟨b6, o7, none⟩ : Addr) ∧ (
                    ∃ t8 : Bool, hcell H b6 (o7 + 3) = some (.bool t8) ∧ (
                      ((t8 = true → (
                            R (.tuple #[(.slice none 0 0), (.int .i64 4)]) H)) ∧ (t8 = false → (
                            ∃ b9 o10 : Nat, x0 = some (⟨b9, o10, none⟩ : Addr) ∧ (
                              ∃ a11 : Option Addr, ∃ l12 : Nat, ∃ c13 : Nat, hcell H b9 (o10 + 1) = some (.slice a11 l12 c13) ∧ (
                                (In64 ((l12 : Int) - 1)) ∧
                                ∃ I14 : Int → Heap → Prop, ∃ μ15 : Int → Heap → Nat, (I14 ((l12 : Int) - 1) H) ∧
                                ∀ n16 : Int, ∀ H17 : Heap, I14 n16 H17 → (
                                  ((((0 : Int) ≤ n16) → (
                                        ∃ b18 o19 : Nat, x0 = some (⟨b18, o19, none⟩ : Addr) ∧ (
                                          ∃ a20 : Option Addr, ∃ l21 : Nat, ∃ c22 : Nat, hcell H17 b18 (o19 + 1) = some (.slice a20 l21 c22) ∧ (
                                            (0 : Int) ≤ n16 ∧ (n16 : Int) < (l21 : Int) ∧ ∃ b23 o24 : Nat, a20 = some (⟨b23, o24, none⟩ : Addr) ∧ (
                                              ∃ n25 : Int, hcell H17 b23 (o24 + (Int.toNat n16) * 2) = some (.int .i64 n25) ∧ (
                                                ((((n25 : Int) = x1) → (
                                                      ∃ b26 o27 : Nat, x0 = some (⟨b26, o27, none⟩ : Addr) ∧ (
                                                        ∃ a28 : Option Addr, ∃ l29 : Nat, ∃ c30 : Nat, hcell H17 b26 (o27 + 1) = some (.slice a28 l29 c30) ∧ (
                                                          (0 : Int) ≤ n16 ∧ (n16 : Int) < (l29 : Int) ∧ ∃ b31 o32 : Nat, a28 = some (⟨b31, o32, none⟩ : Addr) ∧ (
                                                            ∃ a33 : Option Addr, ∃ l34 : Nat, ∃ c35 : Nat, hcell H17 b31 ((o32 + (Int.toNat n16) * 2) + 1) = some (.slice a33 l34 c35) ∧ (
                                                            R (.tuple #[(.slice a33 l34 c35), (.int .i64 0)]) H17)))))) ∧ (¬ ((n25 : Int) = x1) → (
                                                      (In64 (n16 - 1)) ∧
                                                      (I14 (n16 - 1) H17) ∧ μ15 (n16 - 1) H17 < μ15 n16 H17))))))))) ∧ (¬ ((0 : Int) ≤ n16) → (
                                        ∃ b36 o37 : Nat, x0 = some (⟨b36, o37, none⟩ : Addr) ∧ (
                                          ∃ a38 : Option Addr, ∃ l39 : Nat, ∃ c40 : Nat, hcell H17 b36 o37 = some (.slice a38 l39 c40) ∧ (
                                            (0 : Int) ≤ x1 ∧ (x1 : Int) < (l39 : Int) ∧ ∃ b41 o42 : Nat, a38 = some (⟨b41, o42, none⟩ : Addr) ∧ (
                                              ∃ a43 : Option Addr, ∃ l44 : Nat, ∃ c45 : Nat, hcell H17 b41 (o42 + (Int.toNat x1)) = some (.slice a43 l44 c45) ∧ (
                                                R (.tuple #[(.slice a43 l44 c45), (.int .i64 0)]) H17)))))))))))))))))))))))) := by kernel_rfl


/-- (*pentimento/dev.Device).Blocks -/
theorem vc_dblocks (x0 : Option Addr) (H : Heap) (R : Value → Heap → Prop) : Walk Try.prog 31 [] [(.pointer x0)] H R = (
  ∃ b1 o2 : Nat, x0 = some (⟨b1, o2, none⟩ : Addr) ∧ (
    ∃ a3 : Option Addr, ∃ l4 : Nat, ∃ c5 : Nat, hcell H b1 (o2 + 1) = some (.slice a3 l4 c5) ∧ (
      R (.int .i64 (l4 : Int)) H))) := by kernel_rfl


/-- pentimento/pentimentolaw4.block -/
theorem vc_block (x0 : Int) (H : Heap) (R : Value → Heap → Prop) : Walk Try.prog 18 [] [(.int .u8 x0)] H R = (
  (0 : Int) ≤ 128 ∧ (128 : Int) ≤ 128 ∧ (1 : Int) * 128 ≤ 281474976710656 ∧ ∀ b1 : Nat, ∀ H2 : Heap, New H b1 (List.replicate (Int.toNat 128) (.int .u8 0)) 5 H2 → (
    ∃ I3 : Int → Heap → Prop, ∃ μ4 : Int → Heap → Nat, (I3 0 H2) ∧
    ∀ n5 : Int, ∀ H6 : Heap, I3 n5 H6 → (
      ((((n5 : Int) < ((Int.toNat 128) : Int)) → (
            (0 : Int) ≤ n5 ∧ (n5 : Int) < ((Int.toNat 128) : Int) ∧ ∃ b7 o8 : Nat, (some (⟨b1, 0, none⟩ : Addr)) = some (⟨b7, o8, none⟩ : Addr) ∧ (
              Cells H6 b7 (o8 + (Int.toNat n5)) 1 ∧ ∀ H9 : Heap, Puts H6 b7 (o8 + (Int.toNat n5)) [(.int .u8 x0)] H9 → (
                (In64 (n5 + 1)) ∧
                (I3 (n5 + 1) H9) ∧ μ4 (n5 + 1) H9 < μ4 n5 H6)))) ∧ (¬ ((n5 : Int) < ((Int.toNat 128) : Int)) → (
            R (.slice (some (⟨b1, 0, none⟩ : Addr)) (Int.toNat 128) (Int.toNat 128)) H6)))))) := by kernel_rfl


/-- pentimento/pentimentolaw4.known -/
theorem vc_known4 (H : Heap) (R : Value → Heap → Prop) : Walk Try.prog 14 [] [] H R = (
  Does Try.prog 13 [(.int .i64 8)] H fun v1 H2 => ∃ p3 : Option Addr, ∃ n4 : Int, v1 = (.tuple #[(.pointer p3), (.int .i64 n4)]) ∧ (
    ((((n4 : Int) ≠ 0) → (
          R (.bool false) H2)) ∧ (¬ ((n4 : Int) ≠ 0) → (
          ((((p3 : Option Addr) = none) → (
                R (.bool false) H2)) ∧ (¬ ((p3 : Option Addr) = none) → (
                Does Try.prog 18 [(.int .u8 1)] H2 fun v5 H6 => ∃ a7 : Option Addr, ∃ l8 : Nat, ∃ c9 : Nat, v5 = (.slice a7 l8 c9) ∧ (
                  Does Try.prog 17 [(.pointer p3), (.int .i64 1), (.slice a7 l8 c9)] H6 fun v10 H11 => ∃ n12 : Int, v10 = (.int .i64 n12) ∧ (
                    ((((n12 : Int) ≠ 0) → (
                          R (.bool false) H11)) ∧ (¬ ((n12 : Int) ≠ 0) → (
                          Does Try.prog 18 [(.int .u8 2)] H11 fun v13 H14 => ∃ a15 : Option Addr, ∃ l16 : Nat, ∃ c17 : Nat, v13 = (.slice a15 l16 c17) ∧ (
                            Does Try.prog 17 [(.pointer p3), (.int .i64 2), (.slice a15 l16 c17)] H14 fun v18 H19 => ∃ n20 : Int, v18 = (.int .i64 n20) ∧ (
                              ((((n20 : Int) ≠ 0) → (
                                    R (.bool false) H19)) ∧ (¬ ((n20 : Int) ≠ 0) → (
                                    Does Try.prog 21 [(.pointer p3)] H19 fun v21 H22 => ∃ n23 : Int, v21 = (.int .i64 n23) ∧ (
                                      ((((n23 : Int) ≠ 2) → (
                                            R (.bool false) H22)) ∧ (¬ ((n23 : Int) ≠ 2) → (
                                            ∀ b24 : Nat, ∀ H25 : Heap, New H22 b24 [(.int .u8 2)] 5 H25 → (
                                              Does Try.prog 19 [(.pointer p3), (.slice (some (⟨b24, 0, none⟩ : Addr)) 1 1)] H25 fun v26 H27 => v26 = (.tuple #[]) ∧ (
                                                Does Try.prog 20 [(.pointer p3), (.int .i64 1)] H27 fun v28 H29 => ∃ a30 : Option Addr, ∃ l31 : Nat, ∃ c32 : Nat, ∃ n33 : Int, v28 = (.tuple #[(.slice a30 l31 c32), (.int .i64 n33)]) ∧ (
                                                  Does Try.prog 20 [(.pointer p3), (.int .i64 2)] H29 fun v34 H35 => ∃ a36 : Option Addr, ∃ l37 : Nat, ∃ c38 : Nat, ∃ n39 : Int, v34 = (.tuple #[(.slice a36 l37 c38), (.int .i64 n39)]) ∧ (
                                                    ((((n33 : Int) = 0) → (
                                                          ((((n39 : Int) = 0) → (
                                                            ∃ l40 : List UInt8, SRow H35 1 l31 (.slice a30 l31 c32) (List.map (fun (b : UInt8) => Value.int .u8 b.toNat) l40) ∧ (
                                                            Does Try.prog 18 [(.int .u8 0)] H35 fun v41 H42 => ∃ a43 : Option Addr, ∃ l44 : Nat, ∃ c45 : Nat, v41 = (.slice a43 l44 c45) ∧ (
                                                            SRow H42 1 l31 (.slice a30 l31 c32) (List.map (fun (b : UInt8) => Value.int .u8 b.toNat) l40) ∧ (∃ l46 : List UInt8, SRow H42 1 l44 (.slice a43 l44 c45) (List.map (fun (b : UInt8) => Value.int .u8 b.toNat) l46) ∧ (
                                                            (((((ByteArray.mk (List.toArray l40)) : ByteArray) = (ByteArray.mk (List.toArray l46))) → (
                                                            ∃ l47 : List UInt8, SRow H42 1 l37 (.slice a36 l37 c38) (List.map (fun (b : UInt8) => Value.int .u8 b.toNat) l47) ∧ (
                                                            Does Try.prog 18 [(.int .u8 2)] H42 fun v48 H49 => ∃ a50 : Option Addr, ∃ l51 : Nat, ∃ c52 : Nat, v48 = (.slice a50 l51 c52) ∧ (
                                                            SRow H49 1 l37 (.slice a36 l37 c38) (List.map (fun (b : UInt8) => Value.int .u8 b.toNat) l47) ∧ (∃ l53 : List UInt8, SRow H49 1 l51 (.slice a50 l51 c52) (List.map (fun (b : UInt8) => Value.int .u8 b.toNat) l53) ∧ (
                                                            (((((ByteArray.mk (List.toArray l47)) : ByteArray) = (ByteArray.mk (List.toArray l53))) → (
                                                            Does Try.prog 21 [(.pointer p3)] H49 fun v54 H55 => ∃ n56 : Int, v54 = (.int .i64 n56) ∧ (
                                                            (R (.bool (@decide ((n56 : Int) = 0) (Classical.propDecidable _))) H55)))) ∧ (¬ (((ByteArray.mk (List.toArray l47)) : ByteArray) = (ByteArray.mk (List.toArray l53))) → (
                                                            R (.bool false) H49))))))))) ∧ (¬ (((ByteArray.mk (List.toArray l40)) : ByteArray) = (ByteArray.mk (List.toArray l46))) → (
                                                            R (.bool false) H42))))))))) ∧ (¬ ((n39 : Int) = 0) → (
                                                            R (.bool false) H35))))) ∧ (¬ ((n33 : Int) = 0) → (
                                                          R (.bool false) H35))))))))))))))))))))))))))))) := by kernel_rfl


end Go.Proofs
end

section
open Go Go.Vc
namespace Go.Vc

abbrev Bytes := List UInt8

/-- Slices of bytes. -/
def bytesE : Elem Bytes where
  sz := 1
  pos := by decide
  ok H v xs := ∃ a n c, v = [.slice a n c] ∧ SRow H 1 n (.slice a n c) (bytesV xs) ∧ ∀ k, k ∈ blkOf a → k < H.size
  fp v := match v with | [.slice a _ _] => blkOf a | _ => []
  len := by rintro H v x ⟨a, n, c, rfl, _⟩; rfl
  one := by rintro H v x ⟨a, n, c, rfl, _⟩ u hu; simp only [List.mem_singleton] at hu; subst hu; rfl
  lt := by rintro H v x ⟨a, n, c, rfl, _, h⟩; exact h
  ext := by rintro M H H' v x ⟨a, n, c, rfl, h1, h2⟩ he hm; exact ⟨a, n, c, rfl, h1.extP he hm, fun k hk => Nat.lt_of_lt_of_le (h2 k hk) he.size⟩

/-- A number and a slice of bytes. -/
def writeE : Elem (Int × Bytes) where
  sz := 2
  pos := by decide
  ok H v x := ∃ a n c, v = [.int .i64 x.1, .slice a n c] ∧ SRow H 1 n (.slice a n c) (bytesV x.2) ∧ ∀ k, k ∈ blkOf a → k < H.size
  fp v := match v with | [_, .slice a _ _] => blkOf a | _ => []
  len := by rintro H v x ⟨a, n, c, rfl, _⟩; rfl
  one := by rintro H v x ⟨a, n, c, rfl, _⟩ u hu; simp only [List.mem_cons, List.not_mem_nil, or_false] at hu; rcases hu with rfl | rfl <;> rfl
  lt := by rintro H v x ⟨a, n, c, rfl, _, h⟩; exact h
  ext := by rintro M H H' v x ⟨a, n, c, rfl, h1, h2⟩ he hm; exact ⟨a, n, c, rfl, h1.extP he hm, fun k hk => Nat.lt_of_lt_of_le (h2 k hk) he.size⟩

/-- The blocks of a region that are not written again. -/
def calm (F : Nat → Prop) (pd : Nat) (ak an ap : Option Addr) : Nat → Prop := fun k => F k ∧ k ≠ pd ∧ k ∉ blkOf ak ∧ k ∉ blkOf an ∧ k ∉ blkOf ap

/-- A struct with three lists of its own, all within F. -/
structure Three (H : Heap) (F : Nat → Prop) (pd : Nat) (cells : List Value) (ak : Option Addr) (ck : Nat) (kept : List Bytes) (an : Option Addr) (cn : Nat) (now : List Bytes) (ap : Option Addr) (cp : Nat) (pend : List (Int × Bytes)) : Prop where
  head : Blk H pd cells
  sk : Seq bytesE H (calm F pd ak an ap) ak kept.length ck kept
  sn : Seq bytesE H (calm F pd ak an ap) an now.length cn now
  sp : Seq writeE H (calm F pd ak an ap) ap pend.length cp pend
  fh : F pd
  fk : ∀ k, k ∈ blkOf ak → F k
  fn : ∀ k, k ∈ blkOf an → F k
  fp : ∀ k, k ∈ blkOf ap → F k
  dk : pd ∉ blkOf ak
  dn : pd ∉ blkOf an
  dp : pd ∉ blkOf ap
  kn : ∀ k, k ∈ blkOf ak → k ∉ blkOf an
  kp : ∀ k, k ∈ blkOf ak → k ∉ blkOf ap
  np : ∀ k, k ∈ blkOf an → k ∉ blkOf ap
  lt : ∀ k, F k → k < H.size

section
variable {H H' : Heap} {F F' M : Nat → Prop} {pd : Nat} {cells : List Value} {ak : Option Addr} {ck : Nat} {kept : List Bytes} {an : Option Addr} {cn : Nat} {now : List Bytes} {ap : Option Addr} {cp : Nat} {pend : List (Int × Bytes)}

theorem Three.up (h : Three H F pd cells ak ck kept an cn now ap cp pend) (hF : ∀ k, F k → F' k) (hlt : ∀ k, F' k → k < H.size) : Three H F' pd cells ak ck kept an cn now ap cp pend := by
  have hc : ∀ k, k < H.size → calm F pd ak an ap k → calm F' pd ak an ap k := fun k _ hk => ⟨hF k hk.1, hk.2⟩
  exact ⟨h.head, h.sk.mono hc, h.sn.mono hc, h.sp.mono hc, hF _ h.fh, fun k hk => hF k (h.fk k hk), fun k hk => hF k (h.fn k hk), fun k hk => hF k (h.fp k hk), h.dk, h.dn, h.dp, h.kn, h.kp, h.np, hlt⟩

theorem Three.ext (h : Three H F pd cells ak ck kept an cn now ap cp pend) (he : ExtP M H H') (hm : ∀ k, F k → ¬ M k) : Three H' F pd cells ak ck kept an cn now ap cp pend := by
  have hc : ∀ k, calm F pd ak an ap k → ¬ M k := fun k hk => hm k hk.1
  exact ⟨h.head.extP he (hm _ h.fh), h.sk.extP he (fun k hk => hm k (h.fk k hk)) hc, h.sn.extP he (fun k hk => hm k (h.fn k hk)) hc, h.sp.extP he (fun k hk => hm k (h.fp k hk)) hc, h.fh, h.fk, h.fn, h.fp, h.dk, h.dn, h.dp, h.kn, h.kp, h.np,
    fun k hk => Nat.lt_of_lt_of_le (h.lt k hk) he.size⟩

theorem grow_lt (h : ∀ k, F k → k < H.size) (hs : H.size ≤ H'.size) : ∀ k, grow F H H' k → k < H'.size := by
  rintro k (hk | hk)
  · have := h k hk; omega
  · exact hk.2

/-- New blocks join the region. -/
theorem Three.grown (h : Three H F pd cells ak ck kept an cn now ap cp pend) (he : ExtP M H H') (hm : ∀ k, F k → ¬ M k) : Three H' (grow F H H') pd cells ak ck kept an cn now ap cp pend :=
  (h.ext he hm).up (fun _ => .inl) (grow_lt h.lt he.size)

theorem Three.poke (h : Three H F pd cells ak ck kept an cn now ap cp pend) {o : Nat} {v : Value} (hp : Puts H pd o [v] H') (ho : o < cells.length) : Three H' F pd (cells.set o v) ak ck kept an cn now ap cp pend ∧ Ext [pd] H H' := by
  have he := hp.ext
  have hb := hp.blk h.head (by simp only [List.length_cons, List.length_nil]; omega)
  rw [splice_one _ _ _ ho] at hb
  have hc : ∀ k, calm F pd ak an ap k → k ∉ [pd] := fun k hk => by simpa using hk.2.1
  have hm : ∀ {a : Option Addr}, pd ∉ blkOf a → ∀ k, k ∈ blkOf a → k ∉ [pd] := fun h1 k hk hk' => by
    simp only [List.mem_singleton] at hk'
    subst hk'
    exact h1 hk
  exact ⟨⟨hb, h.sk.extP he.toP (hm h.dk) hc, h.sn.extP he.toP (hm h.dn) hc, h.sp.extP he.toP (hm h.dp) hc, h.fh, h.fk, h.fn, h.fp, h.dk, h.dn, h.dp, h.kn, h.kp, h.np, fun k hk => Nat.lt_of_lt_of_le (h.lt k hk) he.size⟩, he⟩

theorem Three.putK (h : Three H F pd cells ak ck kept an cn now ap cp pend) {i : Nat} (hi : i < kept.length) :
    ∃ b, ak = some ⟨b, 0, none⟩ ∧ Cells H b (0 + i) 1 ∧ ∀ u x H', bytesE.ok H [u] x → (∀ k ∈ bytesE.fp [u], calm F pd ak an ap k) → Puts H b (0 + i) [u] H' → Three H' F pd cells ak ck (kept.set i x) an cn now ap cp pend ∧ Ext (blkOf ak) H H' := by
  obtain ⟨b, e, hc, hp⟩ := h.sk.put1 rfl hi (fun k hk => hk.2.2.1)
  refine ⟨b, e, hc, fun u x H' hu hf hput => ?_⟩
  obtain ⟨hs, he⟩ := hp u x H' hu hf hput
  refine ⟨⟨h.head.extP he.toP h.dk, by rw [List.length_set]; exact hs, h.sn.extP he.toP (fun k hk hk' => h.kn k hk' hk) (fun k hk => hk.2.2.1), h.sp.extP he.toP (fun k hk hk' => h.kp k hk' hk) (fun k hk => hk.2.2.1), h.fh, h.fk, h.fn, h.fp, h.dk, h.dn, h.dp, h.kn, h.kp, h.np,
    fun k hk => Nat.lt_of_lt_of_le (h.lt k hk) he.size⟩, he⟩

theorem Three.putN (h : Three H F pd cells ak ck kept an cn now ap cp pend) {i : Nat} (hi : i < now.length) :
    ∃ b, an = some ⟨b, 0, none⟩ ∧ Cells H b (0 + i) 1 ∧ ∀ u x H', bytesE.ok H [u] x → (∀ k ∈ bytesE.fp [u], calm F pd ak an ap k) → Puts H b (0 + i) [u] H' → Three H' F pd cells ak ck kept an cn (now.set i x) ap cp pend ∧ Ext (blkOf an) H H' := by
  obtain ⟨b, e, hc, hp⟩ := h.sn.put1 rfl hi (fun k hk => hk.2.2.2.1)
  refine ⟨b, e, hc, fun u x H' hu hf hput => ?_⟩
  obtain ⟨hs, he⟩ := hp u x H' hu hf hput
  refine ⟨⟨h.head.extP he.toP h.dn, h.sk.extP he.toP (fun k hk hk' => h.kn k hk hk') (fun k hk => hk.2.2.2.1), by rw [List.length_set]; exact hs, h.sp.extP he.toP (fun k hk hk' => h.np k hk' hk) (fun k hk => hk.2.2.2.1), h.fh, h.fk, h.fn, h.fp, h.dk, h.dn, h.dp, h.kn, h.kp, h.np,
    fun k hk => Nat.lt_of_lt_of_le (h.lt k hk) he.size⟩, he⟩

/-- Another list for the first. -/
theorem Three.swapK (h : Three H F pd cells ak ck kept an cn now ap cp pend) (he : ExtP M H H') (hM : ∀ k, M k → k ∈ blkOf ak) {ak' : Option Addr} {ck' : Nat} {kept' : List Bytes}
    (hs : Seq bytesE H' (calm F pd ak an ap) ak' kept'.length ck' kept') (hk : ∀ k, k ∈ blkOf ak' → k ∈ blkOf ak ∨ H.size ≤ k) : Three H' (grow F H H') pd cells ak' ck' kept' an cn now ap cp pend := by
  have hlt := hs.lt
  have hc : ∀ k, k < H'.size → calm F pd ak an ap k → calm (grow F H H') pd ak' an ap k := fun k _ ⟨c1, c2, c3, c4, c5⟩ => ⟨.inl c1, c2, fun hh => by
    rcases hk k hh with h1 | h1
    · exact c3 h1
    · have := h.lt k c1; omega, c4, c5⟩
  have hm : ∀ k, calm F pd ak an ap k → ¬ M k := fun k hk h1 => hk.2.2.1 (hM k h1)
  refine ⟨h.head.extP he (fun h1 => h.dk (hM _ h1)), hs.mono hc, (h.sn.extP he (fun k hk' h1 => h.kn k (hM k h1) hk') hm).mono hc, (h.sp.extP he (fun k hk' h1 => h.kp k (hM k h1) hk') hm).mono hc, .inl h.fh, fun k hk' => ?_, fun k hk' => .inl (h.fn k hk'), fun k hk' => .inl (h.fp k hk'), fun hk' => ?_, h.dn, h.dp, fun k hk' => ?_, fun k hk' => ?_, h.np, grow_lt h.lt he.size⟩
  · rcases hk k hk' with h1 | h1
    · exact .inl (h.fk k h1)
    · exact .inr ⟨h1, hlt k hk'⟩
  · rcases hk pd hk' with h1 | h1
    · exact h.dk h1
    · have := h.lt _ h.fh; omega
  · rcases hk k hk' with h1 | h1
    · exact h.kn k h1
    · intro h2; have := h.lt _ (h.fn k h2); omega
  · rcases hk k hk' with h1 | h1
    · exact h.kp k h1
    · intro h2; have := h.lt _ (h.fp k h2); omega

theorem Three.swapN (h : Three H F pd cells ak ck kept an cn now ap cp pend) (he : ExtP M H H') (hM : ∀ k, M k → k ∈ blkOf an) {an' : Option Addr} {cn' : Nat} {now' : List Bytes}
    (hs : Seq bytesE H' (calm F pd ak an ap) an' now'.length cn' now') (hk : ∀ k, k ∈ blkOf an' → k ∈ blkOf an ∨ H.size ≤ k) : Three H' (grow F H H') pd cells ak ck kept an' cn' now' ap cp pend := by
  have hlt := hs.lt
  have hc : ∀ k, k < H'.size → calm F pd ak an ap k → calm (grow F H H') pd ak an' ap k := fun k _ ⟨c1, c2, c3, c4, c5⟩ => ⟨.inl c1, c2, c3, fun hh => by
    rcases hk k hh with h1 | h1
    · exact c4 h1
    · have := h.lt k c1; omega, c5⟩
  have hm : ∀ k, calm F pd ak an ap k → ¬ M k := fun k hk h1 => hk.2.2.2.1 (hM k h1)
  refine ⟨h.head.extP he (fun h1 => h.dn (hM _ h1)), (h.sk.extP he (fun k hk' h1 => h.kn k hk' (hM k h1)) hm).mono hc, hs.mono hc, (h.sp.extP he (fun k hk' h1 => h.np k (hM k h1) hk') hm).mono hc, .inl h.fh, fun k hk' => .inl (h.fk k hk'), fun k hk' => ?_, fun k hk' => .inl (h.fp k hk'), h.dk, fun hk' => ?_, h.dp, fun k hk' h2 => ?_, h.kp, fun k hk' => ?_, grow_lt h.lt he.size⟩
  · rcases hk k hk' with h1 | h1
    · exact .inl (h.fn k h1)
    · exact .inr ⟨h1, hlt k hk'⟩
  · rcases hk pd hk' with h1 | h1
    · exact h.dn h1
    · have := h.lt _ h.fh; omega
  · rcases hk k h2 with h1 | h1
    · exact h.kn k hk' h1
    · have := h.lt _ (h.fk k hk'); omega
  · rcases hk k hk' with h1 | h1
    · exact h.np k h1
    · intro h2; have := h.lt _ (h.fp k h2); omega

theorem Three.swapP (h : Three H F pd cells ak ck kept an cn now ap cp pend) (he : ExtP M H H') (hM : ∀ k, M k → k ∈ blkOf ap) {ap' : Option Addr} {cp' : Nat} {pend' : List (Int × Bytes)}
    (hs : Seq writeE H' (calm F pd ak an ap) ap' pend'.length cp' pend') (hk : ∀ k, k ∈ blkOf ap' → k ∈ blkOf ap ∨ H.size ≤ k) : Three H' (grow F H H') pd cells ak ck kept an cn now ap' cp' pend' := by
  have hlt := hs.lt
  have hc : ∀ k, k < H'.size → calm F pd ak an ap k → calm (grow F H H') pd ak an ap' k := fun k _ ⟨c1, c2, c3, c4, c5⟩ => ⟨.inl c1, c2, c3, c4, fun hh => by
    rcases hk k hh with h1 | h1
    · exact c5 h1
    · have := h.lt k c1; omega⟩
  have hm : ∀ k, calm F pd ak an ap k → ¬ M k := fun k hk h1 => hk.2.2.2.2 (hM k h1)
  refine ⟨h.head.extP he (fun h1 => h.dp (hM _ h1)), (h.sk.extP he (fun k hk' h1 => h.kp k hk' (hM k h1)) hm).mono hc, (h.sn.extP he (fun k hk' h1 => h.np k hk' (hM k h1)) hm).mono hc, hs.mono hc, .inl h.fh, fun k hk' => .inl (h.fk k hk'), fun k hk' => .inl (h.fn k hk'), fun k hk' => ?_, h.dk, h.dn, fun hk' => ?_, h.kn, fun k hk' h2 => ?_, fun k hk' h2 => ?_, grow_lt h.lt he.size⟩
  · rcases hk k hk' with h1 | h1
    · exact .inl (h.fp k h1)
    · exact .inr ⟨h1, hlt k hk'⟩
  · rcases hk pd hk' with h1 | h1
    · exact h.dp h1
    · have := h.lt _ h.fh; omega
  · rcases hk k h2 with h1 | h1
    · exact h.kp k hk' h1
    · have := h.lt _ (h.fk k hk'); omega
  · rcases hk k h2 with h1 | h1
    · exact h.np k hk' h1
    · have := h.lt _ (h.fn k hk'); omega

/-- What is new is calm. -/
theorem Three.calm_new (h : Three H F pd cells ak ck kept an cn now ap cp pend) {k : Nat} (h1 : H.size ≤ k) (h2 : k < H'.size) : calm (grow F H H') pd ak an ap k := by
  refine ⟨.inr ⟨h1, h2⟩, fun e => ?_, fun e => ?_, fun e => ?_, fun e => ?_⟩
  · subst e; have := h.lt _ h.fh; omega
  · have := h.lt _ (h.fk k e); omega
  · have := h.lt _ (h.fn k e); omega
  · have := h.lt _ (h.fp k e); omega

theorem grow_sub {H1 : Heap} (hs : H.size ≤ H1.size) (hs' : H1.size ≤ H'.size) : ∀ k, grow (grow F H H1) H1 H' k → grow F H H' k := by
  rintro k ((hk | hk) | hk)
  · exact .inl hk
  · exact .inr ⟨hk.1, by omega⟩
  · exact .inr ⟨by omega, hk.2⟩
end
end Go.Vc
end

section
open Go Go.Vc
namespace Go.Proofs

theorem Try.mixed : Try.prog.follows .mixedOrders = true := by kernel_rfl

theorem pick_ok (n m : Int) (H : Heap) (hm : 0 < m) (hm' : m ≤ 1000000000000) : Does Try.prog 15 [.int .i64 n, .int .i64 m] H fun v H' => v = .int .i64 (n % m) ∧ H = H' := by
  refine Fn_of_vc Try.mixed (vc_pick _ _ _ _) ?_
  refine ⟨by omega, ?_⟩
  rintro q rfl
  have h1 := Int.tmod_lt_of_pos n hm
  have h2 := Int.lt_tmod_of_pos n hm
  have h3 : n.tmod m = if 0 ≤ n ∨ m ∣ n then n % m else n % m - m := by
    rw [Int.tmod_eq_emod]
    split <;> simp
    omega
  refine ⟨fun hq => ?_, fun hq => ?_⟩
  · refine ⟨⟨by omega, by omega⟩, ?_, rfl⟩
    congr 1
    have h4 := Int.emod_nonneg n (show m ≠ 0 by omega)
    split at h3 <;> omega
  · refine ⟨?_, rfl⟩
    congr 1
    have h4 := Int.emod_nonneg n (show m ≠ 0 by omega)
    have h5 := Int.emod_lt_of_pos n hm
    split at h3 <;> omega

/-- A device, plainly. -/
structure Dev where
  kept : List Bytes
  pend : List (Int × Bytes)
  fuse : Int
  dead : Bool
  works : Int

def laid (kept : List Bytes) (pend : List (Int × Bytes)) : List Bytes := pend.foldl (fun l w => l.set w.1.toNat w.2) kept
def Dev.now (D : Dev) : List Bytes := laid D.kept D.pend

theorem laid_length : ∀ (pend : List (Int × Bytes)) (kept : List Bytes), (laid kept pend).length = kept.length
  | [], _ => rfl
  | w :: r, kept => by
    have e : laid kept (w :: r) = laid (kept.set w.1.toNat w.2) r := rfl
    rw [e, laid_length r, List.length_set]

theorem laid_size : ∀ (p : List (Int × Bytes)) (kp : List Bytes), (∀ b ∈ kp, b.length = 128) → (∀ w ∈ p, w.2.length = 128) → ∀ b ∈ laid kp p, b.length = 128
  | [], kp, h1, _ => h1
  | w :: r, kp, h1, h2 => by
    refine laid_size r (kp.set w.1.toNat w.2) (fun b hb => ?_) (fun x hx => h2 x (by simp [hx]))
    rcases List.mem_or_eq_of_mem_set hb with hb | rfl
    · exact h1 b hb
    · exact h2 w (by simp)

theorem laid_snoc (kept : List Bytes) (p : List (Int × Bytes)) (w : Int × Bytes) : laid kept (p ++ [w]) = (laid kept p).set w.1.toNat w.2 := by
  unfold laid; rw [List.foldl_append]; rfl

/-- What a device must be like. -/
structure Dev.Wf (D : Dev) (n B : Nat) : Prop where
  len : D.kept.length = n
  few : n ≤ 100000
  size : ∀ b ∈ D.kept, b.length = 128
  pin : ∀ w ∈ D.pend, 0 ≤ w.1 ∧ w.1 < n ∧ w.2.length = 128
  pfew : D.pend.length ≤ B
  fuse : -1 ≤ D.fuse ∧ D.fuse ≤ 9223372036854775807
  works : 0 ≤ D.works ∧ D.works ≤ B

def IsDev (H : Heap) (F : Nat → Prop) (pd : Nat) (D : Dev) : Prop := ∃ ak ck an cn ap cp,
  Three H F pd [.slice ak D.kept.length ck, .slice an D.now.length cn, .slice ap D.pend.length cp, .int .i64 D.fuse, .bool D.dead, .int .i64 D.works] ak ck D.kept an cn D.now ap cp D.pend

def IsRDev (H : Heap) (F : Nat → Prop) (pd : Nat) (D : Dev) : Prop := ∃ ak ck ap cp,
  Three H F pd [.slice ak D.kept.length ck, .slice ap D.pend.length cp, .int .i64 D.fuse, .bool D.dead, .int .i64 D.works] ak ck D.kept none 0 [] ap cp D.pend

section
variable {H H' : Heap} {F F' M : Nat → Prop} {pd : Nat} {D : Dev}
theorem IsDev.ext (h : IsDev H F pd D) (he : ExtP M H H') (hm : ∀ k, F k → ¬ M k) : IsDev H' F pd D := by
  obtain ⟨ak, ck, an, cn, ap, cp, h⟩ := h
  exact ⟨ak, ck, an, cn, ap, cp, h.ext he hm⟩
theorem IsDev.up (h : IsDev H F pd D) (hF : ∀ k, F k → F' k) (hlt : ∀ k, F' k → k < H.size) : IsDev H F' pd D := by
  obtain ⟨ak, ck, an, cn, ap, cp, h⟩ := h
  exact ⟨ak, ck, an, cn, ap, cp, h.up hF hlt⟩
theorem IsDev.lt (h : IsDev H F pd D) : ∀ k, F k → k < H.size := by
  obtain ⟨ak, ck, an, cn, ap, cp, h⟩ := h
  exact h.lt
theorem IsRDev.ext (h : IsRDev H F pd D) (he : ExtP M H H') (hm : ∀ k, F k → ¬ M k) : IsRDev H' F pd D := by
  obtain ⟨ak, ck, ap, cp, h⟩ := h
  exact ⟨ak, ck, ap, cp, h.ext he hm⟩
theorem IsRDev.up (h : IsRDev H F pd D) (hF : ∀ k, F k → F' k) (hlt : ∀ k, F' k → k < H.size) : IsRDev H F' pd D := by
  obtain ⟨ak, ck, ap, cp, h⟩ := h
  exact ⟨ak, ck, ap, cp, h.up hF hlt⟩
theorem IsRDev.lt (h : IsRDev H F pd D) : ∀ k, F k → k < H.size := by
  obtain ⟨ak, ck, ap, cp, h⟩ := h
  exact h.lt
end

/-! ### One more work -/

def wk (D : Dev) : Dev × Bool := if D.fuse = 0 ∨ D.dead = true then ({ D with dead := true }, false) else ({ D with fuse := if 0 < D.fuse then D.fuse - 1 else D.fuse, works := D.works + 1 }, true)

theorem wk_kept (D : Dev) : (wk D).1.kept = D.kept ∧ (wk D).1.pend = D.pend := by
  unfold wk
  split <;> exact ⟨rfl, rfl⟩

theorem wk_now (D : Dev) : (wk D).1.now = D.now := by
  unfold Dev.now
  rw [(wk_kept D).1, (wk_kept D).2]

theorem extP_fresh {F : Nat → Prop} {H H' : Heap} {L : List Nat} (h : Ext L H H') (hl : ∀ k, k ∈ L → F k) : ExtP F H H' := h.lift fun k _ hk => hl k hk

theorem work_ok {H : Heap} {F : Nat → Prop} {pd : Nat} {D : Dev} (h : IsDev H F pd D) (hw : D.works ≤ 1000000000000) (hw0 : 0 ≤ D.works) (hf : -1 ≤ D.fuse ∧ D.fuse ≤ 9223372036854775807) :
    Does Try.prog 48 [.pointer (some ⟨pd, 0, none⟩)] H fun v H' => v = .int .i64 (if (wk D).2 then 0 else 4) ∧ IsDev H' F pd (wk D).1 ∧ ExtP F H H' := by
  refine Fn_of_vc Try.mixed (vc_work _ _ _) ?_
  obtain ⟨ak, ck, an, cn, ap, cp, h⟩ := h
  have he : ∀ {A B : Heap}, Ext [pd] A B → ExtP F A B := fun hx => extP_fresh hx (by intro k hk; simp only [List.mem_singleton] at hk; subst hk; exact h.fh)
  have hd := h.head
  refine ⟨_, _, rfl, _, hd.cell 3, fun h1 => ?_, fun h1 => ?_⟩
  · have e : wk D = ({ D with dead := true }, false) := if_pos (.inl h1)
    refine ⟨_, _, rfl, hd.cells 1 4 (by simp), fun H6 hp => ?_⟩
    obtain ⟨h6, hx6⟩ := h.poke hp (by simp)
    refine ⟨_, _, rfl, true, h6.head.cell 4, fun _ => ?_, fun e => (by cases e)⟩
    rw [e]
    exact ⟨rfl, ⟨ak, ck, an, cn, ap, cp, h6⟩, he hx6⟩
  · refine ⟨_, _, rfl, D.dead, hd.cell 4, fun h2 => ?_, fun h2 => ?_⟩
    · have e : wk D = ({ D with dead := true }, false) := if_pos (.inr h2)
      rw [e]
      refine ⟨rfl, ⟨ak, ck, an, cn, ap, cp, ?_⟩, ExtP.refl _ _⟩
      rw [← h2]
      exact h
    · have e : wk D = ({ D with fuse := if 0 < D.fuse then D.fuse - 1 else D.fuse, works := D.works + 1 }, true) := if_neg (by rintro (h3 | h3); exact h1 h3; rw [h2] at h3; cases h3)
      rw [e]
      refine ⟨_, _, rfl, _, hd.cell 3, fun h3 => ?_, fun h3 => ?_⟩
      · refine ⟨_, _, rfl, _, hd.cell 3, ⟨by omega, by omega⟩, _, _, rfl, hd.cells 1 3 (by simp), fun H42 hp => ?_⟩
        obtain ⟨h42, hx42⟩ := h.poke hp (by simp)
        refine ⟨_, _, rfl, D.works, h42.head.cell 5, ⟨by omega, by omega⟩, _, _, rfl, h42.head.cells 1 5 (by simp), fun H48 hp2 => ?_⟩
        obtain ⟨h48, hx48⟩ := h42.poke hp2 (by simp)
        refine ⟨rfl, ⟨ak, ck, an, cn, ap, cp, ?_⟩, (he hx42).trans (he hx48)⟩
        simp only [if_pos h3]
        exact h48
      · refine ⟨_, _, rfl, _, hd.cell 5, ⟨by omega, by omega⟩, _, _, rfl, hd.cells 1 5 (by simp), fun H54 hp => ?_⟩
        obtain ⟨h54, hx54⟩ := h.poke hp (by simp)
        refine ⟨rfl, ⟨ak, ck, an, cn, ap, cp, ?_⟩, he hx54⟩
        simp only [if_neg h3]
        exact h54

theorem rworks_ok {H : Heap} {F : Nat → Prop} {pd : Nat} {D : Dev} (h : IsRDev H F pd D) (hw : D.works ≤ 1000000000000) (hw0 : 0 ≤ D.works) (hf : -1 ≤ D.fuse ∧ D.fuse ≤ 9223372036854775807) :
    Does Try.prog 52 [.pointer (some ⟨pd, 0, none⟩)] H fun v H' => v = .bool (wk D).2 ∧ IsRDev H' F pd (wk D).1 ∧ ExtP F H H' := by
  refine Fn_of_vc Try.mixed (vc_rworks _ _ _) ?_
  obtain ⟨ak, ck, ap, cp, h⟩ := h
  have he : ∀ {A B : Heap}, Ext [pd] A B → ExtP F A B := fun hx => extP_fresh hx (by intro k hk; simp only [List.mem_singleton] at hk; subst hk; exact h.fh)
  have hd := h.head
  refine ⟨_, _, rfl, D.dead, hd.cell 3, fun h2 => ?_, fun h2 => ⟨_, _, rfl, _, hd.cell 2, fun h1 => ?_, fun h1 => ?_⟩⟩
  · have e : wk D = ({ D with dead := true }, false) := if_pos (.inr h2)
    rw [e]
    refine ⟨rfl, ⟨ak, ck, ap, cp, ?_⟩, ExtP.refl _ _⟩
    rw [← h2]
    exact h
  · have e : wk D = ({ D with dead := true }, false) := if_pos (.inl h1)
    refine ⟨_, _, rfl, hd.cells 1 3 (by simp), fun H6 hp => ?_⟩
    obtain ⟨h6, hx6⟩ := h.poke hp (by simp)
    rw [e]
    exact ⟨rfl, ⟨ak, ck, ap, cp, h6⟩, he hx6⟩
  · have e : wk D = ({ D with fuse := if 0 < D.fuse then D.fuse - 1 else D.fuse, works := D.works + 1 }, true) := if_neg (by rintro (h3 | h3); exact h1 h3; rw [h2] at h3; cases h3)
    rw [e]
    refine ⟨_, _, rfl, _, hd.cell 2, fun h3 => ?_, fun h3 => ?_⟩
    · refine ⟨_, _, rfl, _, hd.cell 2, ⟨by omega, by omega⟩, _, _, rfl, hd.cells 1 2 (by simp), fun H42 hp => ?_⟩
      obtain ⟨h42, hx42⟩ := h.poke hp (by simp)
      refine ⟨_, _, rfl, D.works, h42.head.cell 4, ⟨by omega, by omega⟩, _, _, rfl, h42.head.cells 1 4 (by simp), fun H48 hp2 => ?_⟩
      obtain ⟨h48, hx48⟩ := h42.poke hp2 (by simp)
      refine ⟨rfl, ⟨ak, ck, ap, cp, ?_⟩, (he hx42).trans (he hx48)⟩
      simp only [if_pos h3]
      exact h48
    · refine ⟨_, _, rfl, _, hd.cell 4, ⟨by omega, by omega⟩, _, _, rfl, hd.cells 1 4 (by simp), fun H54 hp => ?_⟩
      obtain ⟨h54, hx54⟩ := h.poke hp (by simp)
      refine ⟨rfl, ⟨ak, ck, ap, cp, ?_⟩, he hx54⟩
      simp only [if_neg h3]
      exact h54

/-! ### Copies -/

theorem clonell_ok {α : Type} {E : Elem α} (hE : E.sz = 1) {H : Heap} {G : Nat → Prop} {a : Option Addr} {n c : Nat} {xs : List α} (h : Seq E H G a n c xs) (hl : n ≤ 1000000) : Does Try.prog 47 [.slice a n c] H fun v H' =>
    ∃ a' c', v = .slice a' n c' ∧ Seq E H' G a' n c' xs ∧ Ext [] H H' ∧ (∀ k, k ∈ blkOf a' → H.size ≤ k) := by
  refine Fn_of_vc Try.mixed (vc_clonell _ _ _ _ _) ?_
  have hnum := h.num
  obtain ⟨flat, ho, h1, hc⟩ := h.copy
  rw [hE] at ho hc
  refine ⟨fun h0 => ?_, fun h0 => ?_⟩
  · subst h0
    have h2 := (ho.row n c).2
    simp only at h2
    have h3 := ho.1
    rw [h2] at h3
    have : n = 0 := by simp at h3; omega
    subst this
    have : xs = [] := List.length_eq_zero_iff.1 hnum
    subst this
    exact ⟨none, 0, rfl, Seq.nil _ _ _, Ext.refl _ _, fun k hk => by cases hk⟩
  · intro b H2 hn
    have hx := hn.ext
    have ho2 : Own H2 1 (some ⟨b, 0, none⟩) 0 0 [] := ⟨rfl, Nat.le_refl _, by unfold maxLen; omega, .inr ⟨b, [], rfl, hn.blk, rfl⟩⟩
    refine ⟨[], flat, ho2.row 0 0, (ho.row n c).ext hx (by simp), h1, by omega, fun hle => ho2.room (n := n) hle, ?_⟩
    intro a5 c6 H7 happ
    obtain ⟨q1, q2, q3⟩ := happ.own ho2 (ho2.row 0 0) (by have := ho.1; omega) rfl
    simp only [Nat.zero_add, List.nil_append] at q1 ⊢
    have hb := hn.eq
    have hxx : Ext [] H H7 := hx.trans' q2 (fun i hi => by simp only [blkOf, List.mem_singleton] at hi; omega)
    refine ⟨a5, c6, rfl, hc q1 hxx.toP (by simp), hxx, fun k hk => ?_⟩
    rcases q3 k hk with h4 | h4
    · simp only [blkOf, List.mem_singleton] at h4; omega
    · have := hn.size; omega

theorem clonel_ok {H : Heap} {a : Option Addr} {len cap : Nat} {xs : List UInt8} (h : SRow H 1 len (.slice a len cap) (bytesV xs)) (hl : len ≤ 1000000) : Does Try.prog 50 [.slice a len cap] H fun v H' =>
    ∃ a' c', v = .slice a' len c' ∧ Own H' 1 a' len c' (bytesV xs) ∧ Ext [] H H' ∧ (∀ k, k ∈ blkOf a' → H.size ≤ k) := by
  refine Fn_of_vc Try.mixed (vc_clonel _ _ _ _ _) ?_
  refine ⟨fun h0 => ?_, fun h0 => ?_⟩
  · subst h0
    have h2 := h.2
    simp only at h2
    have h1 := h.1
    rw [h2] at h1
    have : len = 0 := by simpa using h1.symm
    subst this
    rw [h2]
    exact ⟨none, 0, rfl, Own.nil _ _, Ext.refl _ _, fun k hk => by cases hk⟩
  · intro b H2 hn
    have hx := hn.ext
    have ho : Own H2 1 (some ⟨b, 0, none⟩) 0 0 [] := ⟨rfl, Nat.le_refl _, by unfold maxLen; omega, .inr ⟨b, [], rfl, hn.blk, rfl⟩⟩
    refine ⟨[], bytesV xs, ho.row 0 0, h.ext hx (by simp), bytesV_one xs, by omega, fun hle => ho.room (n := len) hle, ?_⟩
    intro a5 c6 H7 happ
    obtain ⟨h1, h2, h3⟩ := happ.own ho (ho.row 0 0) h.1 rfl
    simp only [Nat.zero_add, List.nil_append] at h1 ⊢
    have hb := hn.eq
    refine ⟨a5, c6, rfl, h1, hx.trans' h2 (fun i hi => ?_), fun k hk => ?_⟩
    · simp only [blkOf, List.mem_singleton] at hi; omega
    · rcases h3 k hk with h4 | h4
      · simp only [blkOf, List.mem_singleton] at h4; omega
      · have := hn.size; omega

/-- A fresh copy is an element. -/
theorem own_elem {H : Heap} {a : Option Addr} {len cap : Nat} {xs : List UInt8} (h : Own H 1 a len cap (bytesV xs)) : bytesE.ok H [.slice a len cap] xs := ⟨a, len, cap, rfl, h.row len cap, h.lt⟩

theorem has_ok {H : Heap} {F : Nat → Prop} {pd : Nat} {D : Dev} (h : IsDev H F pd D) (k : Int) :
    Does Try.prog 49 [.pointer (some ⟨pd, 0, none⟩), .int .i64 k] H fun v H' => v = .bool (decide (0 ≤ k ∧ k < D.kept.length)) ∧ H = H' := by
  refine Fn_of_vc Try.mixed (vc_has _ _ _ _) ?_
  obtain ⟨ak, ck, an, cn, ap, cp, h⟩ := h
  have e : D.now.length = D.kept.length := laid_length _ _
  refine ⟨fun h0 => ⟨_, _, rfl, _, _, _, h.head.cell 1, congrArg _ (dec_eq ?_), rfl⟩, fun h0 => ⟨congrArg _ (decide_eq_false ?_).symm, rfl⟩⟩
  · rw [e]; simp [h0]
  · omega

theorem dread_ok {H : Heap} {F : Nat → Prop} {pd : Nat} {D : Dev} {n B : Nat} (h : IsDev H F pd D) (hw : D.Wf n B) (k : Int) :
    Does Try.prog 20 [.pointer (some ⟨pd, 0, none⟩), .int .i64 k] H fun v H' => Ext [] H H' ∧
      ((¬ (0 ≤ k ∧ k < n) ∧ v = .tuple #[.slice none 0 0, .int .i64 1]) ∨ ((0 ≤ k ∧ k < n) ∧ D.dead = true ∧ v = .tuple #[.slice none 0 0, .int .i64 4]) ∨
        ((0 ≤ k ∧ k < n) ∧ D.dead = false ∧ ∃ a c xs, D.now[k.toNat]? = some xs ∧ v = .tuple #[.slice a xs.length c, .int .i64 0] ∧ Own H' 1 a xs.length c (bytesV xs) ∧ ∀ i, i ∈ blkOf a → H.size ≤ i)) := by
  refine Fn_of_vc Try.mixed (vc_dread _ _ _ _) ?_
  have hl := hw.len
  refine (has_ok h k).mono ?_
  rintro _ _ ⟨rfl, rfl⟩
  rw [hl]
  refine ⟨_, rfl, fun h1 => ⟨Ext.refl _ _, .inl ⟨by simpa using h1, rfl⟩⟩, fun h1 => ?_⟩
  have hk : 0 ≤ k ∧ k < n := by simpa using h1
  obtain ⟨ak, ck, an, cn, ap, cp, h⟩ := h
  have e : D.now.length = n := by rw [← hl]; exact laid_length _ _
  refine ⟨_, _, rfl, D.dead, h.head.cell 4, fun h2 => ⟨Ext.refl _ _, .inr (.inl ⟨hk, h2, rfl⟩)⟩, fun h2 => ?_⟩
  obtain ⟨xs, hxs⟩ : ∃ xs, D.now[k.toNat]? = some xs := ⟨_, List.getElem?_eq_getElem (by omega)⟩
  obtain ⟨b, o, u, ea, hc, ⟨a, m, c, eu, hr, _⟩, _⟩ := h.sn.get1 rfl hxs
  cases eu
  have hm : xs.length = m := by have := hr.1; rw [bytesV_length] at this; omega
  have h128 : m ≤ 1000000 := by
    have hin : xs ∈ D.now := List.mem_of_getElem? hxs
    have := laid_size D.pend D.kept hw.size (fun w hw' => (hw.pin w hw').2.2) xs hin
    omega
  refine ⟨_, _, rfl, _, _, _, h.head.cell 1, hk.1, by omega, b, o, ea, a, m, c, hc, (clonel_ok hr h128).mono ?_⟩
  rintro _ H18 ⟨a', c', rfl, ho, hx, hf⟩
  refine ⟨_, _, _, rfl, hx, .inr (.inr ⟨hk, h2, a', c', xs, hxs, ?_, ?_, hf⟩)⟩
  · rw [hm]
  · rw [hm]; exact ho

theorem dpending_ok {H : Heap} {F : Nat → Prop} {pd : Nat} {D : Dev} (h : IsDev H F pd D) : Does Try.prog 21 [.pointer (some ⟨pd, 0, none⟩)] H fun v H' => v = .int .i64 D.pend.length ∧ H = H' := by
  refine Fn_of_vc Try.mixed (vc_dpending _ _ _) ?_
  obtain ⟨ak, ck, an, cn, ap, cp, h⟩ := h
  exact ⟨_, _, rfl, _, _, _, h.head.cell 2, rfl, rfl⟩
theorem ddead_ok {H : Heap} {F : Nat → Prop} {pd : Nat} {D : Dev} (h : IsDev H F pd D) : Does Try.prog 28 [.pointer (some ⟨pd, 0, none⟩)] H fun v H' => v = .bool D.dead ∧ H = H' := by
  refine Fn_of_vc Try.mixed (vc_ddead _ _ _) ?_
  obtain ⟨ak, ck, an, cn, ap, cp, h⟩ := h
  exact ⟨_, _, rfl, _, h.head.cell 4, rfl, rfl⟩
theorem dworks_ok {H : Heap} {F : Nat → Prop} {pd : Nat} {D : Dev} (h : IsDev H F pd D) : Does Try.prog 29 [.pointer (some ⟨pd, 0, none⟩)] H fun v H' => v = .int .i64 D.works ∧ H = H' := by
  refine Fn_of_vc Try.mixed (vc_dworks _ _ _) ?_
  obtain ⟨ak, ck, an, cn, ap, cp, h⟩ := h
  exact ⟨_, _, rfl, _, h.head.cell 5, rfl, rfl⟩
theorem dblocks_ok {H : Heap} {F : Nat → Prop} {pd : Nat} {D : Dev} (h : IsDev H F pd D) : Does Try.prog 31 [.pointer (some ⟨pd, 0, none⟩)] H fun v H' => v = .int .i64 D.kept.length ∧ H = H' := by
  refine Fn_of_vc Try.mixed (vc_dblocks _ _ _) ?_
  obtain ⟨ak, ck, an, cn, ap, cp, h⟩ := h
  have e : D.now.length = D.kept.length := laid_length _ _
  exact ⟨_, _, rfl, _, _, _, h.head.cell 1, by rw [e], rfl⟩

theorem dfuse_ok {H : Heap} {F : Nat → Prop} {pd : Nat} {D : Dev} (h : IsDev H F pd D) (k : Int) : Does Try.prog 25 [.pointer (some ⟨pd, 0, none⟩), .int .i64 k] H fun v H' => v = .tuple #[] ∧ IsDev H' F pd { D with fuse := max k (-1) } ∧ ExtP F H H' := by
  refine Fn_of_vc Try.mixed (vc_dfuse _ _ _ _) ?_
  obtain ⟨ak, ck, an, cn, ap, cp, h⟩ := h
  refine ⟨_, _, rfl, h.head.cells 1 3 (by simp), fun H3 hp => ?_⟩
  obtain ⟨h3, hx⟩ := h.poke hp (by simp)
  exact ⟨rfl, ⟨ak, ck, an, cn, ap, cp, h3⟩, extP_fresh hx (by intro k hk; simp only [List.mem_singleton] at hk; subst hk; exact h.fh)⟩
theorem rdfuse_ok {H : Heap} {F : Nat → Prop} {pd : Nat} {D : Dev} (h : IsRDev H F pd D) (k : Int) : Does Try.prog 26 [.pointer (some ⟨pd, 0, none⟩), .int .i64 k] H fun v H' => v = .tuple #[] ∧ IsRDev H' F pd { D with fuse := max (-1) k } ∧ ExtP F H H' := by
  refine Fn_of_vc Try.mixed (vc_rdfuse _ _ _ _) ?_
  obtain ⟨ak, ck, ap, cp, h⟩ := h
  refine ⟨_, _, rfl, h.head.cells 1 2 (by simp), fun H3 hp => ?_⟩
  obtain ⟨h3, hx⟩ := h.poke hp (by simp)
  exact ⟨rfl, ⟨ak, ck, ap, cp, h3⟩, extP_fresh hx (by intro k hk; simp only [List.mem_singleton] at hk; subst hk; exact h.fh)⟩

end Go.Proofs
end

section
open Go Go.Vc
namespace Go.Proofs

theorem take_snoc {α : Type} {l : List α} {j : Nat} {x : α} (h : l[j]? = some x) : l.take (j + 1) = l.take j ++ [x] := by
  rw [List.take_add_one, h]; rfl

/-- Bytes that stay, whatever is done to F. -/
def KeptB (F : Nat → Prop) (H : Heap) (a : Option Addr) (len cap : Nat) (xs : Bytes) : Prop := ∀ H', ExtP F H H' → SRow H' 1 len (.slice a len cap) (bytesV xs)

theorem KeptB.at_ {F : Nat → Prop} {H : Heap} {a : Option Addr} {len cap : Nat} {xs : Bytes} (h : KeptB F H a len cap xs) : SRow H 1 len (.slice a len cap) (bytesV xs) := h H (ExtP.refl _ _)
theorem KeptB.of {F : Nat → Prop} {H : Heap} {a : Option Addr} {len cap : Nat} {xs : Bytes} (h : SRow H 1 len (.slice a len cap) (bytesV xs)) (ha : ∀ i, i ∈ blkOf a → ¬ F i) : KeptB F H a len cap xs := fun _ hx => h.extP hx ha
/-- What was there ahead of all that is written stays. -/
theorem KeptB.old {F : Nat → Prop} {H0 H : Heap} {a : Option Addr} {len cap : Nat} {xs : Bytes} (h : SRow H0 1 len (.slice a len cap) (bytesV xs)) (hx : Ext [] H0 H) (hF : ∀ i, F i → H0.size ≤ i) : KeptB F H a len cap xs :=
  fun _ hx' => h.ext (hx.transP hx' hF) (by simp)

/-! ### New -/

def zeros : Bytes := List.replicate 128 0
def newD (n : Nat) : Dev := ⟨List.replicate n zeros, [], -1, false, 0⟩

theorem zerosV : bytesV zeros = List.replicate 128 (.int .u8 0) := by
  unfold bytesV zeros
  rw [List.map_replicate]; rfl

def none_ : Nat → Prop := fun _ => False

theorem new_elem {H H' : Heap} {b : Nat} (h : New H b (List.replicate 128 (.int .u8 0)) 5 H') : bytesE.ok H' [.slice (some ⟨b, 0, none⟩) 128 128] zeros :=
  own_elem (by
    have := Own.of_new (size := 1) (len := 128) (cap := 128) h.blk (by simp) (Nat.le_refl _) (by unfold maxLen; omega)
    rw [zerosV]
    simpa using this)

theorem three_new {H H2 : Heap} {b : Nat} {cells : List Value} {e : TypeId} (h : New H b cells e H2) : Three H2 (grow none_ H H2) b cells none 0 [] none 0 [] none 0 [] :=
  ⟨h.blk, Seq.nil _ _ _, Seq.nil _ _ _, Seq.nil _ _ _, .inr ⟨by have := h.eq; omega, h.blk.lt⟩, fun k hk => (by cases hk), fun k hk => (by cases hk), fun k hk => (by cases hk), fun hk => (by cases hk), fun hk => (by cases hk), fun hk => (by cases hk), fun k hk => (by cases hk), fun k hk => (by cases hk), fun k hk => (by cases hk), fun k hk => by
    rcases hk with hk | hk
    · exact hk.elim
    · exact hk.2⟩

theorem grow_low {H H' : Heap} : ∀ k, grow none_ H H' k → H.size ≤ k ∧ k < H'.size := by
  rintro k (hk | hk)
  · exact hk.elim
  · exact hk

theorem replicate_snoc {α : Type} (n : Nat) (x : α) : List.replicate (n + 1) x = List.replicate n x ++ [x] := by
  rw [List.replicate_succ']

theorem dnew_ok (n : Int) (H : Heap) : Does Try.prog 13 [.int .i64 n] H fun v H' => Ext [] H H' ∧ ((¬ (8 ≤ n ∧ n ≤ 4096) ∧ v = .tuple #[.pointer none, .int .i64 1]) ∨
    ((8 ≤ n ∧ n ≤ 4096) ∧ ∃ pd, v = .tuple #[.pointer (some ⟨pd, 0, none⟩), .int .i64 0] ∧ IsDev H' (grow none_ H H') pd (newD n.toNat))) := by
  refine Fn_of_vc Try.mixed (vc_dnew _ _ _) ?_
  refine ⟨fun h1 => ⟨Ext.refl _ _, .inl ⟨by omega, rfl⟩⟩, fun h1 => ⟨fun h2 => ⟨Ext.refl _ _, .inl ⟨by omega, rfl⟩⟩, fun h2 => ?_⟩⟩
  intro b1 H2 hn
  have hb1 := hn.eq
  refine ⟨fun i H' => ∃ (j : Nat) (ak : Option Addr) (ck : Nat), i = j ∧ j ≤ n.toNat ∧ Ext [] H H' ∧ Three H' (grow none_ H H') b1 [.slice ak j ck, .slice none 0 0, .slice none 0 0, .int .i64 (-1), .bool false, .int .i64 0] ak ck (List.replicate j zeros) none 0 [] none 0 [], fun i _ => n.toNat - i.toNat,
    ⟨0, none, 0, rfl, Nat.zero_le _, hn.ext, three_new hn⟩, ?_⟩
  rintro _ H6 ⟨j, ak, ck, rfl, hj, hx6, h6⟩
  have hs6 := hx6.size
  have e128 : Int.toNat 128 = 128 := rfl
  refine ⟨fun h3 => ?_, fun h3 => ?_⟩
  · refine ⟨b1, 0, rfl, ak, j, ck, h6.head.cell 0, by decide, by decide, by decide, fun b12 H13 hn13 => ?_⟩
    rw [e128] at hn13
    have hx13 := hn13.ext
    have h13 := (h6.grown hx13.toP (by simp))
    have hel := new_elem hn13
    have hb12 := hn13.eq
    have hs13 := hn13.size
    refine ⟨⟨h13.head.cell 0, trivial⟩, fun b14 H15 hn15 => ⟨⟨(h13.head.ext hn15.ext (by simp)).cell 0, trivial⟩, ?_⟩⟩
    have hsk := h13.sk
    rw [List.length_replicate] at hsk
    refine hsk.push (v := [.slice (some ⟨b12, 0, none⟩) 128 128]) (x := zeros) (fun k hk => hk.2.2.1) hel (fun k hk => ?_) rfl (by omega) ?_ b14 H15 hn15
    · simp only [bytesE, blkOf, List.mem_singleton] at hk
      subst hk
      exact h6.calm_new (by omega) (by omega)
    · intro a' c' H20 hs20 hx20 hk20
      have h20 := h13.swapK hx20.toP (fun k hk => hk) (kept' := List.replicate (j + 1) zeros) (by rw [List.length_replicate, replicate_snoc]; exact hs20) hk20
      refine ⟨b1, 0, rfl, h20.head.cells 1 0 (by simp), fun H23 hp => ?_⟩
      obtain ⟨h23, hx23⟩ := h20.poke hp (by simp)
      have hxx : Ext [] H H23 := ((hx6.trans hx13).trans' hx20 (fun i hi => .inl (grow_low i (h6.fk i hi)).1)).trans' hx23 (fun i hi => by simp only [List.mem_singleton] at hi; omega)
      · refine ⟨⟨by omega, by omega⟩, ⟨j + 1, a', c', by omega, by omega, hxx, h23.up (fun k hk => ?_) (fun k hk => (grow_low k hk).2)⟩, by dsimp only; omega⟩
        have hs20' := hx20.size
        have hs23 := hx23.size
        have : H.size ≤ k ∧ k < H20.size := by
          rcases hk with (hk | hk) | hk
          · have := grow_low k hk; omega
          · omega
          · omega
        exact .inr ⟨this.1, by omega⟩
  · have ej : j = n.toNat := by omega
    subst ej
    have hsk := h6.sk
    rw [List.length_replicate] at hsk
    refine ⟨b1, 0, rfl, ak, _, ck, h6.head.cell 0, (clonell_ok rfl hsk (by omega)).mono ?_⟩
    rintro _ H30 ⟨a31, c33, rfl, hs30, hx30, hf30⟩
    have h30 := h6.swapN hx30.toP (by simp) (now' := List.replicate n.toNat zeros) (by rw [List.length_replicate]; exact hs30) (fun k hk => .inr (hf30 k hk))
    refine ⟨_, _, _, rfl, b1, 0, rfl, h30.head.cells 1 1 (by simp), fun H36 hp => ?_⟩
    obtain ⟨h36, hx36⟩ := h30.poke hp (by simp)
    have hs30' := hx30.size
    have hs36 := hx36.size
    refine ⟨(hx6.trans hx30).trans' hx36 (fun i hi => by simp only [List.mem_singleton] at hi; omega), .inr ⟨by omega, b1, rfl, ak, ck, a31, c33, none, 0, ?_⟩⟩
    have e1 : (newD n.toNat).kept.length = n.toNat := by simp [newD]
    have e2 : (newD n.toNat).now = List.replicate n.toNat zeros := rfl
    rw [e1, e2, List.length_replicate]
    refine h36.up (fun k hk => ?_) (fun k hk => (grow_low k hk).2)
    rcases hk with hk | hk
    · have := grow_low k hk; exact .inr ⟨this.1, by omega⟩
    · exact .inr ⟨by omega, by omega⟩

theorem rdnew_ok (n : Nat) (H : Heap) (hn8 : n ≤ 100000) : Does Try.prog 22 [.int .i64 n] H fun v H' => Ext [] H H' ∧ ∃ pd, v = .pointer (some ⟨pd, 0, none⟩) ∧ IsRDev H' (grow none_ H H') pd (newD n) := by
  refine Fn_of_vc Try.mixed (vc_rdnew _ _ _) ?_
  intro b1 H2 hn
  have hb1 := hn.eq
  refine ⟨fun i H' => ∃ (j : Nat) (ak : Option Addr) (ck : Nat), i = j ∧ j ≤ n ∧ Ext [] H H' ∧ Three H' (grow none_ H H') b1 [.slice ak j ck, .slice none 0 0, .int .i64 (-1), .bool false, .int .i64 0] ak ck (List.replicate j zeros) none 0 [] none 0 [], fun i _ => n - i.toNat,
    ⟨0, none, 0, rfl, Nat.zero_le _, hn.ext, three_new hn⟩, ?_⟩
  rintro _ H6 ⟨j, ak, ck, rfl, hj, hx6, h6⟩
  have hs6 := hx6.size
  have e128 : Int.toNat 128 = 128 := rfl
  refine ⟨fun h3 => ?_, fun h3 => ?_⟩
  · refine ⟨b1, 0, rfl, ak, j, ck, h6.head.cell 0, by decide, by decide, by decide, fun b12 H13 hn13 => ?_⟩
    rw [e128] at hn13
    have hx13 := hn13.ext
    have h13 := (h6.grown hx13.toP (by simp))
    have hel := new_elem hn13
    have hb12 := hn13.eq
    have hs13 := hn13.size
    refine ⟨⟨h13.head.cell 0, trivial⟩, fun b14 H15 hn15 => ⟨⟨(h13.head.ext hn15.ext (by simp)).cell 0, trivial⟩, ?_⟩⟩
    have hsk := h13.sk
    rw [List.length_replicate] at hsk
    refine hsk.push (v := [.slice (some ⟨b12, 0, none⟩) 128 128]) (x := zeros) (fun k hk => hk.2.2.1) hel (fun k hk => ?_) rfl (by omega) ?_ b14 H15 hn15
    · simp only [bytesE, blkOf, List.mem_singleton] at hk
      subst hk
      exact h6.calm_new (by omega) (by omega)
    · intro a' c' H20 hs20 hx20 hk20
      have h20 := h13.swapK hx20.toP (fun k hk => hk) (kept' := List.replicate (j + 1) zeros) (by rw [List.length_replicate, replicate_snoc]; exact hs20) hk20
      refine ⟨b1, 0, rfl, h20.head.cells 1 0 (by simp), fun H23 hp => ?_⟩
      obtain ⟨h23, hx23⟩ := h20.poke hp (by simp)
      have hxx : Ext [] H H23 := ((hx6.trans hx13).trans' hx20 (fun i hi => .inl (grow_low i (h6.fk i hi)).1)).trans' hx23 (fun i hi => by simp only [List.mem_singleton] at hi; omega)
      · refine ⟨⟨by omega, by omega⟩, ⟨j + 1, a', c', by omega, by omega, hxx, h23.up (fun k hk => ?_) (fun k hk => (grow_low k hk).2)⟩, by dsimp only; omega⟩
        have hs20' := hx20.size
        have hs23 := hx23.size
        have : H.size ≤ k ∧ k < H20.size := by
          rcases hk with (hk | hk) | hk
          · have := grow_low k hk; omega
          · omega
          · omega
        exact .inr ⟨this.1, by omega⟩
  · have ej : j = n := by omega
    subst ej
    refine ⟨hx6, b1, rfl, ak, ck, none, 0, ?_⟩
    have e1 : (newD j).kept.length = j := by simp [newD]
    rw [e1]
    exact h6

end Go.Proofs
end

section
open Go Go.Vc
namespace Go.Proofs

/-! ### Flush -/

def flushD (D : Dev) : Dev × Int := if (wk D).2 then ({ (wk D).1 with kept := D.now, pend := [] }, 0) else ((wk D).1, 4)

theorem wkWf {D : Dev} {n B : Nat} (h : D.Wf n B) : (wk D).1.Wf n (B + 1) := by
  have hf := h.fuse
  have hw := h.works
  have hp := h.pfew
  unfold wk
  split
  · exact ⟨h.len, h.few, h.size, h.pin, by simp only; omega, hf, ⟨hw.1, by simp only; omega⟩⟩
  · exact ⟨h.len, h.few, h.size, h.pin, by simp only; omega, ⟨by simp only; split <;> omega, by simp only; split <;> omega⟩, ⟨by simp only; omega, by simp only; omega⟩⟩

theorem nowSize {D : Dev} {n B : Nat} (h : D.Wf n B) : ∀ b ∈ D.now, b.length = 128 := laid_size D.pend D.kept h.size fun w hw => (h.pin w hw).2.2

theorem flushWf {D : Dev} {n B : Nat} (h : D.Wf n B) : (flushD D).1.Wf n (B + 1) := by
  have h1 := wkWf h
  unfold flushD
  split
  · exact ⟨by simp only [Dev.now, laid_length]; exact h.len, h.few, nowSize h, by simp, by simp, h1.fuse, h1.works⟩
  · exact h1

theorem dflush_ok {H : Heap} {F : Nat → Prop} {pd : Nat} {D : Dev} {n B : Nat} (h : IsDev H F pd D) (hw : D.Wf n B) (hB : B ≤ 1000000000) :
    Does Try.prog 16 [.pointer (some ⟨pd, 0, none⟩)] H fun v H' => v = .int .i64 (flushD D).2 ∧ IsDev H' (grow F H H') pd (flushD D).1 ∧ ExtP F H H' := by
  refine Fn_of_vc Try.mixed (vc_dflush _ _ _) ?_
  have hwk := hw.works
  refine (work_ok h (by omega) hwk.1 hw.fuse).mono ?_
  rintro _ H2 ⟨rfl, hd2, hx2⟩
  have hlt := h.lt
  have hs2 := hx2.size
  refine ⟨_, rfl, fun h1 => ?_, fun h1 => ?_⟩
  · have e : (wk D).2 = false := by
      cases hh : (wk D).2 with
      | false => rfl
      | true => rw [hh] at h1; exact absurd rfl h1
    have e2 : flushD D = ((wk D).1, 4) := by unfold flushD; rw [e]; rfl
    rw [e2, e]
    exact ⟨rfl, hd2.up (fun _ => .inl) (grow_lt hlt hs2), hx2⟩
  · have e : (wk D).2 = true := by
      cases hh : (wk D).2 with
      | true => rfl
      | false => rw [hh] at h1; exact absurd (show (4 : Int) ≠ 0 by decide) h1
    have e2 : flushD D = ({ (wk D).1 with kept := D.now, pend := [] }, 0) := by unfold flushD; rw [e]; rfl
    rw [e2]
    obtain ⟨ak, ck, an, cn, ap, cp, h2⟩ := hd2
    rw [wk_now D] at h2
    have hnl : D.now.length ≤ 100000 := by rw [show D.now.length = D.kept.length from laid_length _ _, hw.len]; exact hw.few
    refine ⟨_, _, rfl, _, _, _, h2.head.cell 1, (clonell_ok rfl h2.sn (by omega)).mono ?_⟩
    rintro _ H10 ⟨a11, c13, rfl, hs10, hx10, hf10⟩
    have h10 := h2.swapK hx10.toP (by simp) hs10 (fun k hk => .inr (hf10 k hk))
    refine ⟨_, _, _, rfl, _, _, rfl, h10.head.cells 1 0 (by simp), fun H16 hp => ?_⟩
    obtain ⟨h16, hx16⟩ := h10.poke hp (by simp)
    have h16' := h16.swapP (ExtP.refl (fun _ => False) H16) (by simp) (Seq.nil _ _ _) (ap' := none) (cp' := 0) (pend' := []) (fun k hk => by cases hk)
    refine ⟨_, _, rfl, h16'.head.cells 1 2 (by simp), fun H19 hp2 => ?_⟩
    obtain ⟨h19, hx19⟩ := h16'.poke hp2 (by simp)
    have s10 := hx10.size
    have s16 := hx16.size
    have s19 := hx19.size
    have hpd := h2.fh
    refine ⟨rfl, ⟨a11, c13, an, cn, none, 0, h19.up (fun k hk => ?_) (grow_lt hlt (by omega))⟩, ?_⟩
    · rcases hk with (hk | hk) | hk
      · exact .inl hk
      · exact .inr ⟨by omega, by omega⟩
      · exact .inr ⟨by omega, by omega⟩
    · refine ((hx2.trans' hx10.toP (by simp)).trans' hx16.toP ?_).trans' hx19.toP ?_ <;> (intro i hi; simp only [List.mem_singleton] at hi; subst hi; exact .inr hpd)

/-! ### Write -/

def writeD (D : Dev) (n : Nat) (k : Int) (b : Bytes) : Dev × Int :=
  if ¬ (0 ≤ k ∧ k < n) ∨ b.length ≠ 128 then (D, 1) else if (wk D).2 then ({ (wk D).1 with pend := D.pend ++ [(k, b)] }, 0) else ((wk D).1, 4)

theorem writeWf {D : Dev} {n B : Nat} (h : D.Wf n B) (k : Int) (b : Bytes) : (writeD D n k b).1.Wf n (B + 1) := by
  have h1 := wkWf h
  have hp := h.pfew
  unfold writeD
  split
  · exact ⟨h.len, h.few, h.size, h.pin, by simp only; omega, h.fuse, ⟨h.works.1, by have := h.works.2; simp only; omega⟩⟩
  · rename_i hk
    split
    · refine ⟨by rw [← h.len]; simp only [(wk_kept D).1], h.few, by simp only [(wk_kept D).1]; exact h.size, fun w hw => ?_, by simp; omega, h1.fuse, h1.works⟩
      rcases List.mem_append.1 hw with hw | hw
      · exact h.pin w hw
      · simp only [List.mem_singleton] at hw
        subst hw
        simp only
        exact ⟨by omega, by omega, by omega⟩
    · exact h1

theorem dwrite_ok {H : Heap} {F : Nat → Prop} {pd : Nat} {D : Dev} {n B : Nat} (h : IsDev H F pd D) (hw : D.Wf n B) (hB : B ≤ 1000000000) (k : Int) {a : Option Addr} {len cap : Nat} {xs : Bytes} (hs : KeptB F H a len cap xs) :
    Does Try.prog 17 [.pointer (some ⟨pd, 0, none⟩), .int .i64 k, .slice a len cap] H fun v H' => v = .int .i64 (writeD D n k xs).2 ∧ IsDev H' (grow F H H') pd (writeD D n k xs).1 ∧ ExtP F H H' := by
  refine Fn_of_vc Try.mixed (vc_dwrite _ _ _ _ _ _ _) ?_
  have hl : xs.length = len := by have := hs.at_.1; rw [bytesV_length] at this; omega
  have hlt := h.lt
  have hwl := hw.len
  refine (has_ok h k).mono ?_
  rintro _ _ ⟨rfl, rfl⟩
  rw [hwl]
  have keep : IsDev H (grow F H H) pd D := h.up (fun _ => .inl) (grow_lt hlt (Nat.le_refl _))
  refine ⟨_, rfl, fun h1 => ?_, fun h1 => ⟨fun h2 => ?_, fun h2 => ?_⟩⟩
  · have h1' : ¬ (0 ≤ k ∧ k < (n : Int)) := by simpa using h1
    have e : writeD D n k xs = (D, 1) := if_pos (.inl h1')
    rw [e]
    exact ⟨rfl, keep, ExtP.refl _ _⟩
  · have e : writeD D n k xs = (D, 1) := if_pos (.inr (by omega))
    rw [e]
    exact ⟨rfl, keep, ExtP.refl _ _⟩
  have hk : 0 ≤ k ∧ k < n := by simpa using h1
  have hc : ¬ (¬ (0 ≤ k ∧ k < (n : Int)) ∨ xs.length ≠ 128) := by omega
  have hwk := hw.works
  refine (work_ok h (by omega) hwk.1 hw.fuse).mono ?_
  rintro _ H5 ⟨rfl, hd5, hx5⟩
  have hs5 := hx5.size
  refine ⟨_, rfl, fun h3 => ?_, fun h3 => ?_⟩
  · have e : (wk D).2 = false := by
      cases hh : (wk D).2 with
      | false => rfl
      | true => rw [hh] at h3; exact absurd rfl h3
    have e2 : writeD D n k xs = ((wk D).1, 4) := by unfold writeD; rw [if_neg hc, e]; rfl
    rw [e2, e]
    exact ⟨rfl, hd5.up (fun _ => .inl) (grow_lt hlt hs5), hx5⟩
  have e : (wk D).2 = true := by
    cases hh : (wk D).2 with
    | true => rfl
    | false => rw [hh] at h3; exact absurd (show (4 : Int) ≠ 0 by decide) h3
  have e2 : writeD D n k xs = ({ (wk D).1 with pend := D.pend ++ [(k, xs)] }, 0) := by unfold writeD; rw [if_neg hc, e]; rfl
  rw [e2]
  obtain ⟨ak, ck, an, cn, ap, cp, h5⟩ := hd5
  have hp5 := (wk_kept D).2
  have hk5 := (wk_kept D).1
  rw [wk_now D, hk5, hp5] at h5
  refine (clonel_ok (hs _ hx5) (by omega)).mono ?_
  rintro _ H8 ⟨a9, c11, rfl, ho8, hx8, hf8⟩
  refine ⟨_, _, _, rfl, fun b12 H13 hn => ⟨hn.blk.cells 2 0 (by simp), fun H14 hput => ?_⟩⟩
  have hn13 := hn.blk
  have hb14 := hput.blk hn13 (by simp)
  have ex14 : splice [Value.int .i64 0, .slice none 0 0] 0 [Value.int .i64 k, .slice a9 len c11] = [Value.int .i64 k, .slice a9 len c11] := rfl
  rw [ex14] at hb14
  have e12 := hn.eq
  have s13 := hn.size
  have s14 := hput.size
  have s8 := hx8.size
  have hx14 : Ext [] H5 H14 := (hx8.trans hn.ext).trans' hput.ext (fun i hi => by simp only [List.mem_singleton] at hi; omega)
  have hx814 : Ext [] H8 H14 := hn.ext.trans' hput.ext (fun i hi => by simp only [List.mem_singleton] at hi; omega)
  have h14 := h5.grown hx14.toP (by simp)
  have ho14 := ho8.ext hx814 (by simp)
  have hf9 : ∀ i, i ∈ blkOf a9 → calm (grow F H5 H14) pd ak an ap i := fun i hi => h5.calm_new (hf8 i hi) (by have := ho14.lt i hi; omega)
  refine ⟨_, _, rfl, ap, _, cp, h14.head.cell 2, k, hb14.cell 0, a9, len, c11, hb14.cell 1, fun b24 H25 hn25 => ⟨⟨(h14.head.ext hn25.ext (by simp)).cell 2, trivial⟩, ?_⟩⟩
  have hpf := hw.pfew
  refine h14.sp.push (v := [.int .i64 k, .slice a9 len c11]) (x := (k, xs)) (fun i hi => hi.2.2.2.2) ⟨a9, len, c11, rfl, ho14.row _ _, ho14.lt⟩ (fun i hi => hf9 i hi) rfl (by omega) ?_ b24 H25 hn25
  intro a28 c29 H30 hs30 hx30 hk30
  have h30 := h14.swapP hx30.toP (fun i hi => hi) (pend' := D.pend ++ [(k, xs)]) (by rw [List.length_append]; exact hs30) hk30
  have hlt14 := h14.lt
  have s30 := hx30.size
  have hb30 := hb14.ext hx30 (fun hi => by have := h5.lt _ (h5.fp _ hi); omega)
  refine ⟨_, _, rfl, h30.head.cells 1 2 (by simp), fun H33 hp => ?_⟩
  obtain ⟨h33, hx33⟩ := h30.poke hp (by simp)
  have hpdlt := h5.lt _ h5.fh
  have hb33 := hb30.ext hx33 (by simp only [List.mem_singleton]; omega)
  have s33 := hx33.size
  have hnow : D.now.length = n := by rw [← hwl]; exact laid_length _ _
  obtain ⟨b42, eb, kc, kp⟩ := h33.putN (i := k.toNat) (by omega)
  refine ⟨_, _, rfl, an, _, cn, h33.head.cell 1, a9, len, c11, hb33.cell 1, hk.1, by omega, b42, 0, eb, kc, fun H44 hput2 => ?_⟩
  have hx1433 : ExtP (fun i => i ∈ blkOf ap ∨ i = pd) H14 H33 := (hx30.toP.mono (fun i _ hi => .inl hi)).trans' hx33.toP (fun i hi => by simp only [List.mem_singleton] at hi; exact .inr (.inr hi))
  have hel : bytesE.ok H33 [.slice a9 len c11] xs := own_elem (ho14.extP hx1433 (fun i hi => by
    have h1 := (hf9 i hi)
    rintro (h2 | h2)
    · exact h1.2.2.2.2 h2
    · exact h1.2.1 h2))
  obtain ⟨h44, hx44⟩ := kp (.slice a9 len c11) xs H44 hel (fun i hi => by
    have h1 := hf9 i hi
    refine ⟨.inl h1.1, h1.2.1, h1.2.2.1, h1.2.2.2.1, fun h2 => ?_⟩
    rcases hk30 i h2 with h3 | h3
    · exact h1.2.2.2.2 h3
    · have := ho14.lt i hi; omega) hput2
  have s44 := hx44.size
  refine ⟨rfl, ⟨ak, ck, an, cn, a28, c29, ?_⟩, ?_⟩
  · have e3 : ({ (wk D).1 with pend := D.pend ++ [(k, xs)] } : Dev).now = D.now.set k.toNat xs := by
      show laid (wk D).1.kept (D.pend ++ [(k, xs)]) = _
      rw [laid_snoc, hk5]; rfl
    rw [e3]
    simp only [hk5, List.length_set, List.length_append]
    refine h44.up (fun i hi => ?_) (grow_lt hlt (by omega))
    rcases hi with (hi | hi) | hi
    · exact .inl hi
    · exact .inr ⟨by omega, by omega⟩
    · exact .inr ⟨by omega, by omega⟩
  · refine (((hx5.trans' hx14.toP (by simp)).trans' hx30.toP ?_).trans' hx33.toP ?_).trans' hx44.toP ?_
    · intro i hi; exact .inr (h5.fp i hi)
    · intro i hi; simp only [List.mem_singleton] at hi; subst hi; exact .inr h5.fh
    · intro i hi; exact .inr (h5.fn i hi)

end Go.Proofs
end

section
open Go Go.Vc
namespace Go.Proofs

/-! ### Bits of a mask -/

def mbit (ms : Bytes) (i : Nat) : Bool := decide (i / 8 < ms.length) && (ms.getD (i / 8) 0).toNat.testBit (i % 8)

theorem pos_fin : ∀ x : Fin 256, ∀ j : Fin 8, decide ((0 : Int) < bits .and .u8 (Int.fdiv (x.val : Int) (2 ^ (min j.val 8))) 1) = Nat.testBit x.val j.val := by decide +kernel

theorem pos_byte (b : UInt8) (q : Int) (h0 : 0 ≤ q) (h1 : q < 8) : ((0 : Int) < bits .and .u8 (Int.fdiv (b.toNat : Int) (2 ^ (min q.toNat (IntKind.bits .u8)))) 1) ↔ b.toNat.testBit q.toNat = true := by
  have := pos_fin ⟨b.toNat, b.toNat_lt⟩ ⟨q.toNat, by omega⟩
  rw [← this]
  simp [IntKind.bits]

theorem one_fin : ∀ x : Fin 256, ∀ j : Fin 8, decide (bits .and .u8 (Int.fdiv (x.val : Int) (2 ^ (min j.val 8))) 1 = 1) = Nat.testBit x.val j.val := by decide +kernel

theorem one_byte (b : UInt8) (q : Int) (h0 : 0 ≤ q) (h1 : q < 8) : (bits .and .u8 (Int.fdiv (b.toNat : Int) (2 ^ (min q.toNat (IntKind.bits .u8)))) 1 = 1) ↔ b.toNat.testBit q.toNat = true := by
  have := one_fin ⟨b.toNat, b.toNat_lt⟩ ⟨q.toNat, by omega⟩
  rw [← this]
  simp [IntKind.bits]

theorem set_ok {H : Heap} {a : Option Addr} {len cap : Nat} {ms : Bytes} (h : SRow H 1 len (.slice a len cap) (bytesV ms)) (i : Nat) (hi : i ≤ 1000000000) :
    Does Try.prog 51 [.slice a len cap, .int .i64 i] H fun v H' => v = .bool (mbit ms i) ∧ H = H' := by
  refine Fn_of_vc Try.mixed (vc_set _ _ _ _ _ _) ?_
  have hl : ms.length = len := by have := h.1; rw [bytesV_length] at this; omega
  refine ⟨by decide, fun q hq => ?_⟩
  rw [wrap_tdiv (by omega) (by decide) (by omega)] at hq
  refine ⟨fun h1 => ⟨by decide, fun q2 hq2 => ?_⟩, fun h1 => ⟨?_, rfl⟩⟩
  · rw [wrap_tdiv (by omega) (by decide) (by omega)] at hq2
    have e1 : q2.toNat = i / 8 := by omega
    obtain ⟨b, o, rfl, hc⟩ := h.get (bytesV_get ms (i / 8) (by omega))
    refine ⟨by omega, by omega, b, o, rfl, _, by rw [e1]; exact hc, by decide, fun q6 hq6 => ?_⟩
    rw [tmod_pos (by omega)] at hq6
    refine ⟨by omega, ?_⟩
    rintro _ rfl _ rfl
    refine ⟨dec_bool' ?_, rfl⟩
    rw [pos_byte _ q6 (by omega) (by omega), show q6.toNat = i % 8 by omega, mbit, decide_eq_true (by omega)]
    simp
  · rw [mbit, decide_eq_false (by omega)]; rfl
where
  dec_bool' {p : Prop} {i : Decidable p} {b : Bool} (h : p ↔ b = true) : Value.bool (@decide p i) = .bool b := congrArg _ (dec_bool h)

/-! ### Crash -/

def crashL (ms : Bytes) : List (Int × Bytes) → Nat → List Bytes → List Bytes
  | [], _, kept => kept
  | w :: r, i, kept => crashL ms r (i + 1) (if mbit ms i then kept.set w.1.toNat w.2 else kept)

theorem crashL_snoc (ms : Bytes) (w : Int × Bytes) : ∀ (l : List (Int × Bytes)) (i : Nat) (kept : List Bytes), crashL ms (l ++ [w]) i kept = if mbit ms (i + l.length) then (crashL ms l i kept).set w.1.toNat w.2 else crashL ms l i kept
  | [], i, kept => rfl
  | x :: l, i, kept => by
    rw [List.cons_append, crashL, crashL_snoc ms w l, crashL, List.length_cons, show i + 1 + l.length = i + (l.length + 1) by omega]

theorem crashL_length (ms : Bytes) : ∀ (l : List (Int × Bytes)) (i : Nat) (kept : List Bytes), (crashL ms l i kept).length = kept.length
  | [], i, kept => rfl
  | x :: l, i, kept => by
    rw [crashL, crashL_length ms l]
    split <;> simp

theorem crashL_size (ms : Bytes) : ∀ (l : List (Int × Bytes)) (i : Nat) (kept : List Bytes), (∀ b ∈ kept, b.length = 128) → (∀ w ∈ l, w.2.length = 128) → ∀ b ∈ crashL ms l i kept, b.length = 128
  | [], i, kept, h1, _ => h1
  | x :: l, i, kept, h1, h2 => by
    refine crashL_size ms l _ _ (fun b hb => ?_) (fun w hw => h2 w (by simp [hw]))
    split at hb
    · rcases List.mem_or_eq_of_mem_set hb with hb | rfl
      · exact h1 b hb
      · exact h2 x (by simp)
    · exact h1 b hb

def crashD (D : Dev) (ms : Bytes) : Dev := ⟨crashL ms D.pend 0 D.kept, [], -1, false, D.works⟩

theorem crashWf {D : Dev} {n B : Nat} (h : D.Wf n B) (ms : Bytes) : (crashD D ms).Wf n B :=
  ⟨by simp only [crashD, crashL_length]; exact h.len, h.few, crashL_size ms _ _ _ h.size (fun w hw => (h.pin w hw).2.2), by simp [crashD], by simp [crashD], ⟨by simp [crashD], by simp [crashD]⟩, h.works⟩

theorem dcrash_ok {H : Heap} {F : Nat → Prop} {pd : Nat} {D : Dev} {n B : Nat} (h : IsDev H F pd D) (hw : D.Wf n B) (hB : B ≤ 1000000000) {a : Option Addr} {len cap : Nat} {ms : Bytes} (hs : KeptB F H a len cap ms) :
    Does Try.prog 19 [.pointer (some ⟨pd, 0, none⟩), .slice a len cap] H fun v H' => v = .tuple #[] ∧ IsDev H' (grow F H H') pd (crashD D ms) ∧ ExtP F H H' := by
  refine Fn_of_vc Try.mixed (vc_dcrash _ _ _ _ _ _) ?_
  have hlt := h.lt
  obtain ⟨ak, ck, an, cn, ap, cp, h⟩ := h
  have hpd := h.fh
  have hpf := hw.pfew
  refine ⟨_, _, rfl, ap, D.pend.length, cp, h.head.cell 2, fun i H' => ∃ j : Nat, i = j ∧ j ≤ D.pend.length ∧ ExtP F H H' ∧
      Three H' (grow F H H') pd [.slice ak D.kept.length ck, .slice an D.now.length cn, .slice ap D.pend.length cp, .int .i64 D.fuse, .bool D.dead, .int .i64 D.works] ak ck (crashL ms (D.pend.take j) 0 D.kept) an cn D.now ap cp D.pend,
    fun i _ => D.pend.length - i.toNat, ⟨0, rfl, Nat.zero_le _, ExtP.refl _ _, h.up (fun _ => .inl) (grow_lt hlt (Nat.le_refl _))⟩, ?_⟩
  rintro _ H9 ⟨j, rfl, hj, hx9, h9⟩
  have s9 := hx9.size
  refine ⟨fun h1 => ?_, fun h1 => ?_⟩
  · obtain ⟨w, hwj⟩ : ∃ w, D.pend[j]? = some w := ⟨_, List.getElem?_eq_getElem (by omega)⟩
    obtain ⟨b11, o12, v, eb, hc, ⟨a14, l15, c16, rfl, hr, hlt14⟩, hf⟩ := h9.sp.get hwj
    have hpin := hw.pin w (List.mem_of_getElem? hwj)
    have hnext : crashL ms (D.pend.take (j + 1)) 0 D.kept = if mbit ms j then (crashL ms (D.pend.take j) 0 D.kept).set w.1.toNat w.2 else crashL ms (D.pend.take j) 0 D.kept := by
      rw [take_snoc hwj, crashL_snoc, Nat.zero_add, List.length_take, Nat.min_eq_left (by omega)]
    refine ⟨fun H' => ExtP F H H' ∧ Three H' (grow F H H') pd [.slice ak D.kept.length ck, .slice an D.now.length cn, .slice ap D.pend.length cp, .int .i64 D.fuse, .bool D.dead, .int .i64 D.works] ak ck (crashL ms (D.pend.take (j + 1)) 0 D.kept) an cn D.now ap cp D.pend, ?_, ?_⟩
    · have c0 := hc 0 _ rfl
      have c1 := hc 1 _ rfl
      refine ⟨by omega, h1, b11, o12, eb, w.1, c0, a14, l15, c16, c1, fun b17 H18 hn => ⟨hn.blk.cells 2 0 (by simp), fun H19 hput => ?_⟩⟩
      have hb19 := hput.blk hn.blk (by simp)
      have ex19 : splice [Value.int .i64 0, .slice none 0 0] 0 [Value.int .i64 w.1, .slice a14 l15 c16] = [Value.int .i64 w.1, .slice a14 l15 c16] := rfl
      rw [ex19] at hb19
      have e17 := hn.eq
      have s19 : H19.size = H9.size + 1 := by rw [hput.size, hn.size]
      have hx19 : Ext [] H9 H19 := hn.ext.trans' hput.ext (fun i hi => by simp only [List.mem_singleton] at hi; omega)
      have h19 := h9.grown hx19.toP (by simp)
      have hsub : ∀ {B : Heap}, H19.size ≤ B.size → ∀ k, grow (grow F H H9) H9 H19 k → grow F H B k := by
        rintro B hB k ((hk | hk) | hk)
        · exact .inl hk
        · exact .inr ⟨hk.1, by omega⟩
        · exact .inr ⟨by omega, by omega⟩
      have hxx : ExtP F H H19 := hx9.trans' hx19.toP (by simp)
      refine (set_ok (hs _ hxx) j (by omega)).mono ?_
      rintro _ _ ⟨rfl, rfl⟩
      refine ⟨_, rfl, fun hm => ?_, fun hm => ?_⟩
      · have hklen : w.1.toNat < (crashL ms (D.pend.take j) 0 D.kept).length := by rw [crashL_length, hw.len]; omega
        obtain ⟨b32, eb2, kc, kp⟩ := h19.putK hklen
        refine ⟨_, _, rfl, ak, _, ck, h19.head.cell 0, w.1, hb19.cell 0, a14, l15, c16, hb19.cell 1, hpin.1, by rw [hw.len]; exact hpin.2.1, b32, 0, eb2, kc, fun H34 hput2 => ?_⟩
        have hel : bytesE.ok H19 [.slice a14 l15 c16] w.2 := ⟨a14, l15, c16, rfl, hr.ext hx19 (by simp), fun k hk => by have := hlt14 k hk; omega⟩
        obtain ⟨h34, hx34⟩ := kp _ _ H34 hel (fun k hk => by
          have := hf k hk
          exact ⟨.inl this.1, this.2⟩) hput2
        rw [hnext, hm]
        refine ⟨hxx.trans' hx34.toP (fun i hi => .inr (h.fk i hi)), h34.up (hsub hx34.size) (grow_lt hlt (by have := hx34.size; omega))⟩
      · rw [hnext, hm]
        exact ⟨hxx, h19.up (hsub (Nat.le_refl _)) (grow_lt hlt (by omega))⟩
    · rintro H35 ⟨hx35, h35⟩
      exact ⟨⟨by omega, by omega⟩, ⟨j + 1, by omega, by omega, hx35, h35⟩, by dsimp only; omega⟩
  · have ej : j = D.pend.length := by omega
    subst ej
    rw [List.take_length] at h9
    have hkl : (crashL ms D.pend 0 D.kept).length = D.kept.length := crashL_length _ _ _ _
    have hfew := hw.few
    have hsk := h9.sk
    rw [hkl] at hsk
    refine ⟨_, _, rfl, ak, _, ck, h9.head.cell 0, (clonell_ok rfl hsk (by rw [hw.len]; omega)).mono ?_⟩
    rintro _ H42 ⟨a43, c45, rfl, hs42, hx42, hf42⟩
    have h42 := h9.swapN hx42.toP (by simp) (now' := crashL ms D.pend 0 D.kept) (by rw [hkl]; exact hs42) (fun k hk => .inr (hf42 k hk))
    refine ⟨_, _, _, rfl, _, _, rfl, h42.head.cells 1 1 (by simp), fun H48 hp1 => ?_⟩
    obtain ⟨h48, hx48⟩ := h42.poke hp1 (by simp)
    have h48' := h48.swapP (ExtP.refl (fun _ => False) H48) (by simp) (Seq.nil _ _ _) (ap' := none) (cp' := 0) (pend' := []) (fun k hk => by cases hk)
    refine ⟨_, _, rfl, h48'.head.cells 1 2 (by simp), fun H51 hp2 => ?_⟩
    obtain ⟨h51, hx51⟩ := h48'.poke hp2 (by simp)
    refine ⟨_, _, rfl, h51.head.cells 1 4 (by simp), fun H54 hp3 => ?_⟩
    obtain ⟨h54, hx54⟩ := h51.poke hp3 (by simp)
    refine ⟨_, _, rfl, h54.head.cells 1 3 (by simp), fun H57 hp4 => ?_⟩
    obtain ⟨h57, hx57⟩ := h54.poke hp4 (by simp)
    have s42 := hx42.size
    have s48 := hx48.size
    have s51 := hx51.size
    have s54 := hx54.size
    have s57 := hx57.size
    refine ⟨rfl, ⟨ak, ck, a43, c45, none, 0, ?_⟩, ?_⟩
    · have e1 : (crashD D ms).now = crashL ms D.pend 0 D.kept := rfl
      have e2 : (crashD D ms).kept = crashL ms D.pend 0 D.kept := rfl
      rw [e1, e2, hkl]
      refine h57.up (fun i hi => ?_) (grow_lt hlt (by omega))
      rcases hi with ((hi | hi) | hi) | hi
      · exact .inl hi
      · exact .inr ⟨by omega, by omega⟩
      · exact .inr ⟨by omega, by omega⟩
      · exact .inr ⟨by omega, by omega⟩
    · refine ((((hx9.trans' hx42.toP (by simp)).trans' hx48.toP ?_).trans' hx51.toP ?_).trans' hx54.toP ?_).trans' hx57.toP ?_ <;> (intro i hi; simp only [List.mem_singleton] at hi; subst hi; exact .inr hpd)

end Go.Proofs
end

section
open Go Go.Vc
namespace Go.Proofs

theorem rkeep_ok {H : Heap} {F : Nat → Prop} {pd : Nat} {cells : List Value} {ak : Option Addr} {ck : Nat} {kept : List Bytes} {ap : Option Addr} {cp : Nat} {pend : List (Int × Bytes)} (h : Three H F pd cells ak ck kept none 0 [] ap cp pend)
    (h0 : cells[0]? = some (.slice ak kept.length ck)) (hfew : kept.length ≤ 100000) {at_ : Int} {a : Option Addr} {n c : Nat} {xs : Bytes} (hr : bytesE.ok H [.slice a n c] xs) (hf : ∀ k, k ∈ blkOf a → calm F pd ak none ap k) (hat : 0 ≤ at_ ∧ at_ < kept.length) :
    Does Try.prog 53 [.pointer (some ⟨pd, 0, none⟩), .agg #[.int .i64 at_, .slice a n c]] H fun v H' => v = .tuple #[] ∧ ∃ ak' ck', Three H' (grow F H H') pd (cells.set 0 (.slice ak' kept.length ck')) ak' ck' (kept.set at_.toNat xs) none 0 [] ap cp pend ∧ Ext [pd] H H' := by
  refine Fn_of_vc Try.mixed (vc_rkeep _ _ _ _ _ _ _) ?_
  intro b1 H2 hn2 b3 H4 hn4
  have hx2 := hn2.ext
  have hx4 := hn4.ext
  have hx24 := hx2.trans hx4
  have e1 := hn2.eq
  have s2 := hn2.size
  have e3 := hn4.eq
  have s4 := hn4.size
  have hlt := h.lt
  have hcells : 0 < cells.length := (List.getElem?_eq_some_iff.1 h0).1
  have h4 := h.ext hx24.toP (by simp)
  obtain ⟨flat, ho, hone, hcopy⟩ := h4.sk.copy
  have ho3 : Own H4 1 (some ⟨b3, 0, none⟩) 0 0 [] := ⟨rfl, Nat.le_refl _, by unfold maxLen; omega, .inr ⟨b3, [], rfl, hn4.blk, rfl⟩⟩
  refine ⟨_, _, rfl, ak, _, ck, by rw [h4.head.cell]; exact h0, [], flat, ho3.row 0 0, ho.row _ _, hone, by omega, fun hle => ho3.room (n := kept.length) hle, ?_⟩
  intro a12 c13 H14 happ
  obtain ⟨q1, q2, q3⟩ := happ.own ho3 (ho3.row 0 0) (by have := ho.1; simpa [bytesE] using this) rfl
  simp only [Nat.zero_add, List.nil_append] at q1 ⊢
  have hx14 : Ext [] H2 H14 := hx4.trans' q2 (fun i hi => by simp only [blkOf, List.mem_singleton] at hi; omega)
  have hxx : Ext [] H H14 := hx2.trans hx14
  have hx414 : ExtP (fun k => k ∈ blkOf (some (⟨b3, 0, none⟩ : Addr))) H4 H14 := q2.toP
  have hs14 := hcopy q1 hx414 (fun k hk hk' => by
    simp only [blkOf, List.mem_singleton] at hk'
    have := hlt k hk.1
    omega)
  have s14 := hxx.size
  have h14 := h.swapK hxx.toP (by simp) hs14 (fun k hk => by
    rcases q3 k hk with h5 | h5
    · simp only [blkOf, List.mem_singleton] at h5; exact .inr (by omega)
    · exact .inr (by omega))
  have hb14 := hn2.blk.ext hx14 (by simp)
  obtain ⟨b19, eb, kc, kp⟩ := h14.putK (i := at_.toNat) (by omega)
  refine ⟨at_, hb14.cell 0, a, n, c, hb14.cell 1, hat.1, by omega, b19, 0, eb, kc, fun H21 hput => ?_⟩
  obtain ⟨h21, hx21⟩ := kp (.slice a n c) xs H21 (bytesE.ext hr hxx.toP (by simp)) (fun k hk => by
    have hk' := hf k hk
    refine ⟨.inl hk'.1, hk'.2.1, fun h5 => ?_, hk'.2.2.2⟩
    rcases q3 k h5 with h6 | h6
    · simp only [blkOf, List.mem_singleton] at h6; have := hlt k hk'.1; omega
    · have := hlt k hk'.1; omega) hput
  refine ⟨_, _, rfl, h21.head.cells 1 0 (by omega), fun H24 hp => ?_⟩
  obtain ⟨h24, hx24'⟩ := h21.poke hp hcells
  have s21 := hx21.size
  have s24 := hx24'.size
  refine ⟨trivial, a12, c13, h24.up (fun k hk => ?_) (grow_lt hlt (by omega)), ?_⟩
  · rcases hk with hk | hk
    · exact .inl hk
    · exact .inr ⟨hk.1, by omega⟩
  · refine (hxx.trans' (M := []) hx21 (fun i hi => .inl ?_)).any.trans' hx24' (fun i hi => .inr hi)
    rcases q3 i hi with h5 | h5
    · simp only [blkOf, List.mem_singleton] at h5; omega
    · omega

theorem rdflush_ok {H : Heap} {F : Nat → Prop} {pd : Nat} {D : Dev} {n B : Nat} (h : IsRDev H F pd D) (hw : D.Wf n B) (hB : B ≤ 1000000000) :
    Does Try.prog 23 [.pointer (some ⟨pd, 0, none⟩)] H fun v H' => v = .int .i64 (flushD D).2 ∧ IsRDev H' (grow F H H') pd (flushD D).1 ∧ ExtP F H H' := by
  refine Fn_of_vc Try.mixed (vc_rdflush _ _ _) ?_
  have hwk := hw.works
  refine (rworks_ok h (by omega) hwk.1 hw.fuse).mono ?_
  rintro _ H2 ⟨rfl, hd2, hx2⟩
  have hlt := h.lt
  have hs2 := hx2.size
  refine ⟨_, rfl, fun h1 => ?_, fun h1 => ?_⟩
  · have e2 : flushD D = ((wk D).1, 4) := by unfold flushD; rw [h1]; rfl
    rw [e2]
    exact ⟨rfl, hd2.up (fun _ => .inl) (grow_lt hlt hs2), hx2⟩
  · have e : (wk D).2 = true := eq_true_of_ne_false h1
    have e2 : flushD D = ({ (wk D).1 with kept := D.now, pend := [] }, 0) := by unfold flushD; rw [e]; rfl
    rw [e2]
    obtain ⟨ak, ck, ap, cp, h2⟩ := hd2
    rw [(wk_kept D).1, (wk_kept D).2] at h2
    have hpd := h2.fh
    have hfew := hw.few
    have hpf := hw.pfew
    refine ⟨fun i H' => ∃ (j : Nat) (ak' : Option Addr) (ck' : Nat), i = j ∧ j ≤ D.pend.length ∧ ExtP F H H' ∧
      Three H' (grow F H H') pd [.slice ak' D.kept.length ck', .slice ap D.pend.length cp, .int .i64 (wk D).1.fuse, .bool (wk D).1.dead, .int .i64 (wk D).1.works] ak' ck' (laid D.kept (D.pend.take j)) none 0 [] ap cp D.pend, fun i _ => D.pend.length - i.toNat,
      ⟨0, ak, ck, rfl, Nat.zero_le _, hx2, h2.up (fun _ => .inl) (grow_lt hlt hs2)⟩, ?_⟩
    rintro _ H7 ⟨j, ak', ck', rfl, hj, hx7, h7⟩
    refine ⟨_, _, rfl, ap, _, cp, h7.head.cell 1, fun h3 => ?_, fun h3 => ?_⟩
    · obtain ⟨w, hwj⟩ : ∃ w, D.pend[j]? = some w := ⟨_, List.getElem?_eq_getElem (by omega)⟩
      obtain ⟨b11, o12, v, eb, hc, ⟨a14, l15, c16, rfl, hr, hlt14⟩, hf⟩ := h7.sp.get hwj
      have hpin := hw.pin w (List.mem_of_getElem? hwj)
      have hkl : (laid D.kept (D.pend.take j)).length = D.kept.length := laid_length _ _
      refine ⟨_, _, rfl, ap, _, cp, h7.head.cell 1, by omega, h3, b11, o12, eb, w.1, hc 0 _ rfl, a14, l15, c16, hc 1 _ rfl, ?_⟩
      refine (rkeep_ok h7 (by rw [hkl]; rfl) (by rw [hkl, hw.len]; exact hfew) ⟨a14, l15, c16, rfl, hr, hlt14⟩ hf ⟨hpin.1, by rw [hkl, hw.len]; exact hpin.2.1⟩).mono ?_
      rintro _ H25 ⟨rfl, ak2, ck2, h25, hx25⟩
      have s7 := hx7.size
      have s25 := hx25.size
      refine ⟨rfl, ⟨by omega, by omega⟩, ⟨j + 1, ak2, ck2, by omega, by omega, hx7.trans' hx25.toP (fun i hi => by simp only [List.mem_singleton] at hi; subst hi; exact .inr hpd), ?_⟩, by dsimp only; omega⟩
      rw [take_snoc hwj, laid_snoc]
      rw [hkl] at h25
      exact h25.up (grow_sub s7 s25) (grow_lt hlt (by omega))
    · have ej : j = D.pend.length := by omega
      subst ej
      rw [List.take_length] at h7
      have h7' := h7.swapP (ExtP.refl (fun _ => False) H7) (by simp) (Seq.nil _ _ _) (ap' := none) (cp' := 0) (pend' := []) (fun k hk => by cases hk)
      refine ⟨_, _, rfl, h7'.head.cells 1 1 (by simp), fun H28 hp => ?_⟩
      obtain ⟨h28, hx28⟩ := h7'.poke hp (by simp)
      have s7 := hx7.size
      have s28 := hx28.size
      refine ⟨rfl, ⟨ak', ck', none, 0, ?_⟩, hx7.trans' hx28.toP (fun i hi => by simp only [List.mem_singleton] at hi; subst hi; exact .inr hpd)⟩
      have e3 : ({ (wk D).1 with kept := D.now, pend := [] } : Dev).kept.length = D.kept.length := laid_length _ _
      have h29 := h28.up (F' := grow F H H28) (fun i hi => by
        rcases hi with hi | hi
        · rcases hi with hi | hi
          · exact .inl hi
          · exact .inr ⟨hi.1, by omega⟩
        · exact .inr ⟨by omega, by omega⟩) (grow_lt hlt (by omega))
      rw [e3]
      exact h29

end Go.Proofs
end

section
open Go Go.Vc
namespace Go.Proofs

theorem rdwrite_ok {H : Heap} {F : Nat → Prop} {pd : Nat} {D : Dev} {n B : Nat} (h : IsRDev H F pd D) (hw : D.Wf n B) (hB : B ≤ 1000000000) (k : Int) {a : Option Addr} {len cap : Nat} {xs : Bytes} (hs : KeptB F H a len cap xs) :
    Does Try.prog 27 [.pointer (some ⟨pd, 0, none⟩), .int .i64 k, .slice a len cap] H fun v H' => v = .int .i64 (writeD D n k xs).2 ∧ IsRDev H' (grow F H H') pd (writeD D n k xs).1 ∧ ExtP F H H' := by
  refine Fn_of_vc Try.mixed (vc_rdwrite _ _ _ _ _ _ _) ?_
  have hl : xs.length = len := by have := hs.at_.1; rw [bytesV_length] at this; omega
  have hlt := h.lt
  have hwl := hw.len
  have keep : IsRDev H (grow F H H) pd D := h.up (fun _ => .inl) (grow_lt hlt (Nat.le_refl _))
  have hwk := hw.works
  have hpf := hw.pfew
  have h' := h
  obtain ⟨ak0, ck0, ap0, cp0, h0⟩ := h'
  have bad : (¬ (0 ≤ k ∧ k < (n : Int)) ∨ xs.length ≠ 128) → Value.int .i64 1 = .int .i64 (writeD D n k xs).2 ∧ IsRDev H (grow F H H) pd (writeD D n k xs).1 ∧ ExtP F H H := fun hb => by
    have e : writeD D n k xs = (D, 1) := if_pos hb
    rw [e]
    exact ⟨rfl, keep, ExtP.refl _ _⟩
  refine ⟨fun h1 => bad (.inl (by omega)), fun h1 => ⟨_, _, rfl, ak0, _, ck0, h0.head.cell 0, fun h2 => bad (.inl (by omega)), fun h2 => ⟨fun h3 => bad (.inr (by omega)), fun h3 => ?_⟩⟩⟩
  have hk : 0 ≤ k ∧ k < n := by omega
  have hc : ¬ (¬ (0 ≤ k ∧ k < (n : Int)) ∨ xs.length ≠ 128) := by omega
  refine (rworks_ok h (by omega) hwk.1 hw.fuse).mono ?_
  rintro _ H7 ⟨rfl, hd7, hx7⟩
  have hs7 := hx7.size
  refine ⟨_, rfl, fun h4 => ?_, fun h4 => ?_⟩
  · have e2 : writeD D n k xs = ((wk D).1, 4) := by unfold writeD; rw [if_neg hc, h4]; rfl
    rw [e2]
    exact ⟨rfl, hd7.up (fun _ => .inl) (grow_lt hlt hs7), hx7⟩
  have e : (wk D).2 = true := eq_true_of_ne_false h4
  have e2 : writeD D n k xs = ({ (wk D).1 with pend := D.pend ++ [(k, xs)] }, 0) := by unfold writeD; rw [if_neg hc, e]; rfl
  rw [e2]
  obtain ⟨ak, ck, ap, cp, h7⟩ := hd7
  rw [(wk_kept D).1, (wk_kept D).2] at h7
  refine ⟨_, _, rfl, ap, _, cp, h7.head.cell 1, fun b14 H15 hn => ?_⟩
  have hx15 := hn.ext
  have e14 := hn.eq
  have s15 := hn.size
  have ho15 : Own H15 1 (some ⟨b14, 0, none⟩) 0 0 [] := ⟨rfl, Nat.le_refl _, by unfold maxLen; omega, .inr ⟨b14, [], rfl, hn.blk, rfl⟩⟩
  have hs15 := (hs _ hx7).ext hx15 (by simp)
  refine ⟨⟨(h7.head.ext hx15 (by simp)).cell 1, trivial⟩, [], bytesV xs, ho15.row 0 0, hs15, bytesV_one xs, by omega, fun hle => ho15.room (n := len) hle, ?_⟩
  intro a18 c19 H20 happ
  obtain ⟨q1, q2, q3⟩ := happ.own ho15 (ho15.row 0 0) hs15.1 rfl
  simp only [Nat.zero_add, List.nil_append] at q1 ⊢
  have hx720 : Ext [] H7 H20 := hx15.trans' q2 (fun i hi => by simp only [blkOf, List.mem_singleton] at hi; omega)
  have h20 := h7.grown hx720.toP (by simp)
  have hf9 : ∀ i, i ∈ blkOf a18 → calm (grow F H7 H20) pd ak none ap i := fun i hi => h7.calm_new (by
    rcases q3 i hi with h5 | h5
    · simp only [blkOf, List.mem_singleton] at h5; omega
    · omega) (q1.lt i hi)
  refine ⟨⟨h20.head.cell 1, trivial⟩, fun b21 H22 hn22 => ⟨⟨(h20.head.ext hn22.ext (by simp)).cell 1, trivial⟩, ?_⟩⟩
  refine h20.sp.push (v := [.int .i64 k, .slice a18 len c19]) (x := (k, xs)) (fun i hi => hi.2.2.2.2) ⟨a18, len, c19, rfl, q1.row _ _, q1.lt⟩ (fun i hi => hf9 i hi) rfl (by omega) ?_ b21 H22 hn22
  intro a25 c26 H27 hs27 hx27 hk27
  have h27 := h20.swapP hx27.toP (fun i hi => hi) (pend' := D.pend ++ [(k, xs)]) (by rw [List.length_append]; exact hs27) hk27
  refine ⟨_, _, rfl, h27.head.cells 1 1 (by simp), fun H30 hp => ?_⟩
  obtain ⟨h30, hx30⟩ := h27.poke hp (by simp)
  have s20 := hx720.size
  have s27 := hx27.size
  have s30 := hx30.size
  refine ⟨trivial, ⟨ak, ck, a25, c26, ?_⟩, ?_⟩
  · have h31 := h30.up (F' := grow F H H30) (fun i hi => by
      rcases hi with (hi | hi) | hi
      · exact .inl hi
      · exact .inr ⟨by omega, by omega⟩
      · exact .inr ⟨by omega, by omega⟩) (grow_lt hlt (by omega))
    simp only [(wk_kept D).1, List.length_append]
    exact h31
  · refine ((hx7.trans' hx720.toP (by simp)).trans' hx27.toP ?_).trans' hx30.toP ?_
    · intro i hi; exact .inr (h7.fp i hi)
    · intro i hi; simp only [List.mem_singleton] at hi; subst hi; exact .inr h7.fh

theorem rdcrash_ok {H : Heap} {F : Nat → Prop} {pd : Nat} {D : Dev} {n B : Nat} (h : IsRDev H F pd D) (hw : D.Wf n B) (hB : B ≤ 1000000000) {a : Option Addr} {len cap : Nat} {ms : Bytes} (hs : KeptB F H a len cap ms) :
    Does Try.prog 24 [.pointer (some ⟨pd, 0, none⟩), .slice a len cap] H fun v H' => v = .tuple #[] ∧ IsRDev H' (grow F H H') pd (crashD D ms) ∧ ExtP F H H' := by
  refine Fn_of_vc Try.mixed (vc_rdcrash _ _ _ _ _ _) ?_
  have hlt := h.lt
  have hml : ms.length = len := by have := hs.at_.1; rw [bytesV_length] at this; omega
  obtain ⟨ak, ck, ap, cp, h⟩ := h
  have hpd := h.fh
  have hpf := hw.pfew
  have hfew := hw.few
  let T : Nat → Heap → Prop := fun j H' => ExtP F H H' ∧ ∃ ak' ck', Three H' (grow F H H') pd [.slice ak' D.kept.length ck', .slice ap D.pend.length cp, .int .i64 D.fuse, .bool D.dead, .int .i64 D.works] ak' ck' (crashL ms (D.pend.take j) 0 D.kept) none 0 [] ap cp D.pend
  refine ⟨fun i H' => ∃ j : Nat, i = j ∧ j ≤ D.pend.length ∧ T j H', fun i _ => D.pend.length - i.toNat, ⟨0, rfl, Nat.zero_le _, ExtP.refl _ _, ak, ck, h.up (fun _ => .inl) (grow_lt hlt (Nat.le_refl _))⟩, ?_⟩
  rintro _ H4 ⟨j, rfl, hj, hx4, ak', ck', h4⟩
  have s4 := hx4.size
  refine ⟨_, _, rfl, ap, _, cp, h4.head.cell 1, fun h1 => ?_, fun h1 => ?_⟩
  · obtain ⟨w, hwj⟩ : ∃ w, D.pend[j]? = some w := ⟨_, List.getElem?_eq_getElem (by omega)⟩
    obtain ⟨b11, o12, v, eb, hc, ⟨a14, l15, c16, rfl, hr, hlt14⟩, hf⟩ := h4.sp.get hwj
    have hpin := hw.pin w (List.mem_of_getElem? hwj)
    have hkl : (crashL ms (D.pend.take j) 0 D.kept).length = D.kept.length := crashL_length _ _ _ _
    have hnext : crashL ms (D.pend.take (j + 1)) 0 D.kept = if mbit ms j then (crashL ms (D.pend.take j) 0 D.kept).set w.1.toNat w.2 else crashL ms (D.pend.take j) 0 D.kept := by
      rw [take_snoc hwj, crashL_snoc, Nat.zero_add, List.length_take, Nat.min_eq_left (by omega)]
    have no : mbit ms j = false → T (j + 1) H4 := fun hm => ⟨hx4, ak', ck', by rw [hnext, hm]; exact h4⟩
    refine ⟨T (j + 1), ⟨by decide, fun q hq => ?_⟩, ?_⟩
    · rw [wrap_tdiv (by omega) (by decide) (by omega)] at hq
      refine ⟨fun h2 => ⟨by decide, fun q2 hq2 => ?_⟩, fun h2 => no (by rw [mbit, decide_eq_false (by omega)]; rfl)⟩
      rw [wrap_tdiv (by omega) (by decide) (by omega)] at hq2
      have e1 : q2.toNat = j / 8 := by omega
      obtain ⟨b, o, ea, hcb⟩ := (hs _ hx4).get (bytesV_get ms (j / 8) (by omega))
      refine ⟨by omega, by omega, b, o, ea, _, by rw [e1]; exact hcb, by decide, fun q6 hq6 q7 hq7 => ?_⟩
      rw [tmod_pos (by omega)] at hq6
      have e7 : q7 = q6 := by
        rw [hq7]
        simp only [IntKind.wrap, IntKind.bits, IntKind.signed]
        simp only [Bool.false_and, Bool.false_eq_true, if_false]
        omega
      subst e7
      refine ⟨by omega, ?_⟩
      rintro _ rfl _ rfl
      have hb := one_byte (ms.getD (j / 8) 0) q7 (by omega) (by omega)
      have e8 : q7.toNat = j % 8 := by omega
      have em : mbit ms j = (ms.getD (j / 8) 0).toNat.testBit (j % 8) := by rw [mbit, decide_eq_true (by omega)]; rfl
      rw [e8] at hb ⊢
      refine ⟨fun h3 => ?_, fun h3 => no ?_⟩
      · have hm : mbit ms j = true := by rw [em]; exact hb.1 h3
        refine ⟨_, _, rfl, ap, _, cp, h4.head.cell 1, by omega, h1, b11, o12, eb, w.1, hc 0 _ rfl, a14, l15, c16, hc 1 _ rfl, ?_⟩
        refine (rkeep_ok h4 (by rw [hkl]; rfl) (by rw [hkl, hw.len]; exact hfew) ⟨a14, l15, c16, rfl, hr, hlt14⟩ hf ⟨hpin.1, by rw [hkl, hw.len]; exact hpin.2.1⟩).mono ?_
        rintro _ H25 ⟨rfl, ak2, ck2, h25, hx25⟩
        have s25 := hx25.size
        refine ⟨rfl, hx4.trans' hx25.toP (fun i hi => by simp only [List.mem_singleton] at hi; subst hi; exact .inr hpd), ak2, ck2, ?_⟩
        rw [hnext, hm]
        rw [hkl] at h25
        exact h25.up (grow_sub s4 s25) (grow_lt hlt (by omega))
      · rw [em]
        cases hh : (ms.getD (j / 8) 0).toNat.testBit (j % 8) with
        | false => rfl
        | true => exact absurd (hb.2 hh) h3
    · rintro H33 hT
      exact ⟨⟨by omega, by omega⟩, ⟨j + 1, by omega, by omega, hT⟩, by dsimp only; omega⟩
  · have ej : j = D.pend.length := by omega
    subst ej
    rw [List.take_length] at h4
    have hkl : (crashL ms D.pend 0 D.kept).length = D.kept.length := crashL_length _ _ _ _
    have h4' := h4.swapP (ExtP.refl (fun _ => False) H4) (by simp) (Seq.nil _ _ _) (ap' := none) (cp' := 0) (pend' := []) (fun k hk => by cases hk)
    refine ⟨_, _, rfl, h4'.head.cells 1 1 (by simp), fun H36 hp1 => ?_⟩
    obtain ⟨h36, hx36⟩ := h4'.poke hp1 (by simp)
    refine ⟨_, _, rfl, h36.head.cells 1 3 (by simp), fun H39 hp2 => ?_⟩
    obtain ⟨h39, hx39⟩ := h36.poke hp2 (by simp)
    refine ⟨_, _, rfl, h39.head.cells 1 2 (by simp), fun H42 hp3 => ?_⟩
    obtain ⟨h42, hx42⟩ := h39.poke hp3 (by simp)
    have s36 := hx36.size
    have s39 := hx39.size
    have s42 := hx42.size
    refine ⟨rfl, ⟨ak', ck', none, 0, ?_⟩, ?_⟩
    · have e2 : (crashD D ms).kept = crashL ms D.pend 0 D.kept := rfl
      rw [e2, hkl]
      refine h42.up (fun i hi => ?_) (grow_lt hlt (by omega))
      rcases hi with (hi | hi) | hi
      · exact .inl hi
      · exact .inr ⟨by omega, by omega⟩
      · exact .inr ⟨by omega, by omega⟩
    · refine ((hx4.trans' hx36.toP ?_).trans' hx39.toP ?_).trans' hx42.toP ?_ <;> (intro i hi; simp only [List.mem_singleton] at hi; subst hi; exact .inr hpd)

theorem laid_append (kept : List Bytes) (p q : List (Int × Bytes)) : laid kept (p ++ q) = laid (laid kept p) q := by
  unfold laid; rw [List.foldl_append]

theorem laid_none {k : Int} (hk : 0 ≤ k) : ∀ (p : List (Int × Bytes)) (kept : List Bytes), (∀ w ∈ p, 0 ≤ w.1 ∧ w.1 ≠ k) → (laid kept p)[k.toNat]? = kept[k.toNat]?
  | [], kept, _ => rfl
  | w :: r, kept, h => by
    have e : laid kept (w :: r) = laid (kept.set w.1.toNat w.2) r := rfl
    have hw := h w (by simp)
    rw [e, laid_none hk r _ (fun x hx => h x (by simp [hx])), List.getElem?_set_ne (by omega)]

theorem laid_last {k : Int} (hk : 0 ≤ k) {kept : List Bytes} (hl : k.toNat < kept.length) {p : List (Int × Bytes)} (hp : ∀ w ∈ p, 0 ≤ w.1) {i : Nat} {w : Int × Bytes} (hi : p[i]? = some w) (hw : w.1 = k) (hn : ∀ (j : Nat) x, i < j → p[j]? = some x → x.1 ≠ k) : (laid kept p)[k.toNat]? = some w.2 := by
  have e : p = p.take (i + 1) ++ p.drop (i + 1) := (List.take_append_drop _ _).symm
  rw [e, take_snoc hi, laid_append, laid_none hk, laid_snoc, hw, List.getElem?_set_self (by rw [laid_length]; exact hl)]
  intro x hx
  obtain ⟨j, hj⟩ := List.mem_iff_getElem?.1 hx
  rw [List.getElem?_drop] at hj
  exact ⟨hp x (List.mem_of_getElem? hj), hn _ x (by omega) hj⟩

theorem rdread_ok {H : Heap} {F : Nat → Prop} {pd : Nat} {D : Dev} {n B : Nat} (h : IsRDev H F pd D) (hw : D.Wf n B) (hB : B ≤ 1000000000) (k : Int) :
    Does Try.prog 30 [.pointer (some ⟨pd, 0, none⟩), .int .i64 k] H fun v H' => H = H' ∧
      ((¬ (0 ≤ k ∧ k < n) ∧ v = .tuple #[.slice none 0 0, .int .i64 1]) ∨ ((0 ≤ k ∧ k < n) ∧ D.dead = true ∧ v = .tuple #[.slice none 0 0, .int .i64 4]) ∨
        ((0 ≤ k ∧ k < n) ∧ D.dead = false ∧ ∃ a c xs, D.now[k.toNat]? = some xs ∧ v = .tuple #[.slice a xs.length c, .int .i64 0] ∧ SRow H 1 xs.length (.slice a xs.length c) (bytesV xs) ∧ ∀ i, i ∈ blkOf a → F i)) := by
  refine Fn_of_vc Try.mixed (vc_rdread _ _ _ _) ?_
  have hl := hw.len
  have hpf := hw.pfew
  obtain ⟨ak, ck, ap, cp, h⟩ := h
  refine ⟨fun h1 => ⟨rfl, .inl ⟨by omega, rfl⟩⟩, fun h1 => ⟨_, _, rfl, ak, _, ck, h.head.cell 0, fun h2 => ⟨rfl, .inl ⟨by omega, rfl⟩⟩, fun h2 => ?_⟩⟩
  have hk : 0 ≤ k ∧ k < n := by omega
  refine ⟨_, _, rfl, D.dead, h.head.cell 3, fun h3 => ⟨rfl, .inr (.inl ⟨hk, h3, rfl⟩)⟩, fun h3 => ?_⟩
  refine ⟨_, _, rfl, ap, _, cp, h.head.cell 1, ⟨by omega, by omega⟩, ?_⟩
  refine ⟨fun i H' => H = H' ∧ ∃ j : Nat, i = (j : Int) - 1 ∧ j ≤ D.pend.length ∧ ∀ (i : Nat) x, j ≤ i → D.pend[i]? = some x → x.1 ≠ k, fun i _ => (i + 1).toNat, ⟨rfl, D.pend.length, rfl, Nat.le_refl _, fun i x hi hx => by
    have := (List.getElem?_eq_some_iff.1 hx).1; omega⟩, ?_⟩
  rintro _ _ ⟨rfl, j, rfl, hj, hno⟩
  have hgood : ∀ {a : Option Addr} {m c : Nat} {xs : Bytes}, D.now[k.toNat]? = some xs → SRow H 1 m (.slice a m c) (bytesV xs) → (∀ i, i ∈ blkOf a → F i) → (H = H ∧ ((¬ (0 ≤ k ∧ k < (n : Int)) ∧ Value.tuple #[.slice a m c, .int .i64 0] = .tuple #[.slice none 0 0, .int .i64 1]) ∨ ((0 ≤ k ∧ k < (n : Int)) ∧ D.dead = true ∧ Value.tuple #[.slice a m c, .int .i64 0] = .tuple #[.slice none 0 0, .int .i64 4]) ∨
        ((0 ≤ k ∧ k < (n : Int)) ∧ D.dead = false ∧ ∃ a' c' xs, D.now[k.toNat]? = some xs ∧ Value.tuple #[.slice a m c, .int .i64 0] = .tuple #[.slice a' xs.length c', .int .i64 0] ∧ SRow H 1 xs.length (.slice a' xs.length c') (bytesV xs) ∧ ∀ i, i ∈ blkOf a' → F i))) := by
    intro a m c xs h4 h5 h6
    have hm : xs.length = m := by have := h5.1; rw [bytesV_length] at this; omega
    subst hm
    exact ⟨rfl, .inr (.inr ⟨hk, h3, a, c, xs, h4, rfl, h5, h6⟩)⟩
  refine ⟨fun h4 => ?_, fun h4 => ?_⟩
  · have e1 : ((j : Int) - 1).toNat = j - 1 := by omega
    obtain ⟨w, hwj⟩ : ∃ w, D.pend[j - 1]? = some w := ⟨_, List.getElem?_eq_getElem (by omega)⟩
    obtain ⟨b11, o12, v, eb, hc, ⟨a14, l15, c16, rfl, hr, _⟩, hf⟩ := h.sp.get hwj
    refine ⟨_, _, rfl, ap, _, cp, h.head.cell 1, h4, by omega, b11, o12, eb, w.1, by rw [e1]; exact hc 0 _ rfl, fun h5 => ?_, fun h5 => ?_⟩
    · refine ⟨_, _, rfl, ap, _, cp, h.head.cell 1, h4, by omega, b11, o12, eb, a14, l15, c16, by rw [e1]; exact hc 1 _ rfl, ?_⟩
      refine hgood (laid_last hk.1 (by omega) (fun w hw' => (hw.pin w hw').1) hwj h5 (fun i x hi hx => hno i x (by omega) hx)) hr (fun i hi => (hf i hi).1)
    · refine ⟨⟨by omega, by omega⟩, ⟨rfl, j - 1, by omega, by omega, fun i x hi hx => ?_⟩, by dsimp only; omega⟩
      by_cases ei : i = j - 1
      · subst ei
        rw [hwj] at hx
        cases hx
        exact h5
      · exact hno i x (by omega) hx
  · have ej : j = 0 := by omega
    subst ej
    obtain ⟨xs, hxs⟩ : ∃ xs, D.kept[k.toNat]? = some xs := ⟨_, List.getElem?_eq_getElem (by omega)⟩
    obtain ⟨b, o, u, ea, hc, ⟨a, m, c, eu, hr, _⟩, hf⟩ := h.sk.get1 rfl hxs
    cases eu
    refine ⟨_, _, rfl, ak, _, ck, h.head.cell 0, hk.1, by omega, b, o, ea, a, m, c, hc, ?_⟩
    refine hgood ?_ hr (fun i hi => (hf i hi).1)
    rw [← hxs]
    refine laid_none hk.1 _ _ (fun w hw' => ⟨(hw.pin w hw').1, ?_⟩)
    obtain ⟨i, hi⟩ := List.mem_iff_getElem?.1 hw'
    exact hno i w (Nat.zero_le _) hi

/-! ### A block of one byte -/

def blockB (c : UInt8) : Bytes := List.replicate 128 c

theorem block_ok (c : UInt8) (H : Heap) : Does Try.prog 18 [.int .u8 c.toNat] H fun v H' => ∃ b, v = .slice (some ⟨b, 0, none⟩) 128 128 ∧ Own H' 1 (some ⟨b, 0, none⟩) 128 128 (bytesV (blockB c)) ∧ Ext [] H H' ∧ H.size ≤ b := by
  refine Fn_of_vc Try.mixed (vc_block _ _ _) ?_
  refine ⟨by decide, by decide, by decide, fun b1 H2 hn => ?_⟩
  have e128 : Int.toNat 128 = 128 := rfl
  rw [e128] at hn
  have hb1 := hn.eq
  refine ⟨fun i H' => ∃ j : Nat, i = j ∧ j ≤ 128 ∧ Ext [] H H' ∧ Blk H' b1 (bytesV (List.replicate j c ++ List.replicate (128 - j) 0)), fun i _ => 128 - i.toNat, ⟨0, rfl, by decide, hn.ext, by
    have := hn.blk
    rw [← zerosV] at this
    exact this⟩, ?_⟩
  rintro _ H6 ⟨j, rfl, hj, hx6, hb6⟩
  refine ⟨fun h1 => ?_, fun h1 => ?_⟩
  · rw [e128] at h1 ⊢
    refine ⟨by omega, h1, b1, 0, rfl, hb6.cells 1 _ (by rw [bytesV_length]; simp; omega), fun H9 hp => ?_⟩
    have hb9 := hp.blk hb6 (by rw [bytesV_length]; simp; omega)
    refine ⟨⟨by omega, by omega⟩, ⟨j + 1, by omega, by omega, hx6.trans' hp.ext (fun i hi => by simp only [List.mem_singleton] at hi; omega), ?_⟩, by dsimp only; omega⟩
    rw [splice_one _ _ _ (by rw [bytesV_length]; simp; omega), Nat.zero_add, Int.toNat_natCast, ← bytesV_set] at hb9
    have : (List.replicate j c ++ List.replicate (128 - j) (0 : UInt8)).set j c = List.replicate (j + 1) c ++ List.replicate (128 - (j + 1)) 0 := by
      rw [List.set_append_right _ _ (by simp), List.length_replicate, Nat.sub_self, show 128 - j = (128 - (j + 1)) + 1 by omega, List.replicate_succ, List.set_cons_zero, replicate_snoc, List.append_assoc]
      rfl
    rw [this] at hb9
    exact hb9
  · have ej : j = 128 := by rw [e128] at h1; omega
    subst ej
    refine ⟨b1, rfl, ?_, hx6, by omega⟩
    have e : List.replicate 128 c ++ List.replicate (128 - 128) (0 : UInt8) = blockB c := by simp [blockB]
    rw [e] at hb6
    exact ⟨by rw [bytesV_length]; simp [blockB], Nat.le_refl _, by unfold maxLen; omega, .inr ⟨b1, [], rfl, by simpa using hb6, by rw [List.append_nil, bytesV_length]; simp [blockB]⟩⟩

end Go.Proofs
end

section
open Go Go.Vc
namespace Go.Proofs
set_option maxRecDepth 100000
/-- pentimento/pentimentolaw4.DevSubsets -/
theorem vc_dsubsets (x0 : Option Addr) (x0l : Nat) (x0c : Nat) (x1 : Int) (x2 : Option Addr) (x2l : Nat) (x2c : Nat) (H : Heap) (R : Value → Heap → Prop) : Walk Try.prog 3 [(15, [(11, (.int .i64 0))]), (21, [])] [(.slice x0 x0l x0c), (.int .i64 x1), (.slice x2 x2l x2c)] H R = (
  Does Try.prog 13 [(.int .i64 9)] H fun v1 H2 => ∃ p3 : Option Addr, ∃ n4 : Int, v1 = (.tuple #[(.pointer p3), (.int .i64 n4)]) ∧ (
    Does Try.prog 14 [] H2 fun v5 H6 => ∃ t7 : Bool, v5 = (.bool t7) ∧ (
      (((t7 = false) → (
            R (.bool false) H6)) ∧ (¬ (t7 = false) → (
            ((((n4 : Int) ≠ 0) → (
                  R (.bool false) H6)) ∧ (¬ ((n4 : Int) ≠ 0) → (
                  ((((p3 : Option Addr) = none) → (
                        R (.bool false) H6)) ∧ (¬ ((p3 : Option Addr) = none) → (
                        ∀ b8 : Nat, ∀ H9 : Heap, New H6 b8 [(.int .u8 0), (.int .u8 0), (.int .u8 0), (.int .u8 0), (.int .u8 0), (.int .u8 0), (.int .u8 0), (.int .u8 0), (.int .u8 0)] 29 H9 → (
                          (In64 ((min (x0l : Int) 40) + 1)) ∧
                          Does Try.prog 15 [(.int .i64 x1), (.int .i64 ((min (x0l : Int) 40) + 1))] H9 fun v10 H11 => ∃ n12 : Int, v10 = (.int .i64 n12) ∧ (
                            ∃ I13 : Int → Int → Heap → Prop, ∃ μ14 : Int → Int → Heap → Nat, (I13 0 0 H11) ∧
                            ∀ n15 : Int, ∀ n16 : Int, ∀ H17 : Heap, I13 n15 n16 H17 → (
                              ((((n16 : Int) < (min (x0l : Int) 40)) → (
                                    ∃ I18 : Int → Heap → Prop, (
                                      ((((n16 : Int) = n12) → (
                                            Does Try.prog 16 [(.pointer p3)] H17 fun v19 H20 => ∃ n21 : Int, v19 = (.int .i64 n21) ∧ (
                                              ((((n21 : Int) ≠ 0) → (
                                                    R (.bool false) H20)) ∧ (¬ ((n21 : Int) ≠ 0) → (
                                                    I18 0 H20)))))) ∧ (¬ ((n16 : Int) = n12) → (
                                            I18 n15 H17)))) ∧
                                    ∀ n22 : Int, ∀ H23 : Heap, I18 n22 H23 → (
                                      (0 : Int) ≤ n16 ∧ (n16 : Int) < (x0l : Int) ∧ ∃ b24 o25 : Nat, x0 = some (⟨b24, o25, none⟩ : Addr) ∧ (
                                        ∃ n26 : Int, hcell H23 b24 ((o25 + (Int.toNat n16) * 4) + 1) = some (.int .i64 n26) ∧ (
                                          Does Try.prog 15 [(.int .i64 n26), (.int .i64 9)] H23 fun v27 H28 => ∃ n29 : Int, v27 = (.int .i64 n29) ∧ (
                                            (0 : Int) ≤ n16 ∧ (n16 : Int) < (x0l : Int) ∧ ∃ b30 o31 : Nat, x0 = some (⟨b30, o31, none⟩ : Addr) ∧ (
                                              ∃ n32 : Int, hcell H28 b30 ((o31 + (Int.toNat n16) * 4) + 2) = some (.int .i64 n32) ∧ (
                                                Does Try.prog 15 [(.int .i64 n32), (.int .i64 255)] H28 fun v33 H34 => ∃ n35 : Int, v33 = (.int .i64 n35) ∧ (
                                                  (In64 (1 + n35)) ∧
                                                  ∀ q36 : Int, q36 = IntKind.wrap .u8 (1 + n35) → (
                                                    Does Try.prog 18 [(.int .u8 q36)] H34 fun v37 H38 => ∃ a39 : Option Addr, ∃ l40 : Nat, ∃ c41 : Nat, v37 = (.slice a39 l40 c41) ∧ (
                                                      Does Try.prog 17 [(.pointer p3), (.int .i64 n29), (.slice a39 l40 c41)] H38 fun v42 H43 => ∃ n44 : Int, v42 = (.int .i64 n44) ∧ (
                                                        ((((n44 : Int) ≠ 0) → (
                                                            R (.bool false) H43)) ∧ (¬ ((n44 : Int) ≠ 0) → (
                                                            ∃ I45 : Heap → Prop, (
                                                            ((((n16 : Int) < n12) → (
                                                            ((((n12 : Int) < (min (x0l : Int) 40)) → (
                                                            (0 : Int) ≤ n29 ∧ (n29 : Int) < (9 : Nat) ∧ (
                                                            Cells H43 b8 (0 + (Int.toNat n29)) 1 ∧ ∀ H46 : Heap, Puts H43 b8 (0 + (Int.toNat n29)) [(.int .u8 q36)] H46 → (
                                                            I45 H46)))) ∧ (¬ ((n12 : Int) < (min (x0l : Int) 40)) → (
                                                            ((((n12 : Int) ≤ n16) → (
                                                            ((8 : Int) ≠ 0) ∧
                                                            ∀ q47 : Int, q47 = IntKind.wrap .i64 (Int.tdiv n22 8) → (
                                                            ((((q47 : Int) < (x2l : Int)) → (
                                                            ((8 : Int) ≠ 0) ∧
                                                            ∀ q48 : Int, q48 = IntKind.wrap .i64 (Int.tdiv n22 8) → (
                                                            (0 : Int) ≤ q48 ∧ (q48 : Int) < (x2l : Int) ∧ ∃ b49 o50 : Nat, x2 = some (⟨b49, o50, none⟩ : Addr) ∧ (
                                                            ∃ n51 : Int, hcell H43 b49 (o50 + (Int.toNat q48)) = some (.int .u8 n51) ∧ (
                                                            ((8 : Int) ≠ 0) ∧
                                                            ∀ q52 : Int, q52 = Int.tmod n22 8 → (
                                                            ((0 : Int) ≤ q52) ∧
                                                            ∀ q53 : Int, q53 = Int.fdiv n51 (2 ^ (min q52.toNat (IntKind.bits .u8))) → (
                                                            ∀ q54 : Int, q54 = bits .and .u8 q53 1 → (
                                                            ((((q54 : Int) = 1) → (
                                                            (0 : Int) ≤ n29 ∧ (n29 : Int) < (9 : Nat) ∧ (
                                                            Cells H43 b8 (0 + (Int.toNat n29)) 1 ∧ ∀ H55 : Heap, Puts H43 b8 (0 + (Int.toNat n29)) [(.int .u8 q36)] H55 → (
                                                            I45 H55)))) ∧ (¬ ((q54 : Int) = 1) → (
                                                            (((((min (x0l : Int) 40) : Int) ≤ n12) → (
                                                            ((8 : Int) ≠ 0) ∧
                                                            ∀ q56 : Int, q56 = IntKind.wrap .i64 (Int.tdiv n22 8) → (
                                                            ((((q56 : Int) < (x2l : Int)) → (
                                                            ((8 : Int) ≠ 0) ∧
                                                            ∀ q57 : Int, q57 = IntKind.wrap .i64 (Int.tdiv n22 8) → (
                                                            (0 : Int) ≤ q57 ∧ (q57 : Int) < (x2l : Int) ∧ ∃ b58 o59 : Nat, x2 = some (⟨b58, o59, none⟩ : Addr) ∧ (
                                                            ∃ n60 : Int, hcell H43 b58 (o59 + (Int.toNat q57)) = some (.int .u8 n60) ∧ (
                                                            ((8 : Int) ≠ 0) ∧
                                                            ∀ q61 : Int, q61 = Int.tmod n22 8 → (
                                                            ((0 : Int) ≤ q61) ∧
                                                            ∀ q62 : Int, q62 = Int.fdiv n60 (2 ^ (min q61.toNat (IntKind.bits .u8))) → (
                                                            ∀ q63 : Int, q63 = bits .and .u8 q62 1 → (
                                                            ((((q63 : Int) = 1) → (
                                                            (0 : Int) ≤ n29 ∧ (n29 : Int) < (9 : Nat) ∧ (
                                                            Cells H43 b8 (0 + (Int.toNat n29)) 1 ∧ ∀ H64 : Heap, Puts H43 b8 (0 + (Int.toNat n29)) [(.int .u8 q36)] H64 → (
                                                            I45 H64)))) ∧ (¬ ((q63 : Int) = 1) → (
                                                            I45 H43))))))))))) ∧ (¬ ((q56 : Int) < (x2l : Int)) → (
                                                            I45 H43)))))) ∧ (¬ (((min (x0l : Int) 40) : Int) ≤ n12) → (
                                                            I45 H43)))))))))))))) ∧ (¬ ((q47 : Int) < (x2l : Int)) → (
                                                            (((((min (x0l : Int) 40) : Int) ≤ n12) → (
                                                            ((8 : Int) ≠ 0) ∧
                                                            ∀ q65 : Int, q65 = IntKind.wrap .i64 (Int.tdiv n22 8) → (
                                                            ((((q65 : Int) < (x2l : Int)) → (
                                                            ((8 : Int) ≠ 0) ∧
                                                            ∀ q66 : Int, q66 = IntKind.wrap .i64 (Int.tdiv n22 8) → (
                                                            (0 : Int) ≤ q66 ∧ (q66 : Int) < (x2l : Int) ∧ ∃ b67 o68 : Nat, x2 = some (⟨b67, o68, none⟩ : Addr) ∧ (
                                                            ∃ n69 : Int, hcell H43 b67 (o68 + (Int.toNat q66)) = some (.int .u8 n69) ∧ (
                                                            ((8 : Int) ≠ 0) ∧
                                                            ∀ q70 : Int, q70 = Int.tmod n22 8 → (
                                                            ((0 : Int) ≤ q70) ∧
                                                            ∀ q71 : Int, q71 = Int.fdiv n69 (2 ^ (min q70.toNat (IntKind.bits .u8))) → (
                                                            ∀ q72 : Int, q72 = bits .and .u8 q71 1 → (
                                                            ((((q72 : Int) = 1) → (
                                                            (0 : Int) ≤ n29 ∧ (n29 : Int) < (9 : Nat) ∧ (
                                                            Cells H43 b8 (0 + (Int.toNat n29)) 1 ∧ ∀ H73 : Heap, Puts H43 b8 (0 + (Int.toNat n29)) [(.int .u8 q36)] H73 → (
                                                            I45 H73)))) ∧ (¬ ((q72 : Int) = 1) → (
                                                            I45 H43))))))))))) ∧ (¬ ((q65 : Int) < (x2l : Int)) → (
                                                            I45 H43)))))) ∧ (¬ (((min (x0l : Int) 40) : Int) ≤ n12) → (
                                                            I45 H43))))))))) ∧ (¬ ((n12 : Int) ≤ n16) → (
                                                            (((((min (x0l : Int) 40) : Int) ≤ n12) → (
                                                            ((8 : Int) ≠ 0) ∧
                                                            ∀ q74 : Int, q74 = IntKind.wrap .i64 (Int.tdiv n22 8) → (
                                                            ((((q74 : Int) < (x2l : Int)) → (
                                                            ((8 : Int) ≠ 0) ∧
                                                            ∀ q75 : Int, q75 = IntKind.wrap .i64 (Int.tdiv n22 8) → (
                                                            (0 : Int) ≤ q75 ∧ (q75 : Int) < (x2l : Int) ∧ ∃ b76 o77 : Nat, x2 = some (⟨b76, o77, none⟩ : Addr) ∧ (
                                                            ∃ n78 : Int, hcell H43 b76 (o77 + (Int.toNat q75)) = some (.int .u8 n78) ∧ (
                                                            ((8 : Int) ≠ 0) ∧
                                                            ∀ q79 : Int, q79 = Int.tmod n22 8 → (
                                                            ((0 : Int) ≤ q79) ∧
                                                            ∀ q80 : Int, q80 = Int.fdiv n78 (2 ^ (min q79.toNat (IntKind.bits .u8))) → (
                                                            ∀ q81 : Int, q81 = bits .and .u8 q80 1 → (
                                                            ((((q81 : Int) = 1) → (
                                                            (0 : Int) ≤ n29 ∧ (n29 : Int) < (9 : Nat) ∧ (
                                                            Cells H43 b8 (0 + (Int.toNat n29)) 1 ∧ ∀ H82 : Heap, Puts H43 b8 (0 + (Int.toNat n29)) [(.int .u8 q36)] H82 → (
                                                            I45 H82)))) ∧ (¬ ((q81 : Int) = 1) → (
                                                            I45 H43))))))))))) ∧ (¬ ((q74 : Int) < (x2l : Int)) → (
                                                            I45 H43)))))) ∧ (¬ (((min (x0l : Int) 40) : Int) ≤ n12) → (
                                                            I45 H43))))))))))) ∧ (¬ ((n16 : Int) < n12) → (
                                                            ((((n12 : Int) ≤ n16) → (
                                                            ((8 : Int) ≠ 0) ∧
                                                            ∀ q83 : Int, q83 = IntKind.wrap .i64 (Int.tdiv n22 8) → (
                                                            ((((q83 : Int) < (x2l : Int)) → (
                                                            ((8 : Int) ≠ 0) ∧
                                                            ∀ q84 : Int, q84 = IntKind.wrap .i64 (Int.tdiv n22 8) → (
                                                            (0 : Int) ≤ q84 ∧ (q84 : Int) < (x2l : Int) ∧ ∃ b85 o86 : Nat, x2 = some (⟨b85, o86, none⟩ : Addr) ∧ (
                                                            ∃ n87 : Int, hcell H43 b85 (o86 + (Int.toNat q84)) = some (.int .u8 n87) ∧ (
                                                            ((8 : Int) ≠ 0) ∧
                                                            ∀ q88 : Int, q88 = Int.tmod n22 8 → (
                                                            ((0 : Int) ≤ q88) ∧
                                                            ∀ q89 : Int, q89 = Int.fdiv n87 (2 ^ (min q88.toNat (IntKind.bits .u8))) → (
                                                            ∀ q90 : Int, q90 = bits .and .u8 q89 1 → (
                                                            ((((q90 : Int) = 1) → (
                                                            (0 : Int) ≤ n29 ∧ (n29 : Int) < (9 : Nat) ∧ (
                                                            Cells H43 b8 (0 + (Int.toNat n29)) 1 ∧ ∀ H91 : Heap, Puts H43 b8 (0 + (Int.toNat n29)) [(.int .u8 q36)] H91 → (
                                                            I45 H91)))) ∧ (¬ ((q90 : Int) = 1) → (
                                                            (((((min (x0l : Int) 40) : Int) ≤ n12) → (
                                                            ((8 : Int) ≠ 0) ∧
                                                            ∀ q92 : Int, q92 = IntKind.wrap .i64 (Int.tdiv n22 8) → (
                                                            ((((q92 : Int) < (x2l : Int)) → (
                                                            ((8 : Int) ≠ 0) ∧
                                                            ∀ q93 : Int, q93 = IntKind.wrap .i64 (Int.tdiv n22 8) → (
                                                            (0 : Int) ≤ q93 ∧ (q93 : Int) < (x2l : Int) ∧ ∃ b94 o95 : Nat, x2 = some (⟨b94, o95, none⟩ : Addr) ∧ (
                                                            ∃ n96 : Int, hcell H43 b94 (o95 + (Int.toNat q93)) = some (.int .u8 n96) ∧ (
                                                            ((8 : Int) ≠ 0) ∧
                                                            ∀ q97 : Int, q97 = Int.tmod n22 8 → (
                                                            ((0 : Int) ≤ q97) ∧
                                                            ∀ q98 : Int, q98 = Int.fdiv n96 (2 ^ (min q97.toNat (IntKind.bits .u8))) → (
                                                            ∀ q99 : Int, q99 = bits .and .u8 q98 1 → (
                                                            ((((q99 : Int) = 1) → (
                                                            (0 : Int) ≤ n29 ∧ (n29 : Int) < (9 : Nat) ∧ (
                                                            Cells H43 b8 (0 + (Int.toNat n29)) 1 ∧ ∀ H100 : Heap, Puts H43 b8 (0 + (Int.toNat n29)) [(.int .u8 q36)] H100 → (
                                                            I45 H100)))) ∧ (¬ ((q99 : Int) = 1) → (
                                                            I45 H43))))))))))) ∧ (¬ ((q92 : Int) < (x2l : Int)) → (
                                                            I45 H43)))))) ∧ (¬ (((min (x0l : Int) 40) : Int) ≤ n12) → (
                                                            I45 H43)))))))))))))) ∧ (¬ ((q83 : Int) < (x2l : Int)) → (
                                                            (((((min (x0l : Int) 40) : Int) ≤ n12) → (
                                                            ((8 : Int) ≠ 0) ∧
                                                            ∀ q101 : Int, q101 = IntKind.wrap .i64 (Int.tdiv n22 8) → (
                                                            ((((q101 : Int) < (x2l : Int)) → (
                                                            ((8 : Int) ≠ 0) ∧
                                                            ∀ q102 : Int, q102 = IntKind.wrap .i64 (Int.tdiv n22 8) → (
                                                            (0 : Int) ≤ q102 ∧ (q102 : Int) < (x2l : Int) ∧ ∃ b103 o104 : Nat, x2 = some (⟨b103, o104, none⟩ : Addr) ∧ (
                                                            ∃ n105 : Int, hcell H43 b103 (o104 + (Int.toNat q102)) = some (.int .u8 n105) ∧ (
                                                            ((8 : Int) ≠ 0) ∧
                                                            ∀ q106 : Int, q106 = Int.tmod n22 8 → (
                                                            ((0 : Int) ≤ q106) ∧
                                                            ∀ q107 : Int, q107 = Int.fdiv n105 (2 ^ (min q106.toNat (IntKind.bits .u8))) → (
                                                            ∀ q108 : Int, q108 = bits .and .u8 q107 1 → (
                                                            ((((q108 : Int) = 1) → (
                                                            (0 : Int) ≤ n29 ∧ (n29 : Int) < (9 : Nat) ∧ (
                                                            Cells H43 b8 (0 + (Int.toNat n29)) 1 ∧ ∀ H109 : Heap, Puts H43 b8 (0 + (Int.toNat n29)) [(.int .u8 q36)] H109 → (
                                                            I45 H109)))) ∧ (¬ ((q108 : Int) = 1) → (
                                                            I45 H43))))))))))) ∧ (¬ ((q101 : Int) < (x2l : Int)) → (
                                                            I45 H43)))))) ∧ (¬ (((min (x0l : Int) 40) : Int) ≤ n12) → (
                                                            I45 H43))))))))) ∧ (¬ ((n12 : Int) ≤ n16) → (
                                                            (((((min (x0l : Int) 40) : Int) ≤ n12) → (
                                                            ((8 : Int) ≠ 0) ∧
                                                            ∀ q110 : Int, q110 = IntKind.wrap .i64 (Int.tdiv n22 8) → (
                                                            ((((q110 : Int) < (x2l : Int)) → (
                                                            ((8 : Int) ≠ 0) ∧
                                                            ∀ q111 : Int, q111 = IntKind.wrap .i64 (Int.tdiv n22 8) → (
                                                            (0 : Int) ≤ q111 ∧ (q111 : Int) < (x2l : Int) ∧ ∃ b112 o113 : Nat, x2 = some (⟨b112, o113, none⟩ : Addr) ∧ (
                                                            ∃ n114 : Int, hcell H43 b112 (o113 + (Int.toNat q111)) = some (.int .u8 n114) ∧ (
                                                            ((8 : Int) ≠ 0) ∧
                                                            ∀ q115 : Int, q115 = Int.tmod n22 8 → (
                                                            ((0 : Int) ≤ q115) ∧
                                                            ∀ q116 : Int, q116 = Int.fdiv n114 (2 ^ (min q115.toNat (IntKind.bits .u8))) → (
                                                            ∀ q117 : Int, q117 = bits .and .u8 q116 1 → (
                                                            ((((q117 : Int) = 1) → (
                                                            (0 : Int) ≤ n29 ∧ (n29 : Int) < (9 : Nat) ∧ (
                                                            Cells H43 b8 (0 + (Int.toNat n29)) 1 ∧ ∀ H118 : Heap, Puts H43 b8 (0 + (Int.toNat n29)) [(.int .u8 q36)] H118 → (
                                                            I45 H118)))) ∧ (¬ ((q117 : Int) = 1) → (
                                                            I45 H43))))))))))) ∧ (¬ ((q110 : Int) < (x2l : Int)) → (
                                                            I45 H43)))))) ∧ (¬ (((min (x0l : Int) 40) : Int) ≤ n12) → (
                                                            I45 H43)))))))))) ∧
                                                            ∀ H119 : Heap, I45 H119 → (
                                                            (In64 (n22 + 1)) ∧
                                                            (In64 (n16 + 1)) ∧
                                                            (I13 (n22 + 1) (n16 + 1) H119) ∧ μ14 (n22 + 1) (n16 + 1) H119 < μ14 n15 n16 H17)))))))))))))))) ∧ (¬ ((n16 : Int) < (min (x0l : Int) 40)) → (
                                    Does Try.prog 19 [(.pointer p3), (.slice x2 x2l x2c)] H17 fun v120 H121 => v120 = (.tuple #[]) ∧ (
                                      ∃ I122 : Int → Heap → Prop, ∃ μ123 : Int → Heap → Nat, (I122 0 H121) ∧
                                      ∀ n124 : Int, ∀ H125 : Heap, I122 n124 H125 → (
                                        ((((n124 : Int) < 9) → (
                                              Does Try.prog 20 [(.pointer p3), (.int .i64 n124)] H125 fun v126 H127 => ∃ a128 : Option Addr, ∃ l129 : Nat, ∃ c130 : Nat, ∃ n131 : Int, v126 = (.tuple #[(.slice a128 l129 c130), (.int .i64 n131)]) ∧ (
                                                ((((n131 : Int) ≠ 0) → (
                                                      R (.bool false) H127)) ∧ (¬ ((n131 : Int) ≠ 0) → (
                                                      ∃ l132 : List UInt8, SRow H127 1 l129 (.slice a128 l129 c130) (List.map (fun (b : UInt8) => Value.int .u8 b.toNat) l132) ∧ (
                                                        (0 : Int) ≤ n124 ∧ (n124 : Int) < (9 : Nat) ∧ (
                                                          ∃ n133 : Int, hcell H127 b8 (0 + (Int.toNat n124)) = some (.int .u8 n133) ∧ (
                                                            Does Try.prog 18 [(.int .u8 n133)] H127 fun v134 H135 => ∃ a136 : Option Addr, ∃ l137 : Nat, ∃ c138 : Nat, v134 = (.slice a136 l137 c138) ∧ (
                                                            SRow H135 1 l129 (.slice a128 l129 c130) (List.map (fun (b : UInt8) => Value.int .u8 b.toNat) l132) ∧ (∃ l139 : List UInt8, SRow H135 1 l137 (.slice a136 l137 c138) (List.map (fun (b : UInt8) => Value.int .u8 b.toNat) l139) ∧ (
                                                            (((((ByteArray.mk (List.toArray l132)) : ByteArray) ≠ (ByteArray.mk (List.toArray l139))) → (
                                                            R (.bool false) H135)) ∧ (¬ (((ByteArray.mk (List.toArray l132)) : ByteArray) ≠ (ByteArray.mk (List.toArray l139))) → (
                                                            (In64 (n124 + 1)) ∧
                                                            (I122 (n124 + 1) H135) ∧ μ123 (n124 + 1) H135 < μ123 n124 H125))))))))))))))) ∧ (¬ ((n124 : Int) < 9) → (
                                              R (.bool true) H125))))))))))))))))))))))) := by kernel_rfl


/-- pentimento/pentimentolaw4.DevReads -/
theorem vc_dreads (x0 : Option Addr) (x0l : Nat) (x0c : Nat) (H : Heap) (R : Value → Heap → Prop) : Walk Try.prog 4 [(15, [])] [(.slice x0 x0l x0c)] H R = (
  Does Try.prog 13 [(.int .i64 12)] H fun v1 H2 => ∃ p3 : Option Addr, ∃ n4 : Int, v1 = (.tuple #[(.pointer p3), (.int .i64 n4)]) ∧ (
    Does Try.prog 14 [] H2 fun v5 H6 => ∃ t7 : Bool, v5 = (.bool t7) ∧ (
      (((t7 = false) → (
            R (.bool false) H6)) ∧ (¬ (t7 = false) → (
            ((((n4 : Int) ≠ 0) → (
                  R (.bool false) H6)) ∧ (¬ ((n4 : Int) ≠ 0) → (
                  ((((p3 : Option Addr) = none) → (
                        R (.bool false) H6)) ∧ (¬ ((p3 : Option Addr) = none) → (
                        ∀ b8 : Nat, ∀ H9 : Heap, New H6 b8 [(.int .u8 0), (.int .u8 0), (.int .u8 0), (.int .u8 0), (.int .u8 0), (.int .u8 0), (.int .u8 0), (.int .u8 0), (.int .u8 0), (.int .u8 0), (.int .u8 0), (.int .u8 0)] 40 H9 → (
                          ∃ I10 : Int → Heap → Prop, ∃ μ11 : Int → Heap → Nat, (I10 0 H9) ∧
                          ∀ n12 : Int, ∀ H13 : Heap, I10 n12 H13 → (
                            ((((n12 : Int) < (x0l : Int)) → (
                                  ((((n12 : Int) < 40) → (
                                        (0 : Int) ≤ n12 ∧ (n12 : Int) < (x0l : Int) ∧ ∃ b14 o15 : Nat, x0 = some (⟨b14, o15, none⟩ : Addr) ∧ (
                                          ∃ n16 : Int, hcell H13 b14 ((o15 + (Int.toNat n12) * 4) + 1) = some (.int .i64 n16) ∧ (
                                            Does Try.prog 15 [(.int .i64 n16), (.int .i64 12)] H13 fun v17 H18 => ∃ n19 : Int, v17 = (.int .i64 n19) ∧ (
                                              ∃ I20 : Heap → Prop, (
                                                (0 : Int) ≤ n12 ∧ (n12 : Int) < (x0l : Int) ∧ ∃ b21 o22 : Nat, x0 = some (⟨b21, o22, none⟩ : Addr) ∧ (
                                                  ∃ n23 : Int, hcell H18 b21 (o22 + (Int.toNat n12) * 4) = some (.int .i64 n23) ∧ (
                                                    ((5 : Int) ≠ 0) ∧
                                                    ∀ q24 : Int, q24 = Int.tmod n23 5 → (
                                                      ((((q24 : Int) = 0) → (
                                                            Does Try.prog 16 [(.pointer p3)] H18 fun v25 H26 => ∃ n27 : Int, v25 = (.int .i64 n27) ∧ (
                                                            ((((n27 : Int) ≠ 0) → (
                                                            R (.bool false) H26)) ∧ (¬ ((n27 : Int) ≠ 0) → (
                                                            Does Try.prog 21 [(.pointer p3)] H26 fun v28 H29 => ∃ n30 : Int, v28 = (.int .i64 n30) ∧ (
                                                            ((((n30 : Int) ≠ 0) → (
                                                            R (.bool false) H29)) ∧ (¬ ((n30 : Int) ≠ 0) → (
                                                            I20 H29)))))))))) ∧ (¬ ((q24 : Int) = 0) → (
                                                            (0 : Int) ≤ n12 ∧ (n12 : Int) < (x0l : Int) ∧ ∃ b31 o32 : Nat, x0 = some (⟨b31, o32, none⟩ : Addr) ∧ (
                                                            ∃ n33 : Int, hcell H18 b31 ((o32 + (Int.toNat n12) * 4) + 2) = some (.int .i64 n33) ∧ (
                                                            ∀ q34 : Int, q34 = IntKind.wrap .u8 n33 → (
                                                            Does Try.prog 18 [(.int .u8 q34)] H18 fun v35 H36 => ∃ a37 : Option Addr, ∃ l38 : Nat, ∃ c39 : Nat, v35 = (.slice a37 l38 c39) ∧ (
                                                            Does Try.prog 17 [(.pointer p3), (.int .i64 n19), (.slice a37 l38 c39)] H36 fun v40 H41 => ∃ n42 : Int, v40 = (.int .i64 n42) ∧ (
                                                            ((((n42 : Int) ≠ 0) → (
                                                            R (.bool false) H41)) ∧ (¬ ((n42 : Int) ≠ 0) → (
                                                            (0 : Int) ≤ n12 ∧ (n12 : Int) < (x0l : Int) ∧ ∃ b43 o44 : Nat, x0 = some (⟨b43, o44, none⟩ : Addr) ∧ (
                                                            ∃ n45 : Int, hcell H41 b43 ((o44 + (Int.toNat n12) * 4) + 2) = some (.int .i64 n45) ∧ (
                                                            ∀ q46 : Int, q46 = IntKind.wrap .u8 n45 → (
                                                            (0 : Int) ≤ n19 ∧ (n19 : Int) < (12 : Nat) ∧ (
                                                            Cells H41 b8 (0 + (Int.toNat n19)) 1 ∧ ∀ H47 : Heap, Puts H41 b8 (0 + (Int.toNat n19)) [(.int .u8 q46)] H47 → (
                                                            I20 H47)))))))))))))))))))) ∧
                                              ∀ H48 : Heap, I20 H48 → (
                                                ∃ I49 : Int → Heap → Prop, ∃ μ50 : Int → Heap → Nat, (I49 0 H48) ∧
                                                ∀ n51 : Int, ∀ H52 : Heap, I49 n51 H52 → (
                                                  ((((n51 : Int) < 12) → (
                                                        Does Try.prog 20 [(.pointer p3), (.int .i64 n51)] H52 fun v53 H54 => ∃ a55 : Option Addr, ∃ l56 : Nat, ∃ c57 : Nat, ∃ n58 : Int, v53 = (.tuple #[(.slice a55 l56 c57), (.int .i64 n58)]) ∧ (
                                                          ((((n58 : Int) ≠ 0) → (
                                                            R (.bool false) H54)) ∧ (¬ ((n58 : Int) ≠ 0) → (
                                                            ∃ l59 : List UInt8, SRow H54 1 l56 (.slice a55 l56 c57) (List.map (fun (b : UInt8) => Value.int .u8 b.toNat) l59) ∧ (
                                                            (0 : Int) ≤ n51 ∧ (n51 : Int) < (12 : Nat) ∧ (
                                                            ∃ n60 : Int, hcell H54 b8 (0 + (Int.toNat n51)) = some (.int .u8 n60) ∧ (
                                                            Does Try.prog 18 [(.int .u8 n60)] H54 fun v61 H62 => ∃ a63 : Option Addr, ∃ l64 : Nat, ∃ c65 : Nat, v61 = (.slice a63 l64 c65) ∧ (
                                                            SRow H62 1 l56 (.slice a55 l56 c57) (List.map (fun (b : UInt8) => Value.int .u8 b.toNat) l59) ∧ (∃ l66 : List UInt8, SRow H62 1 l64 (.slice a63 l64 c65) (List.map (fun (b : UInt8) => Value.int .u8 b.toNat) l66) ∧ (
                                                            (((((ByteArray.mk (List.toArray l59)) : ByteArray) ≠ (ByteArray.mk (List.toArray l66))) → (
                                                            R (.bool false) H62)) ∧ (¬ (((ByteArray.mk (List.toArray l59)) : ByteArray) ≠ (ByteArray.mk (List.toArray l66))) → (
                                                            (In64 (n51 + 1)) ∧
                                                            (I49 (n51 + 1) H62) ∧ μ50 (n51 + 1) H62 < μ50 n51 H52))))))))))))))) ∧ (¬ ((n51 : Int) < 12) → (
                                                        (In64 (n12 + 1)) ∧
                                                        (I10 (n12 + 1) H52) ∧ μ11 (n12 + 1) H52 < μ11 n12 H13)))))))))) ∧ (¬ ((n12 : Int) < 40) → (
                                        R (.bool true) H13))))) ∧ (¬ ((n12 : Int) < (x0l : Int)) → (
                                  R (.bool true) H13))))))))))))))))) := by kernel_rfl


/-- pentimento/pentimentolaw4.DevPlays -/
theorem vc_dplays (x0 : Int) (x1 : Option Addr) (x1l : Nat) (x1c : Nat) (H : Heap) (R : Value → Heap → Prop) : Walk Try.prog 5 [(17, [(13, (.slice none 0 0))]), (27, [(11, (.bool false))])] [(.int .i64 x0), (.slice x1 x1l x1c)] H R = (
  Does Try.prog 15 [(.int .i64 x0), (.int .i64 12)] H fun v1 H2 => ∃ n3 : Int, v1 = (.int .i64 n3) ∧ (
    (In64 (8 + n3)) ∧
    Does Try.prog 13 [(.int .i64 (8 + n3))] H2 fun v4 H5 => ∃ p6 : Option Addr, ∃ n7 : Int, v4 = (.tuple #[(.pointer p6), (.int .i64 n7)]) ∧ (
      Does Try.prog 14 [] H5 fun v8 H9 => ∃ t10 : Bool, v8 = (.bool t10) ∧ (
        (((t10 = false) → (
              R (.bool false) H9)) ∧ (¬ (t10 = false) → (
              ((((n7 : Int) ≠ 0) → (
                    R (.bool false) H9)) ∧ (¬ ((n7 : Int) ≠ 0) → (
                    ((((p6 : Option Addr) = none) → (
                          R (.bool false) H9)) ∧ (¬ ((p6 : Option Addr) = none) → (
                          Does Try.prog 22 [(.int .i64 (8 + n3))] H9 fun v11 H12 => ∃ p13 : Option Addr, v11 = (.pointer p13) ∧ (
                            ∃ I14 : Int → Heap → Prop, ∃ μ15 : Int → Heap → Nat, (I14 0 H12) ∧
                            ∀ n16 : Int, ∀ H17 : Heap, I14 n16 H17 → (
                              ((((n16 : Int) < (x1l : Int)) → (
                                    ((((n16 : Int) < 60) → (
                                          (0 : Int) ≤ n16 ∧ (n16 : Int) < (x1l : Int) ∧ ∃ b18 o19 : Nat, x1 = some (⟨b18, o19, none⟩ : Addr) ∧ (
                                            ∃ n20 : Int, hcell H17 b18 (o19 + (Int.toNat n16) * 4) = some (.int .i64 n20) ∧ (
                                              ∃ n21 : Int, hcell H17 b18 ((o19 + (Int.toNat n16) * 4) + 1) = some (.int .i64 n21) ∧ (
                                                ∃ n22 : Int, hcell H17 b18 (((o19 + (Int.toNat n16) * 4) + 1) + 1) = some (.int .i64 n22) ∧ (
                                                  ∃ a23 : Option Addr, ∃ l24 : Nat, ∃ c25 : Nat, hcell H17 b18 ((((o19 + (Int.toNat n16) * 4) + 1) + 1) + 1) = some (.slice a23 l24 c25) ∧ (
                                                    ∀ b26 : Nat, ∀ H27 : Heap, New H17 b26 [(.int .i64 0), (.int .i64 0), (.int .i64 0), (.slice none 0 0)] 33 H27 → (
                                                      Cells H27 b26 0 4 ∧ ∀ H28 : Heap, Puts H27 b26 0 [(.int .i64 n20), (.int .i64 n21), (.int .i64 n22), (.slice a23 l24 c25)] H28 → (
                                                        ∃ n29 : Int, hcell H28 b26 (0 + 1) = some (.int .i64 n29) ∧ (
                                                          (In64 ((8 + n3) + 2)) ∧
                                                          Does Try.prog 15 [(.int .i64 n29), (.int .i64 ((8 + n3) + 2))] H28 fun v30 H31 => ∃ n32 : Int, v30 = (.int .i64 n32) ∧ (
                                                            (In64 (n32 - 1)) ∧
                                                            ∃ I33 : Bool → Heap → Prop, (
                                                            ∃ n34 : Int, hcell H31 b26 0 = some (.int .i64 n34) ∧ (
                                                            Does Try.prog 15 [(.int .i64 n34), (.int .i64 9)] H31 fun v35 H36 => ∃ n37 : Int, v35 = (.int .i64 n37) ∧ (
                                                            ((((n37 : Int) = 6) → (
                                                            Does Try.prog 16 [(.pointer p6)] H36 fun v38 H39 => ∃ n40 : Int, v38 = (.int .i64 n40) ∧ (
                                                            Does Try.prog 23 [(.pointer p13)] H39 fun v41 H42 => ∃ n43 : Int, v41 = (.int .i64 n43) ∧ (
                                                            I33 (@decide ((n40 : Int) = n43) (Classical.propDecidable _)) H42)))) ∧ (¬ ((n37 : Int) = 6) → (
                                                            ((((n37 : Int) = 7) → (
                                                            ∃ a44 : Option Addr, ∃ l45 : Nat, ∃ c46 : Nat, hcell H36 b26 (0 + 3) = some (.slice a44 l45 c46) ∧ (
                                                            Does Try.prog 19 [(.pointer p6), (.slice a44 l45 c46)] H36 fun v47 H48 => v47 = (.tuple #[]) ∧ (
                                                            ∃ a49 : Option Addr, ∃ l50 : Nat, ∃ c51 : Nat, hcell H48 b26 (0 + 3) = some (.slice a49 l50 c51) ∧ (
                                                            Does Try.prog 24 [(.pointer p13), (.slice a49 l50 c51)] H48 fun v52 H53 => v52 = (.tuple #[]) ∧ (
                                                            I33 true H53)))))) ∧ (¬ ((n37 : Int) = 7) → (
                                                            ((((n37 : Int) = 8) → (
                                                            ∃ n54 : Int, hcell H36 b26 (0 + 2) = some (.int .i64 n54) ∧ (
                                                            Does Try.prog 15 [(.int .i64 n54), (.int .i64 9)] H36 fun v55 H56 => ∃ n57 : Int, v55 = (.int .i64 n57) ∧ (
                                                            (In64 (n57 - 2)) ∧
                                                            Does Try.prog 25 [(.pointer p6), (.int .i64 (n57 - 2))] H56 fun v58 H59 => v58 = (.tuple #[]) ∧ (
                                                            Does Try.prog 26 [(.pointer p13), (.int .i64 (n57 - 2))] H59 fun v60 H61 => v60 = (.tuple #[]) ∧ (
                                                            I33 true H61)))))) ∧ (¬ ((n37 : Int) = 8) → (
                                                            ∃ n62 : Int, hcell H36 b26 (0 + 2) = some (.int .i64 n62) ∧ (
                                                            ∀ q63 : Int, q63 = IntKind.wrap .u8 n62 → (
                                                            Does Try.prog 18 [(.int .u8 q63)] H36 fun v64 H65 => ∃ a66 : Option Addr, ∃ l67 : Nat, ∃ c68 : Nat, v64 = (.slice a66 l67 c68) ∧ (
                                                            ∃ a69 : Option Addr, ∃ l70 : Nat, ∃ c71 : Nat, hcell H65 b26 (0 + 3) = some (.slice a69 l70 c71) ∧ (
                                                            ∃ new72 : List Value, SRow H65 1 (min l70 l67) (.slice a69 l70 c71) new72 ∧ (∀ u ∈ new72, Value.oneCell' u = true) ∧ roomOf H65 a66 0 ((min l70 l67) * 1) ∧ ∀ H73 : Heap, Copied H65 a66 new72 H73 → (
                                                            ∃ I74 : Option Addr → Nat → Nat → Heap → Prop, (
                                                            ∃ n75 : Int, hcell H73 b26 (0 + 2) = some (.int .i64 n75) ∧ (
                                                            ((31 : Int) ≠ 0) ∧
                                                            ∀ q76 : Int, q76 = Int.tmod n75 31 → (
                                                            ((((q76 : Int) = 30) → (
                                                            (0 : Int) ≤ 1 ∧ (1 : Int) ≤ (l67 : Int) ∧ ∀ a77 : Option Addr, a77 = (if c68 = (Int.toNat 1) then a66 else Option.map (fun x => Addr.add x ((Int.toNat 1) * 1)) a66) → (
                                                            I74 a77 (l67 - (Int.toNat 1)) (c68 - (Int.toNat 1)) H73))) ∧ (¬ ((q76 : Int) = 30) → (
                                                            I74 a66 l67 c68 H73)))))) ∧
                                                            ∀ a78 : Option Addr, ∀ l79 : Nat, ∀ c80 : Nat, ∀ H81 : Heap, I74 a78 l79 c80 H81 → (
                                                            Does Try.prog 17 [(.pointer p6), (.int .i64 (n32 - 1)), (.slice a78 l79 c80)] H81 fun v82 H83 => ∃ n84 : Int, v82 = (.int .i64 n84) ∧ (
                                                            Does Try.prog 27 [(.pointer p13), (.int .i64 (n32 - 1)), (.slice a78 l79 c80)] H83 fun v85 H86 => ∃ n87 : Int, v85 = (.int .i64 n87) ∧ (
                                                            I33 (@decide ((n84 : Int) = n87) (Classical.propDecidable _)) H86)))))))))))))))))))) ∧
                                                            ∀ t88 : Bool, ∀ H89 : Heap, I33 t88 H89 → (
                                                            (((t88 = false) → (
                                                            R (.bool false) H89)) ∧ (¬ (t88 = false) → (
                                                            ∃ b90 o91 : Nat, p13 = some (⟨b90, o91, none⟩ : Addr) ∧ (
                                                            ∃ t92 : Bool, hcell H89 b90 (o91 + 3) = some (.bool t92) ∧ (
                                                            Does Try.prog 28 [(.pointer p6)] H89 fun v93 H94 => ∃ t95 : Bool, v93 = (.bool t95) ∧ (
                                                            isL H94 b90 (o91 + 3) [(.bool t92)] ∧ ((((¬ ((t95 = true) ↔ (t92 = true))) → (
                                                            R (.bool false) H94)) ∧ (¬ (¬ ((t95 = true) ↔ (t92 = true))) → (
                                                            ∃ b96 o97 : Nat, p13 = some (⟨b96, o97, none⟩ : Addr) ∧ (
                                                            ∃ n98 : Int, hcell H94 b96 (o97 + 4) = some (.int .i64 n98) ∧ (
                                                            Does Try.prog 29 [(.pointer p6)] H94 fun v99 H100 => ∃ n101 : Int, v99 = (.int .i64 n101) ∧ (
                                                            isL H100 b96 (o97 + 4) [(.int .i64 n98)] ∧ (((((n101 : Int) ≠ n98) → (
                                                            R (.bool false) H100)) ∧ (¬ ((n101 : Int) ≠ n98) → (
                                                            ∃ b102 o103 : Nat, p13 = some (⟨b102, o103, none⟩ : Addr) ∧ (
                                                            ∃ a104 : Option Addr, ∃ l105 : Nat, ∃ c106 : Nat, hcell H100 b102 (o103 + 1) = some (.slice a104 l105 c106) ∧ (
                                                            Does Try.prog 21 [(.pointer p6)] H100 fun v107 H108 => ∃ n109 : Int, v107 = (.int .i64 n109) ∧ (
                                                            isL H108 b102 (o103 + 1) [(.slice a104 l105 c106)] ∧ (((((n109 : Int) ≠ (l105 : Int)) → (
                                                            R (.bool false) H108)) ∧ (¬ ((n109 : Int) ≠ (l105 : Int)) → (
                                                            ∃ I110 : Int → Heap → Prop, ∃ μ111 : Int → Heap → Nat, (I110 (-1) H108) ∧
                                                            ∀ n112 : Int, ∀ H113 : Heap, I110 n112 H113 → (
                                                            ((((n112 : Int) ≤ (8 + n3)) → (
                                                            Does Try.prog 20 [(.pointer p6), (.int .i64 n112)] H113 fun v114 H115 => ∃ a116 : Option Addr, ∃ l117 : Nat, ∃ c118 : Nat, ∃ n119 : Int, v114 = (.tuple #[(.slice a116 l117 c118), (.int .i64 n119)]) ∧ (
                                                            Does Try.prog 30 [(.pointer p13), (.int .i64 n112)] H115 fun v120 H121 => ∃ a122 : Option Addr, ∃ l123 : Nat, ∃ c124 : Nat, ∃ n125 : Int, v120 = (.tuple #[(.slice a122 l123 c124), (.int .i64 n125)]) ∧ (
                                                            ((((n119 : Int) ≠ n125) → (
                                                            R (.bool false) H121)) ∧ (¬ ((n119 : Int) ≠ n125) → (
                                                            ∃ l126 : List UInt8, SRow H121 1 l117 (.slice a116 l117 c118) (List.map (fun (b : UInt8) => Value.int .u8 b.toNat) l126) ∧ (
                                                            ∃ l127 : List UInt8, SRow H121 1 l123 (.slice a122 l123 c124) (List.map (fun (b : UInt8) => Value.int .u8 b.toNat) l127) ∧ (
                                                            (((((ByteArray.mk (List.toArray l126)) : ByteArray) ≠ (ByteArray.mk (List.toArray l127))) → (
                                                            R (.bool false) H121)) ∧ (¬ (((ByteArray.mk (List.toArray l126)) : ByteArray) ≠ (ByteArray.mk (List.toArray l127))) → (
                                                            ∃ I128 : Int → Heap → Prop, ∃ μ129 : Int → Heap → Nat, (I128 0 H121) ∧
                                                            ∀ n130 : Int, ∀ H131 : Heap, I128 n130 H131 → (
                                                            ((((n130 : Int) < (l117 : Int)) → (
                                                            (0 : Int) ≤ n130 ∧ (n130 : Int) < (l117 : Int) ∧ ∃ b132 o133 : Nat, a116 = some (⟨b132, o133, none⟩ : Addr) ∧ (
                                                            ∃ n134 : Int, hcell H131 b132 (o133 + (Int.toNat n130)) = some (.int .u8 n134) ∧ (
                                                            ∀ q135 : Int, q135 = IntKind.wrap .u8 (n134 + 1) → (
                                                            (0 : Int) ≤ n130 ∧ (n130 : Int) < (l117 : Int) ∧ ∃ b136 o137 : Nat, a116 = some (⟨b136, o137, none⟩ : Addr) ∧ (
                                                            Cells H131 b136 (o137 + (Int.toNat n130)) 1 ∧ ∀ H138 : Heap, Puts H131 b136 (o137 + (Int.toNat n130)) [(.int .u8 q135)] H138 → (
                                                            (In64 (n130 + 1)) ∧
                                                            (I128 (n130 + 1) H138) ∧ μ129 (n130 + 1) H138 < μ129 n130 H131))))))) ∧ (¬ ((n130 : Int) < (l117 : Int)) → (
                                                            (In64 (n112 + 1)) ∧
                                                            (I110 (n112 + 1) H131) ∧ μ111 (n112 + 1) H131 < μ111 n112 H113)))))))))))))))) ∧ (¬ ((n112 : Int) ≤ (8 + n3)) → (
                                                            (In64 (n16 + 1)) ∧
                                                            (I14 (n16 + 1) H113) ∧ μ15 (n16 + 1) H113 < μ15 n16 H17)))))))))))))))))))))))))))))))))))))))) ∧ (¬ ((n16 : Int) < 60) → (
                                          R (.bool true) H17))))) ∧ (¬ ((n16 : Int) < (x1l : Int)) → (
                                    R (.bool true) H17)))))))))))))))))) := by kernel_rfl


/-- pentimento/pentimentolaw4.DevFuses -/
theorem vc_dfuses (x0 : Int) (x1 : Option Addr) (x1l : Nat) (x1c : Nat) (H : Heap) (R : Value → Heap → Prop) : Walk Try.prog 6 [(13, [(8, (.int .i64 0))]), (15, [])] [(.int .i64 x0), (.slice x1 x1l x1c)] H R = (
  Does Try.prog 13 [(.int .i64 10)] H fun v1 H2 => ∃ p3 : Option Addr, ∃ n4 : Int, v1 = (.tuple #[(.pointer p3), (.int .i64 n4)]) ∧ (
    Does Try.prog 14 [] H2 fun v5 H6 => ∃ t7 : Bool, v5 = (.bool t7) ∧ (
      (((t7 = false) → (
            R (.bool false) H6)) ∧ (¬ (t7 = false) → (
            ((((n4 : Int) ≠ 0) → (
                  R (.bool false) H6)) ∧ (¬ ((n4 : Int) ≠ 0) → (
                  ((((p3 : Option Addr) = none) → (
                        R (.bool false) H6)) ∧ (¬ ((p3 : Option Addr) = none) → (
                        Does Try.prog 18 [(.int .u8 9)] H6 fun v8 H9 => ∃ a10 : Option Addr, ∃ l11 : Nat, ∃ c12 : Nat, v8 = (.slice a10 l11 c12) ∧ (
                          Does Try.prog 17 [(.pointer p3), (.int .i64 0), (.slice a10 l11 c12)] H9 fun v13 H14 => ∃ n15 : Int, v13 = (.int .i64 n15) ∧ (
                            ((((n15 : Int) ≠ 0) → (
                                  R (.bool false) H14)) ∧ (¬ ((n15 : Int) ≠ 0) → (
                                  Does Try.prog 16 [(.pointer p3)] H14 fun v16 H17 => ∃ n18 : Int, v16 = (.int .i64 n18) ∧ (
                                    ((((n18 : Int) ≠ 0) → (
                                          R (.bool false) H17)) ∧ (¬ ((n18 : Int) ≠ 0) → (
                                          Does Try.prog 15 [(.int .i64 x0), (.int .i64 12)] H17 fun v19 H20 => ∃ n21 : Int, v19 = (.int .i64 n21) ∧ (
                                            Does Try.prog 25 [(.pointer p3), (.int .i64 n21)] H20 fun v22 H23 => v22 = (.tuple #[]) ∧ (
                                              ∃ I24 : Heap → Prop, (
                                                ∃ I25 : Int → Heap → Prop, ∃ μ26 : Int → Heap → Nat, (I25 0 H23) ∧
                                                ∀ n27 : Int, ∀ H28 : Heap, I25 n27 H28 → (
                                                  ((((n27 : Int) < (x1l : Int)) → (
                                                        ((((n27 : Int) < 20) → (
                                                            ∃ I29 : Int → Heap → Prop, (
                                                            (0 : Int) ≤ n27 ∧ (n27 : Int) < (x1l : Int) ∧ ∃ b30 o31 : Nat, x1 = some (⟨b30, o31, none⟩ : Addr) ∧ (
                                                            ∃ n32 : Int, hcell H28 b30 (o31 + (Int.toNat n27)) = some (.int .i64 n32) ∧ (
                                                            Does Try.prog 15 [(.int .i64 n32), (.int .i64 3)] H28 fun v33 H34 => ∃ n35 : Int, v33 = (.int .i64 n35) ∧ (
                                                            ((((n35 : Int) = 0) → (
                                                            Does Try.prog 16 [(.pointer p3)] H34 fun v36 H37 => ∃ n38 : Int, v36 = (.int .i64 n38) ∧ (
                                                            I29 n38 H37))) ∧ (¬ ((n35 : Int) = 0) → (
                                                            (0 : Int) ≤ n27 ∧ (n27 : Int) < (x1l : Int) ∧ ∃ b39 o40 : Nat, x1 = some (⟨b39, o40, none⟩ : Addr) ∧ (
                                                            ∃ n41 : Int, hcell H34 b39 (o40 + (Int.toNat n27)) = some (.int .i64 n41) ∧ (
                                                            Does Try.prog 15 [(.int .i64 n41), (.int .i64 9)] H34 fun v42 H43 => ∃ n44 : Int, v42 = (.int .i64 n44) ∧ (
                                                            (In64 (1 + n44)) ∧
                                                            ∀ q45 : Int, q45 = IntKind.wrap .u8 n27 → (
                                                            Does Try.prog 18 [(.int .u8 q45)] H43 fun v46 H47 => ∃ a48 : Option Addr, ∃ l49 : Nat, ∃ c50 : Nat, v46 = (.slice a48 l49 c50) ∧ (
                                                            Does Try.prog 17 [(.pointer p3), (.int .i64 (1 + n44)), (.slice a48 l49 c50)] H47 fun v51 H52 => ∃ n53 : Int, v51 = (.int .i64 n53) ∧ (
                                                            I29 n53 H52))))))))))))) ∧
                                                            ∀ n54 : Int, ∀ H55 : Heap, I29 n54 H55 → (
                                                            (((¬ (((n54 : Int) = 0) ↔ ((n27 : Int) < n21))) → (
                                                            R (.bool false) H55)) ∧ (¬ (¬ (((n54 : Int) = 0) ↔ ((n27 : Int) < n21))) → (
                                                            ((((n54 : Int) ≠ 0) → (
                                                            ((((n54 : Int) ≠ 4) → (
                                                            R (.bool false) H55)) ∧ (¬ ((n54 : Int) ≠ 4) → (
                                                            Does Try.prog 28 [(.pointer p3)] H55 fun v56 H57 => ∃ t58 : Bool, v56 = (.bool t58) ∧ (
                                                            (((¬ ((t58 = true) ↔ ((n21 : Int) ≤ n27))) → (
                                                            R (.bool false) H57)) ∧ (¬ (¬ ((t58 = true) ↔ ((n21 : Int) ≤ n27))) → (
                                                            Does Try.prog 29 [(.pointer p3)] H57 fun v59 H60 => ∃ n61 : Int, v59 = (.int .i64 n61) ∧ (
                                                            (In64 (n27 + 1)) ∧
                                                            (In64 (2 + (min (n27 + 1) n21))) ∧
                                                            ((((n61 : Int) ≠ (2 + (min (n27 + 1) n21))) → (
                                                            R (.bool false) H60)) ∧ (¬ ((n61 : Int) ≠ (2 + (min (n27 + 1) n21))) → (
                                                            (In64 (n27 + 1)) ∧
                                                            (I25 (n27 + 1) H60) ∧ μ26 (n27 + 1) H60 < μ26 n27 H28))))))))))))) ∧ (¬ ((n54 : Int) ≠ 0) → (
                                                            Does Try.prog 28 [(.pointer p3)] H55 fun v62 H63 => ∃ t64 : Bool, v62 = (.bool t64) ∧ (
                                                            (((¬ ((t64 = true) ↔ ((n21 : Int) ≤ n27))) → (
                                                            R (.bool false) H63)) ∧ (¬ (¬ ((t64 = true) ↔ ((n21 : Int) ≤ n27))) → (
                                                            Does Try.prog 29 [(.pointer p3)] H63 fun v65 H66 => ∃ n67 : Int, v65 = (.int .i64 n67) ∧ (
                                                            (In64 (n27 + 1)) ∧
                                                            (In64 (2 + (min (n27 + 1) n21))) ∧
                                                            ((((n67 : Int) ≠ (2 + (min (n27 + 1) n21))) → (
                                                            R (.bool false) H66)) ∧ (¬ ((n67 : Int) ≠ (2 + (min (n27 + 1) n21))) → (
                                                            (In64 (n27 + 1)) ∧
                                                            (I25 (n27 + 1) H66) ∧ μ26 (n27 + 1) H66 < μ26 n27 H28))))))))))))))))) ∧ (¬ ((n27 : Int) < 20) → (
                                                            I24 H28))))) ∧ (¬ ((n27 : Int) < (x1l : Int)) → (
                                                        I24 H28))))) ∧
                                              ∀ H68 : Heap, I24 H68 → (
                                                Does Try.prog 19 [(.pointer p3), (.slice none 0 0)] H68 fun v69 H70 => v69 = (.tuple #[]) ∧ (
                                                  Does Try.prog 20 [(.pointer p3), (.int .i64 0)] H70 fun v71 H72 => ∃ a73 : Option Addr, ∃ l74 : Nat, ∃ c75 : Nat, ∃ n76 : Int, v71 = (.tuple #[(.slice a73 l74 c75), (.int .i64 n76)]) ∧ (
                                                    ((((n76 : Int) = 0) → (
                                                          ∃ l77 : List UInt8, SRow H72 1 l74 (.slice a73 l74 c75) (List.map (fun (b : UInt8) => Value.int .u8 b.toNat) l77) ∧ (
                                                            Does Try.prog 18 [(.int .u8 9)] H72 fun v78 H79 => ∃ a80 : Option Addr, ∃ l81 : Nat, ∃ c82 : Nat, v78 = (.slice a80 l81 c82) ∧ (
                                                            SRow H79 1 l74 (.slice a73 l74 c75) (List.map (fun (b : UInt8) => Value.int .u8 b.toNat) l77) ∧ (∃ l83 : List UInt8, SRow H79 1 l81 (.slice a80 l81 c82) (List.map (fun (b : UInt8) => Value.int .u8 b.toNat) l83) ∧ (
                                                            (((((ByteArray.mk (List.toArray l77)) : ByteArray) = (ByteArray.mk (List.toArray l83))) → (
                                                            Does Try.prog 28 [(.pointer p3)] H79 fun v84 H85 => ∃ t86 : Bool, v84 = (.bool t86) ∧ (
                                                            ((((t86 = false) → (
                                                            Does Try.prog 16 [(.pointer p3)] H85 fun v87 H88 => ∃ n89 : Int, v87 = (.int .i64 n89) ∧ (
                                                            (R (.bool (@decide ((n89 : Int) = 0) (Classical.propDecidable _))) H88)))) ∧ (¬ (t86 = false) → (
                                                            R (.bool false) H85))))))) ∧ (¬ (((ByteArray.mk (List.toArray l77)) : ByteArray) = (ByteArray.mk (List.toArray l83))) → (
                                                            R (.bool false) H79))))))))) ∧ (¬ ((n76 : Int) = 0) → (
                                                          R (.bool false) H72))))))))))))))))))))))))))))) := by kernel_rfl


/-- pentimento/pentimentolaw4.DevKnown -/
theorem vc_dknown (H : Heap) (R : Value → Heap → Prop) : Walk Try.prog 7 [] [] H R = (
  Does Try.prog 13 [(.int .i64 7)] H fun v1 H2 => ∃ p3 : Option Addr, ∃ n4 : Int, v1 = (.tuple #[(.pointer p3), (.int .i64 n4)]) ∧ (
    Does Try.prog 13 [(.int .i64 4097)] H2 fun v5 H6 => ∃ p7 : Option Addr, ∃ n8 : Int, v5 = (.tuple #[(.pointer p7), (.int .i64 n8)]) ∧ (
      Does Try.prog 13 [(.int .i64 8)] H6 fun v9 H10 => ∃ p11 : Option Addr, ∃ n12 : Int, v9 = (.tuple #[(.pointer p11), (.int .i64 n12)]) ∧ (
        Does Try.prog 14 [] H10 fun v13 H14 => ∃ t15 : Bool, v13 = (.bool t15) ∧ (
          (((t15 = false) → (
                R (.bool false) H14)) ∧ (¬ (t15 = false) → (
                ((((p11 : Option Addr) = none) → (
                      R (.bool false) H14)) ∧ (¬ ((p11 : Option Addr) = none) → (
                      Does Try.prog 18 [(.int .u8 1)] H14 fun v16 H17 => ∃ a18 : Option Addr, ∃ l19 : Nat, ∃ c20 : Nat, v16 = (.slice a18 l19 c20) ∧ (
                        Does Try.prog 17 [(.pointer p11), (.int .i64 8), (.slice a18 l19 c20)] H17 fun v21 H22 => ∃ n23 : Int, v21 = (.int .i64 n23) ∧ (
                          ∀ b24 : Nat, ∀ H25 : Heap, New H22 b24 [(.int .u8 1)] 5 H25 → (
                            Does Try.prog 17 [(.pointer p11), (.int .i64 0), (.slice (some (⟨b24, 0, none⟩ : Addr)) 1 1)] H25 fun v26 H27 => ∃ n28 : Int, v26 = (.int .i64 n28) ∧ (
                              Does Try.prog 20 [(.pointer p11), (.int .i64 (-1))] H27 fun v29 H30 => ∃ a31 : Option Addr, ∃ l32 : Nat, ∃ c33 : Nat, ∃ n34 : Int, v29 = (.tuple #[(.slice a31 l32 c33), (.int .i64 n34)]) ∧ (
                                Does Try.prog 18 [(.int .u8 1)] H30 fun v35 H36 => ∃ a37 : Option Addr, ∃ l38 : Nat, ∃ c39 : Nat, v35 = (.slice a37 l38 c39) ∧ (
                                  Does Try.prog 17 [(.pointer p11), (.int .i64 3), (.slice a37 l38 c39)] H36 fun v40 H41 => ∃ n42 : Int, v40 = (.int .i64 n42) ∧ (
                                    Does Try.prog 18 [(.int .u8 2)] H41 fun v43 H44 => ∃ a45 : Option Addr, ∃ l46 : Nat, ∃ c47 : Nat, v43 = (.slice a45 l46 c47) ∧ (
                                      Does Try.prog 17 [(.pointer p11), (.int .i64 3), (.slice a45 l46 c47)] H44 fun v48 H49 => ∃ n50 : Int, v48 = (.int .i64 n50) ∧ (
                                        Does Try.prog 18 [(.int .u8 3)] H49 fun v51 H52 => ∃ a53 : Option Addr, ∃ l54 : Nat, ∃ c55 : Nat, v51 = (.slice a53 l54 c55) ∧ (
                                          Does Try.prog 17 [(.pointer p11), (.int .i64 3), (.slice a53 l54 c55)] H52 fun v56 H57 => ∃ n58 : Int, v56 = (.int .i64 n58) ∧ (
                                            ∀ b59 : Nat, ∀ H60 : Heap, New H57 b59 [(.int .u8 3)] 5 H60 → (
                                              Does Try.prog 19 [(.pointer p11), (.slice (some (⟨b59, 0, none⟩ : Addr)) 1 1)] H60 fun v61 H62 => v61 = (.tuple #[]) ∧ (
                                                Does Try.prog 20 [(.pointer p11), (.int .i64 3)] H62 fun v63 H64 => ∃ a65 : Option Addr, ∃ l66 : Nat, ∃ c67 : Nat, ∃ n68 : Int, v63 = (.tuple #[(.slice a65 l66 c67), (.int .i64 n68)]) ∧ (
                                                  Does Try.prog 25 [(.pointer p11), (.int .i64 1)] H64 fun v69 H70 => v69 = (.tuple #[]) ∧ (
                                                    Does Try.prog 18 [(.int .u8 4)] H70 fun v71 H72 => ∃ a73 : Option Addr, ∃ l74 : Nat, ∃ c75 : Nat, v71 = (.slice a73 l74 c75) ∧ (
                                                      Does Try.prog 17 [(.pointer p11), (.int .i64 4), (.slice a73 l74 c75)] H72 fun v76 H77 => ∃ n78 : Int, v76 = (.int .i64 n78) ∧ (
                                                        Does Try.prog 16 [(.pointer p11)] H77 fun v79 H80 => ∃ n81 : Int, v79 = (.int .i64 n81) ∧ (
                                                          Does Try.prog 20 [(.pointer p11), (.int .i64 4)] H80 fun v82 H83 => ∃ a84 : Option Addr, ∃ l85 : Nat, ∃ c86 : Nat, ∃ n87 : Int, v82 = (.tuple #[(.slice a84 l85 c86), (.int .i64 n87)]) ∧ (
                                                            Does Try.prog 20 [(.pointer p11), (.int .i64 99)] H83 fun v88 H89 => ∃ a90 : Option Addr, ∃ l91 : Nat, ∃ c92 : Nat, ∃ n93 : Int, v88 = (.tuple #[(.slice a90 l91 c92), (.int .i64 n93)]) ∧ (
                                                            Does Try.prog 28 [(.pointer p11)] H89 fun v94 H95 => ∃ t96 : Bool, v94 = (.bool t96) ∧ (
                                                            Does Try.prog 19 [(.pointer p11), (.slice none 0 0)] H95 fun v97 H98 => v97 = (.tuple #[]) ∧ (
                                                            Does Try.prog 20 [(.pointer p11), (.int .i64 4)] H98 fun v99 H100 => ∃ a101 : Option Addr, ∃ l102 : Nat, ∃ c103 : Nat, ∃ n104 : Int, v99 = (.tuple #[(.slice a101 l102 c103), (.int .i64 n104)]) ∧ (
                                                            ((((n4 : Int) = 1) → (
                                                            ((((n8 : Int) = 1) → (
                                                            ((((n23 : Int) = 1) → (
                                                            ((((n28 : Int) = 1) → (
                                                            ((((n34 : Int) = 1) → (
                                                            ∃ l105 : List UInt8, SRow H100 1 l66 (.slice a65 l66 c67) (List.map (fun (b : UInt8) => Value.int .u8 b.toNat) l105) ∧ (
                                                            Does Try.prog 18 [(.int .u8 2)] H100 fun v106 H107 => ∃ a108 : Option Addr, ∃ l109 : Nat, ∃ c110 : Nat, v106 = (.slice a108 l109 c110) ∧ (
                                                            SRow H107 1 l66 (.slice a65 l66 c67) (List.map (fun (b : UInt8) => Value.int .u8 b.toNat) l105) ∧ (∃ l111 : List UInt8, SRow H107 1 l109 (.slice a108 l109 c110) (List.map (fun (b : UInt8) => Value.int .u8 b.toNat) l111) ∧ (
                                                            (((((ByteArray.mk (List.toArray l105)) : ByteArray) = (ByteArray.mk (List.toArray l111))) → (
                                                            ((((n78 : Int) = 0) → (
                                                            ((((n81 : Int) = 4) → (
                                                            ((((n87 : Int) = 4) → (
                                                            ((((n93 : Int) = 1) → (
                                                            ((t96 = true → (
                                                            Does Try.prog 28 [(.pointer p11)] H107 fun v112 H113 => ∃ t114 : Bool, v112 = (.bool t114) ∧ (
                                                            ((((t114 = false) → (
                                                            ∃ l115 : List UInt8, SRow H113 1 l102 (.slice a101 l102 c103) (List.map (fun (b : UInt8) => Value.int .u8 b.toNat) l115) ∧ (
                                                            Does Try.prog 18 [(.int .u8 0)] H113 fun v116 H117 => ∃ a118 : Option Addr, ∃ l119 : Nat, ∃ c120 : Nat, v116 = (.slice a118 l119 c120) ∧ (
                                                            SRow H117 1 l102 (.slice a101 l102 c103) (List.map (fun (b : UInt8) => Value.int .u8 b.toNat) l115) ∧ (∃ l121 : List UInt8, SRow H117 1 l119 (.slice a118 l119 c120) (List.map (fun (b : UInt8) => Value.int .u8 b.toNat) l121) ∧ (
                                                            (((((ByteArray.mk (List.toArray l115)) : ByteArray) = (ByteArray.mk (List.toArray l121))) → (
                                                            Does Try.prog 29 [(.pointer p11)] H117 fun v122 H123 => ∃ n124 : Int, v122 = (.int .i64 n124) ∧ (
                                                            (((((n124 : Int) = 4) → (
                                                            Does Try.prog 31 [(.pointer p11)] H123 fun v125 H126 => ∃ n127 : Int, v125 = (.int .i64 n127) ∧ (
                                                            (((((n127 : Int) = 8) → (
                                                            Does Try.prog 16 [(.pointer p11)] H126 fun v128 H129 => ∃ n130 : Int, v128 = (.int .i64 n130) ∧ (
                                                            (R (.bool (@decide ((n130 : Int) = 0) (Classical.propDecidable _))) H129)))) ∧ (¬ ((n127 : Int) = 8) → (
                                                            R (.bool false) H126))))))) ∧ (¬ ((n124 : Int) = 4) → (
                                                            R (.bool false) H123))))))) ∧ (¬ (((ByteArray.mk (List.toArray l115)) : ByteArray) = (ByteArray.mk (List.toArray l121))) → (
                                                            R (.bool false) H117))))))))) ∧ (¬ (t114 = false) → (
                                                            R (.bool false) H113))))))) ∧ (t96 = false → (
                                                            R (.bool false) H107))))) ∧ (¬ ((n93 : Int) = 1) → (
                                                            R (.bool false) H107))))) ∧ (¬ ((n87 : Int) = 4) → (
                                                            R (.bool false) H107))))) ∧ (¬ ((n81 : Int) = 4) → (
                                                            R (.bool false) H107))))) ∧ (¬ ((n78 : Int) = 0) → (
                                                            R (.bool false) H107))))) ∧ (¬ (((ByteArray.mk (List.toArray l105)) : ByteArray) = (ByteArray.mk (List.toArray l111))) → (
                                                            R (.bool false) H107))))))))) ∧ (¬ ((n34 : Int) = 1) → (
                                                            R (.bool false) H100))))) ∧ (¬ ((n28 : Int) = 1) → (
                                                            R (.bool false) H100))))) ∧ (¬ ((n23 : Int) = 1) → (
                                                            R (.bool false) H100))))) ∧ (¬ ((n8 : Int) = 1) → (
                                                            R (.bool false) H100))))) ∧ (¬ ((n4 : Int) = 1) → (
                                                            R (.bool false) H100))))))))))))))))))))))))))))))))))))) := by kernel_rfl


end Go.Proofs
end

section
open Go Go.Vc
namespace Go.Proofs

structure DevIn (H0 H : Heap) (F : Nat → Prop) (pd : Nat) (D : Dev) (n B : Nat) : Prop where
  dev : IsDev H F pd D
  wf : D.Wf n B
  low : ∀ i, F i → H0.size ≤ i
  ext : Ext [] H0 H

section
variable {H0 H H' : Heap} {F : Nat → Prop} {pd : Nat} {D D' : Dev} {n B B' : Nat}
theorem DevIn.more (h : DevIn H0 H F pd D n B) (hx : Ext [] H H') : DevIn H0 H' F pd D n B :=
  ⟨h.dev.ext hx.toP (by simp), h.wf, h.low, h.ext.trans hx⟩
theorem DevIn.step (h : DevIn H0 H F pd D n B) (hd : IsDev H' (grow F H H') pd D') (hx : ExtP F H H') (hw : D'.Wf n B') : DevIn H0 H' (grow F H H') pd D' n B' :=
  ⟨hd, hw, fun i hi => by
    rcases hi with hi | hi
    · exact h.low i hi
    · have := h.ext.size; omega, h.ext.transP hx h.low⟩
/-- Bytes in new memory. -/
theorem DevIn.fresh (h : DevIn H0 H F pd D n B) {a : Option Addr} {len cap : Nat} {xs : Bytes} (ho : Own H' 1 a len cap (bytesV xs)) (hf : ∀ i, i ∈ blkOf a → H.size ≤ i) : KeptB F H' a len cap xs :=
  KeptB.of (ho.row len cap) fun i hi hF => by
    have := h.dev.lt i hF
    have := hf i hi
    omega
end

theorem Dev.Wf.up {D : Dev} {n B B' : Nat} (h : D.Wf n B) (hB : B ≤ B') : D.Wf n B' := ⟨h.len, h.few, h.size, h.pin, by have := h.pfew; omega, h.fuse, ⟨h.works.1, by have := h.works.2; omega⟩⟩

theorem newWf {n : Nat} (hn : n ≤ 100000) : (newD n).Wf n 0 :=
  ⟨by simp [newD], hn, fun b hb => by
    have := List.eq_of_mem_replicate hb
    subst this; simp [zeros], by simp [newD], by simp [newD], ⟨by simp [newD], by simp [newD]⟩, ⟨by simp [newD], by simp [newD]⟩⟩

theorem write_good {D : Dev} {n : Nat} {k : Int} {b : Bytes} (hk : 0 ≤ k ∧ k < n) (hb : b.length = 128) (hf : D.fuse = -1) (hd : D.dead = false) :
    writeD D n k b = ({ D with pend := D.pend ++ [(k, b)], works := D.works + 1 }, 0) := by
  unfold writeD
  rw [if_neg (by omega)]
  have e : wk D = ({ D with works := D.works + 1 }, true) := by
    unfold wk
    rw [if_neg (by rw [hf, hd]; simp), hf]
    obtain ⟨k, p, f, d, w⟩ := D
    simp only at hf
    subst hf
    rfl
  rw [e]; rfl

theorem flush_good {D : Dev} (hf : D.fuse = -1) (hd : D.dead = false) : flushD D = ({ D with kept := D.now, pend := [], works := D.works + 1 }, 0) := by
  unfold flushD
  have e : wk D = ({ D with works := D.works + 1 }, true) := by
    unfold wk
    rw [if_neg (by rw [hf, hd]; simp), hf]
    obtain ⟨k, p, f, d, w⟩ := D
    simp only at hf
    subst hf
    rfl
  rw [e]; rfl

theorem blockB_length (c : UInt8) : (blockB c).length = 128 := by simp [blockB]

theorem ba_inj {l m : List UInt8} : (ByteArray.mk l.toArray = ByteArray.mk m.toArray) ↔ l = m := by
  constructor
  · intro h
    simpa using h
  · rintro rfl; rfl

theorem blockB_inj {c d : UInt8} : blockB c = blockB d ↔ c = d := by
  constructor
  · intro h
    have : (blockB c).getD 0 0 = (blockB d).getD 0 0 := by rw [h]
    exact this
  · rintro rfl; rfl

/-- A byte as an argument. -/
theorem block_arg (c : Int) (h0 : 0 ≤ c) (h1 : c < 256) (H : Heap) : Does Try.prog 18 [.int .u8 c] H fun v H' => ∃ b, v = .slice (some ⟨b, 0, none⟩) 128 128 ∧ Own H' 1 (some ⟨b, 0, none⟩) 128 128 (bytesV (blockB (UInt8.ofNat c.toNat))) ∧ Ext [] H H' ∧ H.size ≤ b := by
  have := block_ok (UInt8.ofNat c.toNat) H
  have e : ((UInt8.ofNat c.toNat).toNat : Int) = c := by
    rw [UInt8.toNat_ofNat', Nat.mod_eq_of_lt (by omega)]
    omega
  rw [e] at this
  exact this

theorem known4_ok (H : Heap) : Does Try.prog 14 [] H fun v H' => v = .bool true ∧ Ext [] H H' := by
  refine Fn_of_vc Try.mixed (vc_known4 _ _) ?_
  refine (dnew_ok 8 H).mono ?_
  rintro _ H2 ⟨hx2, ⟨h1, _⟩ | ⟨_, pd, rfl, hd2⟩⟩
  · omega
  have hn2 : ∀ {x : Addr}, ¬ ((some x : Option Addr) = none) := by intro x e; cases e
  have d2 : DevIn H H2 (grow none_ H H2) pd (newD 8) 8 0 := ⟨hd2, newWf (by decide), fun i hi => (grow_low i hi).1, hx2⟩
  generalize grow none_ H H2 = F2 at d2
  refine ⟨_, _, rfl, fun e => absurd rfl e, fun _ => ⟨fun e => absurd e hn2, fun _ => (block_arg 1 (by decide) (by decide) H2).mono ?_⟩⟩
  rintro _ H6 ⟨b7, rfl, ho7, hx6, hf7⟩
  have d6 := d2.more hx6
  refine ⟨_, _, _, rfl, (dwrite_ok d6.dev d6.wf (by decide) 1 (d2.fresh ho7 (by simpa [blkOf] using hf7))).mono ?_⟩
  rintro _ H11 ⟨rfl, hd11, hx11⟩
  have e1 := write_good (D := newD 8) (n := 8) (k := 1) (b := blockB (UInt8.ofNat (1 : Int).toNat)) (by decide) (blockB_length _) rfl rfl
  have d11 := d6.step hd11 hx11 (writeWf d6.wf _ _)
  rw [e1] at d11 ⊢
  refine ⟨_, rfl, fun e => absurd rfl e, fun _ => (block_arg 2 (by decide) (by decide) H11).mono ?_⟩
  rintro _ H14 ⟨b15, rfl, ho15, hx14, hf15⟩
  have d14 := d11.more hx14
  refine ⟨_, _, _, rfl, (dwrite_ok d14.dev d14.wf (by decide) 2 (d11.fresh ho15 (by simpa [blkOf] using hf15))).mono ?_⟩
  rintro _ H19 ⟨rfl, hd19, hx19⟩
  have d19 := d14.step hd19 hx19 (writeWf d14.wf _ _)
  rw [write_good (by decide) (blockB_length _) rfl rfl] at d19 ⊢
  refine ⟨_, rfl, fun e => absurd rfl e, fun _ => (dpending_ok d19.dev).mono ?_⟩
  rintro _ _ ⟨rfl, rfl⟩
  refine ⟨_, rfl, fun e => absurd rfl e, fun _ b24 H25 hn => ?_⟩
  have d25 := d19.more hn.ext
  have hm : KeptB _ H25 (some ⟨b24, 0, none⟩) 1 1 [2] := d19.fresh (xs := [2]) (by
    have := Own.of_new (size := 1) (len := 1) (cap := 1) hn.blk rfl (Nat.le_refl _) (by unfold maxLen; omega)
    exact this) (by intro i hi; simp only [blkOf, List.mem_singleton] at hi; have := hn.eq; omega)
  refine (dcrash_ok d25.dev d25.wf (by decide) hm).mono ?_
  rintro _ H27 ⟨rfl, hd27, hx27⟩
  have d27 := d25.step hd27 hx27 (crashWf d25.wf _)
  refine ⟨rfl, (dread_ok d27.dev d27.wf 1).mono ?_⟩
  rintro _ H29 ⟨hx29, ⟨h1, _⟩ | ⟨_, h1, _⟩ | ⟨_, _, a30, c32, x30, e30, rfl, ho30, _⟩⟩
  · exact absurd (by decide) h1
  · cases h1
  have d29 := d27.more hx29
  refine ⟨_, _, _, _, rfl, (dread_ok d29.dev d29.wf 2).mono ?_⟩
  rintro _ H35 ⟨hx35, ⟨h1, _⟩ | ⟨_, h1, _⟩ | ⟨_, _, a36, c38, x36, e36, rfl, ho36, _⟩⟩
  · exact absurd (by decide) h1
  · cases h1
  have d35 := d29.more hx35
  have ho30' := ho30.ext hx35 (by simp)
  refine ⟨_, _, _, _, rfl, fun _ => ⟨fun _ => ⟨x30, ho30'.row _ _, (block_arg 0 (by decide) (by decide) H35).mono ?_⟩, fun e => absurd rfl e⟩, fun e => absurd rfl e⟩
  rintro _ H42 ⟨b43, rfl, ho43, hx42, _⟩
  refine ⟨_, _, _, rfl, (ho30'.ext hx42 (by simp)).row _ _, blockB (UInt8.ofNat (0 : Int).toNat), ho43.row _ _, fun _ => ⟨x36, (ho36.ext hx42 (by simp)).row _ _, (block_arg 2 (by decide) (by decide) H42).mono ?_⟩, fun e => absurd (ba_inj.2 ?_) e⟩
  · rintro _ H49 ⟨b50, rfl, ho50, hx49, _⟩
    have d49 := d35.more (hx42.trans hx49)
    refine ⟨_, _, _, rfl, (ho36.ext (hx42.trans hx49) (by simp)).row _ _, blockB (UInt8.ofNat (2 : Int).toNat), ho50.row _ _, fun _ => (dpending_ok d49.dev).mono ?_, fun e => absurd (ba_inj.2 ?_) e⟩
    · rintro _ _ ⟨rfl, rfl⟩
      exact ⟨_, rfl, yes rfl, d49.ext⟩
    · have : some (blockB (UInt8.ofNat (2 : Int).toNat)) = some x36 := by rw [← e36]; rfl
      exact (Option.some.inj this).symm
  · have : some (blockB (UInt8.ofNat (0 : Int).toNat)) = some x30 := by rw [← e30]; rfl
    exact (Option.some.inj this).symm

end Go.Proofs
end

