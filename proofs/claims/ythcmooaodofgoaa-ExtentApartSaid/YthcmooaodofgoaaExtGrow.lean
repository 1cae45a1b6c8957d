/-
  The contracts of Grow and Shrink, and of their references. No condition.
-/
import Derived.Test.YthcmooaodofgoaaProg
import Derived.Test.YthcmooaodofgoaaVc
import Derived.Test.YthcmooaodofgoaaExt

section
open Go Go.Vc
namespace Go.Proofs
set_option maxRecDepth 100000
/-- pentimento/extent.Grow -/
theorem vc_grow (x0 : Option Addr) (x1 : Option Addr) (x1l : Nat) (x1c : Nat) (x2 : Int) (x3 : Int) (H : Heap) (R : Value → Heap → Prop) : Walk Try.prog 32 [] [(.pointer x0), (.slice x1 x1l x1c), (.int .i64 x2), (.int .i64 x3)] H R = (
  ((((x0 : Option Addr) = none) → (
        R (.tuple #[(.slice none 0 0), (.bool false)]) H)) ∧ (¬ ((x0 : Option Addr) = none) → (
        Does Try.prog 20 [(.pointer x0)] H fun v1 H2 => ∃ n3 : Int, v1 = (.int .i64 n3) ∧ (
          Does Try.prog 40 [(.slice x1 x1l x1c), (.int .i64 0), (.int .i64 n3)] H2 fun v4 H5 => ∃ t6 : Bool, v4 = (.bool t6) ∧ (
            (((t6 = false) → (
                  R (.tuple #[(.slice none 0 0), (.bool false)]) H5)) ∧ (¬ (t6 = false) → (
                  Does Try.prog 47 [(.pointer x0), (.int .i64 x2), (.int .i64 x3)] H5 fun v7 H8 => ∃ a9 : Option Addr, ∃ l10 : Nat, ∃ c11 : Nat, ∃ t12 : Bool, v7 = (.tuple #[(.slice a9 l10 c11), (.bool t12)]) ∧ (
                    (((t12 = false) → (
                          R (.tuple #[(.slice none 0 0), (.bool false)]) H8)) ∧ (¬ (t12 = false) → (
                          Does Try.prog 48 [(.slice x1 x1l x1c)] H8 fun v13 H14 => ∃ a15 : Option Addr, ∃ l16 : Nat, ∃ c17 : Nat, v13 = (.slice a15 l16 c17) ∧ (
                            ∃ I18 : Option Addr → Nat → Nat → Int → Heap → Prop, ∃ μ19 : Option Addr → Nat → Nat → Int → Heap → Nat, (I18 a15 l16 c17 0 H14) ∧
                            ∀ a20 : Option Addr, ∀ l21 : Nat, ∀ c22 : Nat, ∀ n23 : Int, ∀ H24 : Heap, I18 a20 l21 c22 n23 H24 → (
                              ((((n23 : Int) < (l10 : Int)) → (
                                    (0 : Int) ≤ n23 ∧ (n23 : Int) < (l10 : Int) ∧ ∃ b25 o26 : Nat, a9 = some (⟨b25, o26, none⟩ : Addr) ∧ (
                                      ∃ n27 : Int, hcell H24 b25 (o26 + (Int.toNat n23) * 2) = some (.int .i64 n27) ∧ (
                                        ∃ n28 : Int, hcell H24 b25 ((o26 + (Int.toNat n23) * 2) + 1) = some (.int .i64 n28) ∧ (
                                          ∀ b29 : Nat, ∀ H30 : Heap, New H24 b29 [(.int .i64 0), (.int .i64 0)] 73 H30 → (
                                            Cells H30 b29 0 2 ∧ ∀ H31 : Heap, Puts H30 b29 0 [(.int .i64 n27), (.int .i64 n28)] H31 → (
                                              (In64 ((l21 : Int) - 1)) ∧
                                              ((((0 : Int) ≤ ((l21 : Int) - 1)) → (
                                                    (0 : Int) ≤ ((l21 : Int) - 1) ∧ (((l21 : Int) - 1) : Int) < (l21 : Int) ∧ ∃ b32 o33 : Nat, a20 = some (⟨b32, o33, none⟩ : Addr) ∧ (
                                                      ∃ n34 : Int, hcell H31 b32 (o33 + (Int.toNat ((l21 : Int) - 1)) * 2) = some (.int .i64 n34) ∧ (
                                                        (0 : Int) ≤ ((l21 : Int) - 1) ∧ (((l21 : Int) - 1) : Int) < (l21 : Int) ∧ ∃ b35 o36 : Nat, a20 = some (⟨b35, o36, none⟩ : Addr) ∧ (
                                                          ∃ n37 : Int, hcell H31 b35 ((o36 + (Int.toNat ((l21 : Int) - 1)) * 2) + 1) = some (.int .i64 n37) ∧ (
                                                            (In64 (n34 + n37)) ∧
                                                            ∃ n38 : Int, hcell H31 b29 0 = some (.int .i64 n38) ∧ (
                                                            (((((n34 + n37) : Int) = n38) → (
                                                            (0 : Int) ≤ ((l21 : Int) - 1) ∧ (((l21 : Int) - 1) : Int) < (l21 : Int) ∧ ∃ b39 o40 : Nat, a20 = some (⟨b39, o40, none⟩ : Addr) ∧ (
                                                            ∃ n41 : Int, hcell H31 b39 ((o40 + (Int.toNat ((l21 : Int) - 1)) * 2) + 1) = some (.int .i64 n41) ∧ (
                                                            ∃ n42 : Int, hcell H31 b29 (0 + 1) = some (.int .i64 n42) ∧ (
                                                            (In64 (n41 + n42)) ∧
                                                            (0 : Int) ≤ ((l21 : Int) - 1) ∧ (((l21 : Int) - 1) : Int) < (l21 : Int) ∧ ∃ b43 o44 : Nat, a20 = some (⟨b43, o44, none⟩ : Addr) ∧ (
                                                            Cells H31 b43 ((o44 + (Int.toNat ((l21 : Int) - 1)) * 2) + 1) 1 ∧ ∀ H45 : Heap, Puts H31 b43 ((o44 + (Int.toNat ((l21 : Int) - 1)) * 2) + 1) [(.int .i64 (n41 + n42))] H45 → (
                                                            ((In64 (n23 + 1)) ∧
                                                            (I18 a20 l21 c22 (n23 + 1) H45) ∧ μ19 a20 l21 c22 (n23 + 1) H45 < μ19 a20 l21 c22 n23 H24)))))))) ∧ (¬ (((n34 + n37) : Int) = n38) → (
                                                            ∃ n46 : Int, hcell H31 b29 0 = some (.int .i64 n46) ∧ (
                                                            ∃ n47 : Int, hcell H31 b29 (0 + 1) = some (.int .i64 n47) ∧ (
                                                            ∀ b48 : Nat, ∀ H49 : Heap, New H31 b48 [(.int .i64 n46), (.int .i64 n47)] 73 H49 → (
                                                            ∃ old50 new51 : List Value, SRow H49 2 l21 (.slice a20 l21 c22) old50 ∧ SRow H49 2 1 (.slice (some (⟨b48, 0, none⟩ : Addr)) 1 1) new51 ∧ (∀ u ∈ new51, Value.oneCell' u = true) ∧ (l21 + 1) * 16 ≤ 140737488355328 ∧ (l21 + 1 ≤ c22 → roomOf H49 a20 (l21 * 2) (1 * 2)) ∧ ∀ a52 : Option Addr, ∀ c53 : Nat, ∀ H54 : Heap, App H49 2 73 [(.int .i64 0), (.int .i64 0)] a20 l21 c22 old50 new51 1 a52 c53 H54 → (
                                                            (In64 (n23 + 1)) ∧
                                                            (I18 a52 (l21 + 1) c53 (n23 + 1) H54) ∧ μ19 a52 (l21 + 1) c53 (n23 + 1) H54 < μ19 a20 l21 c22 n23 H24)))))))))))))) ∧ (¬ ((0 : Int) ≤ ((l21 : Int) - 1)) → (
                                                    ∃ n55 : Int, hcell H31 b29 0 = some (.int .i64 n55) ∧ (
                                                      ∃ n56 : Int, hcell H31 b29 (0 + 1) = some (.int .i64 n56) ∧ (
                                                        ∀ b57 : Nat, ∀ H58 : Heap, New H31 b57 [(.int .i64 n55), (.int .i64 n56)] 73 H58 → (
                                                          ∃ old59 new60 : List Value, SRow H58 2 l21 (.slice a20 l21 c22) old59 ∧ SRow H58 2 1 (.slice (some (⟨b57, 0, none⟩ : Addr)) 1 1) new60 ∧ (∀ u ∈ new60, Value.oneCell' u = true) ∧ (l21 + 1) * 16 ≤ 140737488355328 ∧ (l21 + 1 ≤ c22 → roomOf H58 a20 (l21 * 2) (1 * 2)) ∧ ∀ a61 : Option Addr, ∀ c62 : Nat, ∀ H63 : Heap, App H58 2 73 [(.int .i64 0), (.int .i64 0)] a20 l21 c22 old59 new60 1 a61 c62 H63 → (
                                                            (In64 (n23 + 1)) ∧
                                                            (I18 a61 (l21 + 1) c62 (n23 + 1) H63) ∧ μ19 a61 (l21 + 1) c62 (n23 + 1) H63 < μ19 a20 l21 c22 n23 H24)))))))))))))) ∧ (¬ ((n23 : Int) < (l10 : Int)) → (
                                    ((((6 : Int) < (l21 : Int)) → (
                                          R (.tuple #[(.slice none 0 0), (.bool false)]) H24)) ∧ (¬ ((6 : Int) < (l21 : Int)) → (
                                          Does Try.prog 49 [(.pointer x0), (.slice a9 l10 c11), (.bool true)] H24 fun v64 H65 => v64 = (.tuple #[]) ∧ (
                                            R (.tuple #[(.slice a20 l21 c22), (.bool true)]) H65)))))))))))))))))))))) := by kernel_rfl


/-- pentimento/pentimentoref6.Grow -/
theorem vc_rgrow (x0 : Option Addr) (x1 : Option Addr) (x1l : Nat) (x1c : Nat) (x2 : Int) (x3 : Int) (H : Heap) (R : Value → Heap → Prop) : Walk Try.prog 30 [] [(.pointer x0), (.slice x1 x1l x1c), (.int .i64 x2), (.int .i64 x3)] H R = (
  ((((x3 : Int) < 0) → (
        R (.tuple #[(.slice none 0 0), (.bool false)]) H)) ∧ (¬ ((x3 : Int) < 0) → (
        ∃ b1 o2 : Nat, x0 = some (⟨b1, o2, none⟩ : Addr) ∧ (
          ∃ a3 : Option Addr, ∃ l4 : Nat, ∃ c5 : Nat, hcell H b1 o2 = some (.slice a3 l4 c5) ∧ (
            Does Try.prog 42 [(.slice x1 x1l x1c), (.int .i64 0), (.int .i64 (l4 : Int))] H fun v6 H7 => ∃ t8 : Bool, v6 = (.bool t8) ∧ (
              (((t8 = false) → (
                    R (.tuple #[(.slice none 0 0), (.bool false)]) H7)) ∧ (¬ (t8 = false) → (
                    Does Try.prog 45 [(.slice x1 x1l x1c)] H7 fun v9 H10 => ∃ a11 : Option Addr, ∃ l12 : Nat, ∃ c13 : Nat, v9 = (.slice a11 l12 c13) ∧ (
                      ∃ I14 : Option Addr → Nat → Nat → Int → Int → Heap → Prop, ∃ μ15 : Option Addr → Nat → Nat → Int → Int → Heap → Nat, (I14 a11 l12 c13 x3 (max 0 x2) H10) ∧
                      ∀ a16 : Option Addr, ∀ l17 : Nat, ∀ c18 : Nat, ∀ n19 : Int, ∀ n20 : Int, ∀ H21 : Heap, I14 a16 l17 c18 n19 n20 H21 → (
                        ∃ b22 o23 : Nat, x0 = some (⟨b22, o23, none⟩ : Addr) ∧ (
                          ∃ a24 : Option Addr, ∃ l25 : Nat, ∃ c26 : Nat, hcell H21 b22 o23 = some (.slice a24 l25 c26) ∧ (
                            ((((n20 : Int) < (l25 : Int)) → (
                                  ((((0 : Int) < n19) → (
                                        ∃ b27 o28 : Nat, x0 = some (⟨b27, o28, none⟩ : Addr) ∧ (
                                          ∃ a29 : Option Addr, ∃ l30 : Nat, ∃ c31 : Nat, hcell H21 b27 o28 = some (.slice a29 l30 c31) ∧ (
                                            (0 : Int) ≤ n20 ∧ (n20 : Int) < (l30 : Int) ∧ ∃ b32 o33 : Nat, a29 = some (⟨b32, o33, none⟩ : Addr) ∧ (
                                              ∃ t34 : Bool, hcell H21 b32 (o33 + (Int.toNat n20)) = some (.bool t34) ∧ (
                                                (((t34 = false) → (
                                                      ∀ b35 : Nat, ∀ H36 : Heap, New H21 b35 [(.int .i64 n20)] 3 H36 → (
                                                        ∃ old37 new38 : List Value, SRow H36 1 l17 (.slice a16 l17 c18) old37 ∧ SRow H36 1 1 (.slice (some (⟨b35, 0, none⟩ : Addr)) 1 1) new38 ∧ (∀ u ∈ new38, Value.oneCell' u = true) ∧ (l17 + 1) * 8 ≤ 140737488355328 ∧ (l17 + 1 ≤ c18 → roomOf H36 a16 (l17 * 1) (1 * 1)) ∧ ∀ a39 : Option Addr, ∀ c40 : Nat, ∀ H41 : Heap, App H36 1 3 [(.int .i64 0)] a16 l17 c18 old37 new38 1 a39 c40 H41 → (
                                                          (In64 (n19 - 1)) ∧
                                                          (In64 (n20 + 1)) ∧
                                                          (I14 a39 (l17 + 1) c40 (n19 - 1) (n20 + 1) H41) ∧ μ15 a39 (l17 + 1) c40 (n19 - 1) (n20 + 1) H41 < μ15 a16 l17 c18 n19 n20 H21)))) ∧ (¬ (t34 = false) → (
                                                      (In64 (n20 + 1)) ∧
                                                      (I14 a16 l17 c18 n19 (n20 + 1) H21) ∧ μ15 a16 l17 c18 n19 (n20 + 1) H21 < μ15 a16 l17 c18 n19 n20 H21))))))))) ∧ (¬ ((0 : Int) < n19) → (
                                        Does Try.prog 46 [(.slice a16 l17 c18)] H21 fun v42 H43 => ∃ a44 : Option Addr, ∃ l45 : Nat, ∃ c46 : Nat, v42 = (.slice a44 l45 c46) ∧ (
                                          ((((0 : Int) < n19) → (
                                                R (.tuple #[(.slice none 0 0), (.bool false)]) H43)) ∧ (¬ ((0 : Int) < n19) → (
                                                ((((6 : Int) < (l45 : Int)) → (
                                                      R (.tuple #[(.slice none 0 0), (.bool false)]) H43)) ∧ (¬ ((6 : Int) < (l45 : Int)) → (
                                                      ∃ I47 : Int → Heap → Prop, ∃ μ48 : Int → Heap → Nat, (I47 (l12 : Int) H43) ∧
                                                      ∀ n49 : Int, ∀ H50 : Heap, I47 n49 H50 → (
                                                        ((((n49 : Int) < (l17 : Int)) → (
                                                            ∃ b51 o52 : Nat, x0 = some (⟨b51, o52, none⟩ : Addr) ∧ (
                                                            ∃ a53 : Option Addr, ∃ l54 : Nat, ∃ c55 : Nat, hcell H50 b51 o52 = some (.slice a53 l54 c55) ∧ (
                                                            (0 : Int) ≤ n49 ∧ (n49 : Int) < (l17 : Int) ∧ ∃ b56 o57 : Nat, a16 = some (⟨b56, o57, none⟩ : Addr) ∧ (
                                                            ∃ n58 : Int, hcell H50 b56 (o57 + (Int.toNat n49)) = some (.int .i64 n58) ∧ (
                                                            (0 : Int) ≤ n58 ∧ (n58 : Int) < (l54 : Int) ∧ ∃ b59 o60 : Nat, a53 = some (⟨b59, o60, none⟩ : Addr) ∧ (
                                                            Cells H50 b59 (o60 + (Int.toNat n58)) 1 ∧ ∀ H61 : Heap, Puts H50 b59 (o60 + (Int.toNat n58)) [(.bool true)] H61 → (
                                                            ((In64 (n49 + 1)) ∧
                                                            (I47 (n49 + 1) H61) ∧ μ48 (n49 + 1) H61 < μ48 n49 H50))))))))) ∧ (¬ ((n49 : Int) < (l17 : Int)) → (
                                                            R (.tuple #[(.slice a44 l45 c46), (.bool true)]) H50)))))))))))))))) ∧ (¬ ((n20 : Int) < (l25 : Int)) → (
                                  Does Try.prog 46 [(.slice a16 l17 c18)] H21 fun v62 H63 => ∃ a64 : Option Addr, ∃ l65 : Nat, ∃ c66 : Nat, v62 = (.slice a64 l65 c66) ∧ (
                                    ((((0 : Int) < n19) → (
                                          R (.tuple #[(.slice none 0 0), (.bool false)]) H63)) ∧ (¬ ((0 : Int) < n19) → (
                                          ((((6 : Int) < (l65 : Int)) → (
                                                R (.tuple #[(.slice none 0 0), (.bool false)]) H63)) ∧ (¬ ((6 : Int) < (l65 : Int)) → (
                                                ∃ I67 : Int → Heap → Prop, ∃ μ68 : Int → Heap → Nat, (I67 (l12 : Int) H63) ∧
                                                ∀ n69 : Int, ∀ H70 : Heap, I67 n69 H70 → (
                                                  ((((n69 : Int) < (l17 : Int)) → (
                                                        ∃ b71 o72 : Nat, x0 = some (⟨b71, o72, none⟩ : Addr) ∧ (
                                                          ∃ a73 : Option Addr, ∃ l74 : Nat, ∃ c75 : Nat, hcell H70 b71 o72 = some (.slice a73 l74 c75) ∧ (
                                                            (0 : Int) ≤ n69 ∧ (n69 : Int) < (l17 : Int) ∧ ∃ b76 o77 : Nat, a16 = some (⟨b76, o77, none⟩ : Addr) ∧ (
                                                            ∃ n78 : Int, hcell H70 b76 (o77 + (Int.toNat n69)) = some (.int .i64 n78) ∧ (
                                                            (0 : Int) ≤ n78 ∧ (n78 : Int) < (l74 : Int) ∧ ∃ b79 o80 : Nat, a73 = some (⟨b79, o80, none⟩ : Addr) ∧ (
                                                            Cells H70 b79 (o80 + (Int.toNat n78)) 1 ∧ ∀ H81 : Heap, Puts H70 b79 (o80 + (Int.toNat n78)) [(.bool true)] H81 → (
                                                            ((In64 (n69 + 1)) ∧
                                                            (I67 (n69 + 1) H81) ∧ μ68 (n69 + 1) H81 < μ68 n69 H70))))))))) ∧ (¬ ((n69 : Int) < (l17 : Int)) → (
                                                        R (.tuple #[(.slice a64 l65 c66), (.bool true)]) H70)))))))))))))))))))))))))))) := by kernel_rfl


/-- pentimento/extent.Shrink -/
theorem vc_shrink (x0 : Option Addr) (x1 : Option Addr) (x1l : Nat) (x1c : Nat) (x2 : Int) (H : Heap) (R : Value → Heap → Prop) : Walk Try.prog 33 [] [(.pointer x0), (.slice x1 x1l x1c), (.int .i64 x2)] H R = (
  ((((x0 : Option Addr) = none) → (
        R (.slice none 0 0) H)) ∧ (¬ ((x0 : Option Addr) = none) → (
        Does Try.prog 20 [(.pointer x0)] H fun v1 H2 => ∃ n3 : Int, v1 = (.int .i64 n3) ∧ (
          Does Try.prog 40 [(.slice x1 x1l x1c), (.int .i64 0), (.int .i64 n3)] H2 fun v4 H5 => ∃ t6 : Bool, v4 = (.bool t6) ∧ (
            (((t6 = false) → (
                  R (.slice none 0 0) H5)) ∧ (¬ (t6 = false) → (
                  ∃ I7 : Option Addr → Nat → Nat → Int → Int → Heap → Prop, ∃ μ8 : Option Addr → Nat → Nat → Int → Int → Heap → Nat, (I7 none 0 0 (max x2 0) 0 H5) ∧
                  ∀ a9 : Option Addr, ∀ l10 : Nat, ∀ c11 : Nat, ∀ n12 : Int, ∀ n13 : Int, ∀ H14 : Heap, I7 a9 l10 c11 n12 n13 H14 → (
                    ((((n13 : Int) < (x1l : Int)) → (
                          (0 : Int) ≤ n13 ∧ (n13 : Int) < (x1l : Int) ∧ ∃ b15 o16 : Nat, x1 = some (⟨b15, o16, none⟩ : Addr) ∧ (
                            ∃ n17 : Int, hcell H14 b15 (o16 + (Int.toNat n13) * 2) = some (.int .i64 n17) ∧ (
                              ∃ n18 : Int, hcell H14 b15 ((o16 + (Int.toNat n13) * 2) + 1) = some (.int .i64 n18) ∧ (
                                ∀ b19 : Nat, ∀ H20 : Heap, New H14 b19 [(.int .i64 0), (.int .i64 0)] 73 H20 → (
                                  Cells H20 b19 0 2 ∧ ∀ H21 : Heap, Puts H20 b19 0 [(.int .i64 n17), (.int .i64 n18)] H21 → (
                                    ∃ n22 : Int, hcell H21 b19 (0 + 1) = some (.int .i64 n22) ∧ (
                                      ((((0 : Int) < (min n12 n22)) → (
                                            ∃ n23 : Int, hcell H21 b19 0 = some (.int .i64 n23) ∧ (
                                              ∀ b24 : Nat, ∀ H25 : Heap, New H21 b24 [(.int .i64 n23), (.int .i64 (min n12 n22))] 73 H25 → (
                                                ∃ old26 new27 : List Value, SRow H25 2 l10 (.slice a9 l10 c11) old26 ∧ SRow H25 2 1 (.slice (some (⟨b24, 0, none⟩ : Addr)) 1 1) new27 ∧ (∀ u ∈ new27, Value.oneCell' u = true) ∧ (l10 + 1) * 16 ≤ 140737488355328 ∧ (l10 + 1 ≤ c11 → roomOf H25 a9 (l10 * 2) (1 * 2)) ∧ ∀ a28 : Option Addr, ∀ c29 : Nat, ∀ H30 : Heap, App H25 2 73 [(.int .i64 0), (.int .i64 0)] a9 l10 c11 old26 new27 1 a28 c29 H30 → (
                                                  ∃ n31 : Int, hcell H30 b19 0 = some (.int .i64 n31) ∧ (
                                                    (In64 (n31 + (min n12 n22))) ∧
                                                    ∃ n32 : Int, hcell H30 b19 (0 + 1) = some (.int .i64 n32) ∧ (
                                                      (In64 (n32 - (min n12 n22))) ∧
                                                      ∀ b33 : Nat, ∀ H34 : Heap, New H30 b33 [(.int .i64 (n31 + (min n12 n22))), (.int .i64 (n32 - (min n12 n22)))] 73 H34 → (
                                                        Does Try.prog 49 [(.pointer x0), (.slice (some (⟨b33, 0, none⟩ : Addr)) 1 1), (.bool false)] H34 fun v35 H36 => v35 = (.tuple #[]) ∧ (
                                                          (In64 (n12 - (min n12 n22))) ∧
                                                          (In64 (n13 + 1)) ∧
                                                          (I7 a28 (l10 + 1) c29 (n12 - (min n12 n22)) (n13 + 1) H36) ∧ μ8 a28 (l10 + 1) c29 (n12 - (min n12 n22)) (n13 + 1) H36 < μ8 a9 l10 c11 n12 n13 H14))))))))) ∧ (¬ ((0 : Int) < (min n12 n22)) → (
                                            ∃ n37 : Int, hcell H21 b19 0 = some (.int .i64 n37) ∧ (
                                              (In64 (n37 + (min n12 n22))) ∧
                                              ∃ n38 : Int, hcell H21 b19 (0 + 1) = some (.int .i64 n38) ∧ (
                                                (In64 (n38 - (min n12 n22))) ∧
                                                ∀ b39 : Nat, ∀ H40 : Heap, New H21 b39 [(.int .i64 (n37 + (min n12 n22))), (.int .i64 (n38 - (min n12 n22)))] 73 H40 → (
                                                  Does Try.prog 49 [(.pointer x0), (.slice (some (⟨b39, 0, none⟩ : Addr)) 1 1), (.bool false)] H40 fun v41 H42 => v41 = (.tuple #[]) ∧ (
                                                    (In64 (n12 - (min n12 n22))) ∧
                                                    (In64 (n13 + 1)) ∧
                                                    (I7 a9 l10 c11 (n12 - (min n12 n22)) (n13 + 1) H42) ∧ μ8 a9 l10 c11 (n12 - (min n12 n22)) (n13 + 1) H42 < μ8 a9 l10 c11 n12 n13 H14))))))))))))))) ∧ (¬ ((n13 : Int) < (x1l : Int)) → (
                          R (.slice a9 l10 c11) H14))))))))))))) := by kernel_rfl


/-- pentimento/pentimentolaw7.known -/
theorem vc_known7 (H : Heap) (R : Value → Heap → Prop) : Walk Try.prog 28 [] [] H R = (
  ∀ b1 : Nat, ∀ H2 : Heap, New H b1 [(.int .i64 1)] 3 H2 → (
    Does Try.prog 27 [(.int .i64 8), (.slice (some (⟨b1, 0, none⟩ : Addr)) 1 1)] H2 fun v3 H4 => ∃ p5 : Option Addr, ∃ p6 : Option Addr, v3 = (.tuple #[(.pointer p5), (.pointer p6)]) ∧ (
      ((((p5 : Option Addr) = none) → (
            R (.bool false) H4)) ∧ (¬ ((p5 : Option Addr) = none) → (
            Does Try.prog 29 [(.pointer p5), (.int .i64 0), (.int .i64 3)] H4 fun v7 H8 => ∃ a9 : Option Addr, ∃ l10 : Nat, ∃ c11 : Nat, ∃ t12 : Bool, v7 = (.tuple #[(.slice a9 l10 c11), (.bool t12)]) ∧ (
              ((t12 = true → (
                    (((((l10 : Int) : Int) = 2) → (
                          (0 : Int) ≤ 0 ∧ (0 : Int) < (l10 : Int) ∧ ∃ b13 o14 : Nat, a9 = some (⟨b13, o14, none⟩ : Addr) ∧ (
                            ∃ n15 : Int, hcell H8 b13 (o14 + (Int.toNat 0) * 2) = some (.int .i64 n15) ∧ (
                              ∃ n16 : Int, hcell H8 b13 ((o14 + (Int.toNat 0) * 2) + 1) = some (.int .i64 n16) ∧ (
                                (((((n15 : Int) = 0) ∧ ((n16 : Int) = 1)) → (
                                      (0 : Int) ≤ 1 ∧ (1 : Int) < (l10 : Int) ∧ ∃ b17 o18 : Nat, a9 = some (⟨b17, o18, none⟩ : Addr) ∧ (
                                        ∃ n19 : Int, hcell H8 b17 (o18 + (Int.toNat 1) * 2) = some (.int .i64 n19) ∧ (
                                          ∃ n20 : Int, hcell H8 b17 ((o18 + (Int.toNat 1) * 2) + 1) = some (.int .i64 n20) ∧ (
                                            (((((n19 : Int) = 2) ∧ ((n20 : Int) = 2)) → (
                                                  Does Try.prog 17 [(.pointer p5)] H8 fun v21 H22 => ∃ n23 : Int, v21 = (.int .i64 n23) ∧ (
                                                    R (.bool (@decide ((n23 : Int) = 4) (Classical.propDecidable _))) H22))) ∧ (¬ (((n19 : Int) = 2) ∧ ((n20 : Int) = 2)) → (
                                                  R (.bool false) H8)))))))) ∧ (¬ (((n15 : Int) = 0) ∧ ((n16 : Int) = 1)) → (
                                      R (.bool false) H8)))))))) ∧ (¬ (((l10 : Int) : Int) = 2) → (
                          R (.bool false) H8))))) ∧ (t12 = false → (
                    R (.bool false) H8)))))))))) := by kernel_rfl


end Go.Proofs
end

section
open Go Go.Vc
namespace Go.Proofs

theorem blkW_blkI {p : Pc} (h : 0 ≤ p.s ∧ p.s + p.c ≤ 1000000000000) : blkW p = blkI p := by
  unfold blkW blkI
  refine List.map_congr_left fun k hk => ?_
  have := List.mem_range.1 hk
  exact wrap_of_in64 ⟨by omega, by omega⟩

theorem blocksW_I : ∀ {l : List Pc}, (∀ p ∈ l, 0 ≤ p.s ∧ p.s + p.c ≤ 1000000000000) → blocksW l = blocksI l
  | [], _ => rfl
  | p :: l, h => by
    have h1 := blkW_blkI (h p (by simp))
    have h2 := blocksW_I (l := l) (fun q hq => h q (by simp [hq]))
    unfold blocksW blocksI at h2 ⊢
    rw [List.map_cons, List.map_cons, List.flatten_cons, List.flatten_cons, h1, h2]

theorem right_in {l : List Pc} {a e : Int} (h : RightP l a e) : ∀ p ∈ l, 1 ≤ p.c ∧ a ≤ p.s ∧ p.s + p.c ≤ e := by
  intro p hp
  obtain ⟨i, hi, rfl⟩ := List.mem_iff_getElem.1 hp
  have := (h.2 i _ (List.getElem?_eq_getElem hi)).1
  exact ⟨this.1, this.2.1, by have := this.2.2.2; omega⟩

theorem mem_blkI {p : Pc} {x : Int} (h : x ∈ blkI p) : p.s ≤ x ∧ x < p.s + p.c := by
  simp only [blkI, List.mem_map, List.mem_range] at h
  obtain ⟨k, hk, rfl⟩ := h
  omega

theorem mem_blocksI {l : List Pc} {x : Int} (h : x ∈ blocksI l) : ∃ p ∈ l, p.s ≤ x ∧ x < p.s + p.c := by
  simp only [blocksI, List.mem_flatten, List.mem_map] at h
  obtain ⟨_, ⟨p, hp, rfl⟩, hx⟩ := h
  exact ⟨p, hp, mem_blkI hx⟩

theorem right_few {l : List Pc} {e : Int} (h : RightP l 0 e) (he : e ≤ 100000) : (blocksI l).length ≤ 600000 := by
  have h1 := blocksI_length (right_pos h)
  have h2 := totalP_le (l := l) (m := 100000) (by decide) (fun i p hp => by
    have := right_in h p (List.mem_of_getElem? hp)
    omega)
  have := h.1
  omega

/-- Goes it well? -/
def growOk (bs : List Bool) (l : List Pc) (k n : Int) : Prop :=
  RightP l 0 bs.length ∧ 0 ≤ n ∧ (foundF bs k n.toNat).length = n.toNat ∧ (piecesF (blocksI l ++ foundF bs k n.toNat)).length ≤ 6

def growF (bs : List Bool) (l : List Pc) (k n : Int) : List Pc := piecesF (blocksI l ++ foundF bs k n.toNat)

def GrowR (H H' : Heap) (bs : List Bool) (l : List Pc) (k n : Int) (v : Value) (bs' : List Bool) : Prop :=
  (¬ growOk bs l k n ∧ v = .tuple #[.slice none 0 0, .bool false] ∧ bs' = bs) ∨
  (growOk bs l k n ∧ bs' = setAll bs (foundF bs k n.toNat) true ∧ ∃ a c, v = .tuple #[.slice a (growF bs l k n).length c, .bool true] ∧ Own H' 2 a (growF bs l k n).length c (piecesV (growF bs l k n)) ∧ (∀ k, k ∈ blkOf a → H.size ≤ k))

theorem Pc.eta (q : Pc) : (⟨q.s, q.c⟩ : Pc) = q := rfl

theorem lenm_ok {H : Heap} {pb : Nat} {a : Option Addr} {c : Nat} {bs : List Bool} (h : IsB H pb a c bs) : Does Try.prog 20 [.pointer (some ⟨pb, 0, none⟩)] H fun v H' => v = .int .i64 bs.length ∧ H = H' := by
  obtain ⟨xs, hm, _⟩ := h
  exact len_ok hm

theorem pushP_bd {B : Int} {rs : List Pc} {p : Pc} (h : BlkBd B rs) (h0 : 0 ≤ p.s) (hc : 1 ≤ p.c) (h1 : p.s + p.c ≤ B + 1) : BlkBd B (pushP rs p) := by
  intro x hp
  cases rs with
  | nil =>
    simp only [pushP, List.mem_singleton] at hp
    subst hp
    exact ⟨h0, hc, h1⟩
  | cons q r =>
    simp only [pushP] at hp
    have hq := h q (by simp)
    split at hp
    · rcases List.mem_cons.1 hp with rfl | hp
      · exact ⟨hq.1, by simp only; omega, by simp only; omega⟩
      · exact h x (by simp [hp])
    · rcases List.mem_cons.1 hp with rfl | hp
      · exact ⟨h0, hc, h1⟩
      · exact h x hp

theorem pushP_length (rs : List Pc) (b : Pc) : (pushP rs b).length ≤ rs.length + 1 := by
  unfold pushP
  split
  · simp
  · split <;> simp

theorem grow_ok {H : Heap} {pb : Nat} {a : Option Addr} {c : Nat} {bs : List Bool} (h : IsB H pb a c bs) {a1 : Option Addr} {len cap : Nat} {l : List Pc} (hp : Pcs H a1 len l) (_hd : ∀ k, k ∈ blkOf a1 → k ∉ blkOf a) (hc : len ≤ cap) (k n : Int)
    (hk : k ≤ 9223372036854775807) (hn : -9223372036854775808 ≤ n ∧ n ≤ 9223372036854775807) (hN : bs.length ≤ 100000) :
    Does Try.prog 32 [.pointer (some ⟨pb, 0, none⟩), .slice a1 len cap, .int .i64 k, .int .i64 n] H fun v H' => ∃ bs', GrowR H H' bs l k n v bs' ∧ IsB H' pb a c bs' ∧ Ext (blkOf a) H H' := by
  refine Fn_of_vc Try.mixed (vc_grow _ _ _ _ _ _ _ _) ?_
  have hlen := hp.leng
  have hsm := h.small
  refine ⟨fun h0 => (by cases h0), fun _ => (lenm_ok h).mono ?_⟩
  rintro _ _ ⟨rfl, rfl⟩
  refine ⟨_, rfl, (right_ok hp hc 0 bs.length (by decide) (by decide) (by omega)).mono ?_⟩
  rintro _ H5 ⟨rfl, hx5⟩
  have hb5 := h.ext hx5 (by simp) (by simp)
  refine ⟨_, rfl, fun h1 => ⟨bs, .inl ⟨fun hg => ?_, rfl, rfl⟩, hb5, hx5.any⟩, fun h1 => ?_⟩
  · rw [← decP_true hg.1] at h1; cases h1
  have hR : RightP l 0 bs.length := @of_decide_eq_true _ (Classical.propDecidable _) (eq_true_of_ne_false h1)
  have hl6 := hR.1
  refine (found_ok hb5 k n hk hn).mono ?_
  rintro _ H8 ⟨hf, hx8⟩
  have hb8 := hb5.ext hx8 (by simp) (by simp)
  have hx58 := hx5.trans hx8
  rcases hf with ⟨hno, rfl⟩ | ⟨hn0, hfl, am, cm, more, rfl, hom, hbm, hmore, hml, hmf⟩
  · exact ⟨_, _, _, _, rfl, fun _ => ⟨bs, .inl ⟨fun hg => hno ⟨hg.2.1, hg.2.2.1⟩, rfl, rfl⟩, hb8, hx58.any⟩, fun h2 => absurd rfl h2⟩
  refine ⟨_, _, _, _, rfl, fun h2 => (by cases h2), fun _ => (clonep_ok (hp.ext hx58 (by simp)) (by omega)).mono ?_⟩
  rintro _ H14 ⟨ao, co, rfl, hoo, hx14, hof⟩
  have hx814 := hx58.trans hx14
  have hb14 := hb8.ext hx14 (by simp) (by simp)
  have hpm : Pcs H8 am more.length more := Own.pcs hom
  have hB : ∀ q ∈ l.reverse, 0 ≤ q.s ∧ 1 ≤ q.c ∧ q.s + q.c ≤ 1000000000000 + 1 := fun q hq => by
    have := right_in hR q (List.mem_reverse.1 hq)
    omega
  have hfs : H.size ≤ H5.size := hx5.size
  refine ⟨_, _, _, rfl, fun a' n' c' i H' => ∃ j : Nat, i = j ∧ j ≤ more.length ∧ n' ≤ l.length + j ∧ Ext [] H8 H' ∧ Own H' 2 a' n' c' (piecesV ((more.take j).foldl pushP l.reverse).reverse) ∧ (∀ k, k ∈ blkOf a' → H8.size ≤ k) ∧ ((more.take j).foldl pushP l.reverse).length = n' ∧ BlkBd 1000000000000 ((more.take j).foldl pushP l.reverse),
    fun _ _ _ i _ => more.length - i.toNat, ⟨0, rfl, Nat.zero_le _, by omega, hx14, by simpa using hoo, hof, by simpa using hlen, hB⟩, ?_⟩
  rintro a20 l21 c22 _ H24 ⟨j, rfl, hj, hlj, hx24, hown, hf24, hrl, hbd⟩
  have hx_24 := hx58.trans hx24
  have hb24 := hb8.ext hx24 (by simp) (by simp)
  generalize hrs : (more.take j).foldl pushP l.reverse = rs at hown hrl hbd
  refine ⟨fun h2 => ?_, fun h2 => ?_⟩
  · obtain ⟨p, hpj⟩ : ∃ p, more[j]? = some p := ⟨_, List.getElem?_eq_getElem (by omega)⟩
    obtain ⟨b, o, rfl, c0, c1⟩ := (hpm.ext hx24 (by simp)).get j p hpj
    obtain ⟨m1, m2, m3⟩ := hmore p (List.mem_of_getElem? hpj)
    have hnext : (more.take (j + 1)).foldl pushP l.reverse = pushP rs p := by rw [take_snoc hpj, List.foldl_append, ← hrs]; rfl
    have hbd' := pushP_bd hbd m2 m1 (by omega)
    have hpl := pushP_length rs p
    refine ⟨by omega, h2, b, o, rfl, _, c0, _, c1, fun b29 H30 hn => ⟨hn.blk.cells 2 0 (by simp), fun H31 hput => ?_⟩⟩
    obtain ⟨hb29, hx31, e29, s31⟩ := new_put hn hput rfl
    have hown31 := hown.ext hx31 (by simp)
    have h24s := hx24.size
    have app : pushP rs p = p :: rs → ∀ b48 H49, New H31 b48 [(.int .i64 p.s), (.int .i64 p.c)] 73 H49 → (
        ∃ old50 new51 : List Value, SRow H49 2 l21 (.slice a20 l21 c22) old50 ∧ SRow H49 2 1 (.slice (some (⟨b48, 0, none⟩ : Addr)) 1 1) new51 ∧ (∀ u ∈ new51, Value.oneCell' u = true) ∧ (l21 + 1) * 16 ≤ 140737488355328 ∧ (l21 + 1 ≤ c22 → roomOf H49 a20 (l21 * 2) (1 * 2)) ∧ ∀ a52 : Option Addr, ∀ c53 : Nat, ∀ H54 : Heap, App H49 2 73 [(.int .i64 0), (.int .i64 0)] a20 l21 c22 old50 new51 1 a52 c53 H54 → (
          (In64 ((j : Int) + 1)) ∧
          (∃ j' : Nat, (j : Int) + 1 = j' ∧ j' ≤ more.length ∧ l21 + 1 ≤ l.length + j' ∧ Ext [] H8 H54 ∧ Own H54 2 a52 (l21 + 1) c53 (piecesV ((more.take j').foldl pushP l.reverse).reverse) ∧ (∀ k, k ∈ blkOf a52 → H8.size ≤ k) ∧ ((more.take j').foldl pushP l.reverse).length = l21 + 1 ∧ BlkBd 1000000000000 ((more.take j').foldl pushP l.reverse)) ∧
          more.length - ((j : Int) + 1).toNat < more.length - (j : Int).toNat)) := by
      intro he
      refine append_one hown31 rfl (by intro u hu; simp only [List.mem_cons, List.not_mem_nil, or_false] at hu; rcases hu with rfl | rfl <;> rfl) rfl (by omega) ?_
      intro a' c' H' ho' hx' hf'
      refine ⟨⟨by omega, by omega⟩, ⟨j + 1, by omega, by omega, by omega, (hx24.trans hx31).trans' hx' (fun i hi => .inl (hf24 i hi)), ?_, fun k hk => ?_, by rw [hnext, he]; simp [hrl], by rw [hnext]; exact hbd'⟩, by omega⟩
      · rw [hnext, he, List.reverse_cons, piecesV_append]
        exact ho'
      · rcases hf' k hk with h3 | h3
        · exact hf24 k h3
        · have := hx31.size; omega
    refine ⟨⟨by omega, by omega⟩, fun h3 => ?_, fun h3 => ?_⟩
    · obtain ⟨q, r, rfl⟩ : ∃ q r, rs = q :: r := by
        cases rs with
        | nil => simp only [List.length_nil] at hrl; omega
        | cons q r => exact ⟨q, r, rfl⟩
      have hq := hbd q (by simp)
      have hown31' := hown31
      rw [List.reverse_cons] at hown31
      obtain ⟨b', rfl, k0, k1, kc, kp⟩ := Own.last hown31
      refine ⟨by omega, by omega, b', 0, rfl, q.s, k0, by omega, by omega, b', 0, rfl, q.c, k1, ⟨by omega, by omega⟩, p.s, hb29.cell 0, fun h4 => ?_, fun h4 => ?_⟩
      · refine ⟨by omega, by omega, b', 0, rfl, q.c, k1, p.c, hb29.cell 1, ⟨by omega, by omega⟩, by omega, by omega, b', 0, rfl, kc, fun H45 hp45 => ?_⟩
        obtain ⟨ho', hx'⟩ := kp _ _ hp45
        have he : pushP (q :: r) p = ⟨q.s, q.c + p.c⟩ :: r := by simp only [pushP]; rw [if_pos h4]
        refine ⟨⟨by omega, by omega⟩, ⟨j + 1, by omega, by omega, by omega, (hx24.trans hx31).trans' hx' (fun i hi => .inl (hf24 i hi)), ?_, hf24, by rw [hnext, he]; simpa using hrl, by rw [hnext]; exact hbd'⟩, by dsimp only; omega⟩
        · rw [hnext, he, List.reverse_cons]
          exact ho'
      · exact ⟨p.s, hb29.cell 0, p.c, hb29.cell 1, app (by simp only [pushP]; rw [if_neg h4])⟩
    · have : rs = [] := by
        cases rs with
        | nil => rfl
        | cons q r => simp only [List.length_cons] at hrl; omega
      subst this
      exact ⟨p.s, hb29.cell 0, p.c, hb29.cell 1, app rfl⟩
  · have ej : j = more.length := by omega
    subst ej
    rw [List.take_of_length_le (by omega)] at hrs
    have e : growF bs l k n = rs.reverse := by rw [growF, ← hbm, ← piecesF_more hR (fun p hp => (hmore p hp).1), hrs]
    have elen : (growF bs l k n).length = l21 := by rw [e, List.length_reverse, hrl]
    have htame : TameP more := fun i p hp => by
      have := hmore p (List.mem_of_getElem? hp)
      omega
    have hblk : blocksW more = foundF bs k n.toNat := by
      rw [blocksW_I (fun p hp => ?_), hbm]
      have := hmore p hp
      omega
    refine ⟨fun h3 => ⟨bs, .inl ⟨fun hg => ?_, rfl, rfl⟩, hb24, hx_24.any⟩, fun h3 => ?_⟩
    · have := hg.2.2.2
      rw [show (piecesF (blocksI l ++ foundF bs k n.toNat)).length = l21 from elen] at this
      omega
    · refine (turn_ok hb24 (hpm.ext hx24 (by simp)) (fun i hi hi' => ?_) htame (by omega) true).mono ?_
      · have := hmf i hi
        have := h.lt.2 i hi'
        omega
      · rintro _ H65 ⟨rfl, hb65, hx65⟩
        rw [hblk] at hb65
        refine ⟨rfl, setAll bs (foundF bs k n.toNat) true, .inr ⟨⟨hR, hn0, hfl, ?_⟩, rfl, a20, c22, by rw [elen], ?_, fun i hi => ?_⟩, hb65, hx_24.any.trans hx65⟩
        · show (growF bs l k n).length ≤ 6
          omega
        · rw [elen, e]
          refine hown.ext hx65 (fun i hi hi' => ?_)
          have := hf24 i hi
          have := h.lt.2 i hi'
          have := hx58.size
          omega
        · have := hf24 i hi
          have := hx58.size
          omega

end Go.Proofs
end

section
open Go Go.Vc
namespace Go.Proofs

theorem IsRef.lt {H : Heap} {pb : Nat} {a : Option Addr} {c : Nat} {bs : List Bool} (h : IsRef H pb a c bs) : pb < H.size ∧ ∀ k, k ∈ blkOf a → k < H.size :=
  ⟨h.head.lt, h.own.lt⟩

theorem setB_in {bs : List Bool} {x : Int} (h : 0 ≤ x ∧ x < bs.length) (on : Bool) : setB bs x on = bs.set x.toNat on := by
  unfold setB; rw [if_pos h]

theorem setAll_snoc {bs : List Bool} {xs : List Int} {j : Nat} {x : Int} (h : xs[j]? = some x) (on : Bool) : setAll bs (xs.take (j + 1)) on = setB (setAll bs (xs.take j) on) x on := by
  rw [take_snoc h, setAll_append]; rfl

theorem rgrow_ok {H : Heap} {pb : Nat} {a : Option Addr} {c : Nat} {bs : List Bool} (h : IsRef H pb a c bs) {a1 : Option Addr} {len cap : Nat} {l : List Pc} (hp : Pcs H a1 len l) (k n : Int)
    (hk : k ≤ 9223372036854775807) (hn : -9223372036854775808 ≤ n ∧ n ≤ 9223372036854775807) (hN : bs.length ≤ 100000) :
    Does Try.prog 30 [.pointer (some ⟨pb, 0, none⟩), .slice a1 len cap, .int .i64 k, .int .i64 n] H fun v H' => ∃ bs', GrowR H H' bs l k n v bs' ∧ IsRef H' pb a c bs' ∧ Ext (blkOf a) H H' := by
  refine Fn_of_vc Try.mixed (vc_rgrow _ _ _ _ _ _ _ _) ?_
  have hlen := hp.leng
  refine ⟨fun h0 => ⟨bs, .inl ⟨fun hg => by have := hg.2.1; omega, rfl, rfl⟩, h, Ext.refl _ _⟩, fun h0 => ?_⟩
  refine ⟨_, _, rfl, _, _, _, h.head.cell 0, (rright_ok hp 0 bs.length (by decide) (by decide) (by omega)).mono ?_⟩
  rintro _ H7 ⟨rfl, hx7⟩
  have hb7 := h.ext hx7 (by simp) (by simp)
  refine ⟨_, rfl, fun h1 => ⟨bs, .inl ⟨fun hg => ?_, rfl, rfl⟩, hb7, hx7.any⟩, fun h1 => ?_⟩
  · rw [← decP_true hg.1] at h1; cases h1
  have hR : RightP l 0 bs.length := @of_decide_eq_true _ (Classical.propDecidable _) (eq_true_of_ne_false h1)
  have hl6 := hR.1
  have hWI : blocksW l = blocksI l := blocksW_I fun p hp => by have := right_in hR p hp; omega
  have hfew := right_few hR (by omega)
  refine (list_ok (hp.ext hx7 (by simp)) (by omega) (by rw [hWI]; omega)).mono ?_
  rw [hWI]
  rintro _ H10 ⟨a11, c13, rfl, ho10, hx10, hf10⟩
  have hx710 := hx7.trans hx10
  have h7s := hx7.size
  generalize hNN : bs.length = N at *
  refine ⟨_, _, _, rfl, fun a' n' c' m i H' => ∃ (j : Nat) (dn : List Int), i = j ∧ Ext [] H H' ∧ (∀ k, k ∈ blkOf a' → H.size ≤ k) ∧ Own H' 1 a' n' c' (intsV (blocksI l ++ dn)) ∧ (blocksI l ++ dn).length = n' ∧ 0 ≤ m ∧ dn.length ≤ j ∧ j ≤ max N k.toNat ∧ dn.length ≤ N ∧
      (∀ x ∈ dn, 0 ≤ x ∧ x < N) ∧ dn ++ offs (onB bs) (N - j) j m.toNat = foundF bs k n.toNat ∧ (dn.length : Int) + m = n, fun _ _ _ _ i _ => N - i.toNat,
    ⟨k.toNat, [], by omega, hx710, fun i hi => by have := hf10 i hi; omega, by simpa using ho10, by simp, by omega, by simp, by omega, by simp, by simp, by simp [foundF, hNN], by simp⟩, ?_⟩
  rintro a16 l17 c18 m _ H21 ⟨j, dn, rfl, hx21, hf21, ho21, hl17, hm0, hdj, hjm, hdN, hdn, hoffs, htot⟩
  have hb21 := h.ext hx21 (by simp) (by simp)
  refine ⟨_, _, rfl, _, _, _, hb21.head.cell 0, ?_⟩
  rw [hNN]
  have fin : offs (onB bs) (N - j) j m.toNat = [] → Does Try.prog 46 [(.slice a16 l17 c18)] H21 fun v42 H43 => ∃ a44 : Option Addr, ∃ l45 : Nat, ∃ c46 : Nat, v42 = (.slice a44 l45 c46) ∧ (
      ((((0 : Int) < m) → (
            (∃ bs', GrowR H H43 bs l k n (.tuple #[(.slice none 0 0), (.bool false)]) bs' ∧ IsRef H43 pb a c bs' ∧ Ext (blkOf a) H H43))) ∧ (¬ ((0 : Int) < m) → (
            ((((6 : Int) < (l45 : Int)) → (
                  (∃ bs', GrowR H H43 bs l k n (.tuple #[(.slice none 0 0), (.bool false)]) bs' ∧ IsRef H43 pb a c bs' ∧ Ext (blkOf a) H H43))) ∧ (¬ ((6 : Int) < (l45 : Int)) → (
                  ∃ I47 : Int → Heap → Prop, ∃ μ48 : Int → Heap → Nat, (I47 ((blocksI l).length : Int) H43) ∧
                  ∀ n49 : Int, ∀ H50 : Heap, I47 n49 H50 → (
                    ((((n49 : Int) < (l17 : Int)) → (
                        ∃ b51 o52 : Nat, some (⟨pb, 0, none⟩ : Addr) = some (⟨b51, o52, none⟩ : Addr) ∧ (
                        ∃ a53 : Option Addr, ∃ l54 : Nat, ∃ c55 : Nat, hcell H50 b51 o52 = some (.slice a53 l54 c55) ∧ (
                        (0 : Int) ≤ n49 ∧ (n49 : Int) < (l17 : Int) ∧ ∃ b56 o57 : Nat, a16 = some (⟨b56, o57, none⟩ : Addr) ∧ (
                        ∃ n58 : Int, hcell H50 b56 (o57 + (Int.toNat n49)) = some (.int .i64 n58) ∧ (
                        (0 : Int) ≤ n58 ∧ (n58 : Int) < (l54 : Int) ∧ ∃ b59 o60 : Nat, a53 = some (⟨b59, o60, none⟩ : Addr) ∧ (
                        Cells H50 b59 (o60 + (Int.toNat n58)) 1 ∧ ∀ H61 : Heap, Puts H50 b59 (o60 + (Int.toNat n58)) [(.bool true)] H61 → (
                        ((In64 (n49 + 1)) ∧
                        (I47 (n49 + 1) H61) ∧ μ48 (n49 + 1) H61 < μ48 n49 H50))))))))) ∧ (¬ ((n49 : Int) < (l17 : Int)) → (
                        (∃ bs', GrowR H H50 bs l k n (.tuple #[(.slice a44 l45 c46), (.bool true)]) bs' ∧ IsRef H50 pb a c bs' ∧ Ext (blkOf a) H H50)))))))))))) := by
    intro hz
    rw [hz, List.append_nil] at hoffs
    have hints := Own.ints ho21
    refine (pieces_ok hints (by rw [← hl17, List.length_append]; omega) (fun x hx => ?_)).mono ?_
    · rcases List.mem_append.1 hx with hx | hx
      · obtain ⟨p, hp', hx'⟩ := mem_blocksI hx
        have := right_in hR p hp'
        omega
      · have := hdn x hx; omega
    rintro _ H43 ⟨a44, c46, rfl, ho43, hx43, hf43⟩
    rw [hoffs] at ho43 ⊢
    have hxx := hx21.trans hx43
    have hb43 := h.ext hxx (by simp) (by simp)
    refine ⟨a44, _, c46, rfl, fun h2 => ⟨bs, .inl ⟨fun hg => ?_, rfl, rfl⟩, hb43, hxx.any⟩, fun h2 => ⟨fun h3 => ⟨bs, .inl ⟨fun hg => ?_, rfl, rfl⟩, hb43, hxx.any⟩, fun h3 => ?_⟩⟩
    · have := hg.2.2.1
      rw [← hoffs] at this
      omega
    · have := hg.2.2.2
      omega
    have hm : m = 0 := by omega
    have hgood : growOk bs l k n := ⟨by rw [hNN]; exact hR, by omega, by rw [← hoffs]; omega, by omega⟩
    rw [List.length_append] at hl17
    refine ⟨fun i H' => ∃ q : Nat, i = (((blocksI l).length + q : Nat) : Int) ∧ q ≤ dn.length ∧ IsRef H' pb a c (setAll bs (dn.take q) true) ∧ Ext (blkOf a) H43 H', fun i _ => l17 - i.toNat, ⟨0, by simp, Nat.zero_le _, by simpa [setAll] using hb43, Ext.refl _ _⟩, ?_⟩
    rintro _ H50 ⟨q, rfl, hq, hb50, hx50⟩
    refine ⟨fun h4 => ?_, fun h4 => ?_⟩
    · obtain ⟨x, hxq⟩ : ∃ x, dn[q]? = some x := ⟨_, List.getElem?_eq_getElem (by omega)⟩
      have hxin := hdn x (List.mem_of_getElem? hxq)
      obtain ⟨bx, ox, rfl, cx⟩ := hints.get ((blocksI l).length + q) x (by rw [List.getElem?_append_right (by omega), Nat.add_sub_cancel_left]; exact hxq)
      have hbx : bx ∉ blkOf a := fun hh => by
        have := hf21 bx (by simp [blkOf])
        have := h.lt.2 bx hh
        omega
      obtain ⟨bb, rfl, kc, kp⟩ := hb50.put x.toNat (by rw [setAll_length]; omega)
      refine ⟨_, _, rfl, _, _, _, hb50.head.cell 0, by omega, h4, bx, ox, rfl, x, hcell_ext (hcell_ext cx hx43 (by simp)) hx50 hbx, hxin.1, by rw [setAll_length]; omega, bb, 0, rfl, kc, fun H61 hput => ?_⟩
      obtain ⟨hb61, hx61⟩ := kp _ _ hput
      refine ⟨⟨by omega, by omega⟩, ⟨q + 1, by omega, by omega, ?_, hx50.trans hx61⟩, by dsimp only; omega⟩
      rw [setAll_snoc hxq, setB_in (by rw [setAll_length]; omega)]
      exact hb61
    · have eq : q = dn.length := by omega
      subst eq
      rw [List.take_length] at hb50
      rw [hoffs] at hb50
      refine ⟨_, .inr ⟨hgood, rfl, a44, c46, rfl, ?_, fun i hi => ?_⟩, hb50, hxx.any.trans hx50⟩
      · refine ho43.ext hx50 (fun i hi hi' => ?_)
        have := hf43 i hi
        have := h.lt.2 i hi'
        have := hx21.size
        omega
      · have := hf43 i hi
        have := hx21.size
        omega
  refine ⟨fun h2 => ⟨fun h3 => ?_, fun h3 => fin (by rw [show m.toNat = 0 by omega, offs_zero])⟩, fun h2 => fin (by rw [show N - j = 0 by omega]; rfl)⟩
  obtain ⟨b, o, rfl, cb⟩ := hb21.get j (by rw [hNN]; omega)
  have e1 : N - j = (N - (j + 1)) + 1 := by omega
  obtain ⟨m', hm'⟩ : ∃ m' : Nat, m.toNat = m' + 1 := ⟨m.toNat - 1, by omega⟩
  refine ⟨_, _, rfl, _, _, _, hb21.head.cell 0, by omega, by rw [hNN]; exact h2, b, o, rfl, _, cb, fun h4 => ?_, fun h4 => ?_⟩
  · have hoff : offs (onB bs) (N - j) j m.toNat = (j : Int) :: offs (onB bs) (N - (j + 1)) (j + 1) m' := by
      rw [e1, hm', offs]
      simp only [onB, h4]
    refine append_one ho21 rfl (by intro u hu; simp only [List.mem_singleton] at hu; subst hu; rfl) rfl (by rw [List.length_append] at hl17; omega) ?_
    intro a' c' H' ho' hx' hf'
    refine ⟨⟨by omega, by omega⟩, ⟨by omega, by omega⟩, ⟨j + 1, dn ++ [(j : Int)], by omega, hx21.trans' hx' (fun i hi => .inl (hf21 i hi)), fun i hi => ?_, ?_, ?_, by omega, by simp; omega, by omega, by simp; omega, ?_, ?_, ?_⟩, by dsimp only; omega⟩
    · rcases hf' i hi with h5 | h5
      · exact hf21 i h5
      · have := hx21.size; omega
    · rw [← List.append_assoc]
      unfold intsV at ho' ⊢
      rw [List.map_append]
      exact ho'
    · rw [← List.append_assoc, List.length_append, hl17]; rfl
    · intro x hx
      rcases List.mem_append.1 hx with hx | hx
      · exact hdn x hx
      · simp only [List.mem_singleton] at hx; subst hx; omega
    · rw [List.append_assoc, show ((m - 1).toNat) = m' by omega]
      rw [hoff] at hoffs
      exact hoffs
    · simp; omega
  · have hoff : offs (onB bs) (N - j) j m.toNat = offs (onB bs) (N - (j + 1)) (j + 1) m.toNat := by
      rw [e1, hm', offs]
      have : onB bs j = true := eq_true_of_ne_false h4
      simp only [this]
    exact ⟨⟨by omega, by omega⟩, ⟨j + 1, dn, by omega, hx21, hf21, ho21, hl17, hm0, by omega, by omega, hdN, hdn, by rw [← hoff]; exact hoffs, htot⟩, by dsimp only; omega⟩

theorem take_ok {H : Heap} {pb : Nat} {a : Option Addr} {c : Nat} {bs : List Bool} (h : IsB H pb a c bs) (k n : Int)
    (hk : k ≤ 9223372036854775807) (hn : -9223372036854775808 ≤ n ∧ n ≤ 9223372036854775807) (hN : bs.length ≤ 100000) :
    Does Try.prog 29 [.pointer (some ⟨pb, 0, none⟩), .int .i64 k, .int .i64 n] H fun v H' => ∃ bs', GrowR H H' bs [] k n v bs' ∧ IsB H' pb a c bs' ∧ Ext (blkOf a) H H' := by
  refine Fn_of_vc Try.mixed (vc_take _ _ _ _ _) ?_
  refine (grow_ok h (a1 := none) (len := 0) (cap := 0) (l := []) ⟨rfl, fun _ => ⟨rfl, rfl⟩⟩ (by simp [blkOf]) (Nat.le_refl _) k n hk hn hN).mono ?_
  rintro v H' ⟨bs', hg, hb, hx⟩
  rcases hg with ⟨h1, rfl, h2⟩ | ⟨h1, h2, a', c', rfl, h3, h4⟩
  · exact ⟨_, _, _, _, rfl, bs', .inl ⟨h1, rfl, h2⟩, hb, hx⟩
  · exact ⟨_, _, _, _, rfl, bs', .inr ⟨h1, h2, a', c', rfl, h3, h4⟩, hb, hx⟩

end Go.Proofs
end

section
open Go Go.Vc
namespace Go.Proofs

/-- The first n blocks. -/
def keepP : List Pc → Nat → List Pc
  | [], _ => []
  | p :: r, n => (if 0 < min n p.c.toNat then [⟨p.s, (min n p.c.toNat : Nat)⟩] else []) ++ keepP r (n - p.c.toNat)

theorem blkI_length (p : Pc) : (blkI p).length = p.c.toNat := by simp [blkI]

theorem blocksI_append (l m : List Pc) : blocksI (l ++ m) = blocksI l ++ blocksI m := by simp [blocksI]

theorem blocksI_cons (p : Pc) (l : List Pc) : blocksI (p :: l) = blkI p ++ blocksI l := rfl

theorem keepP_append : ∀ (l m : List Pc) (n : Nat), keepP (l ++ m) n = keepP l n ++ keepP m (n - (blocksI l).length)
  | [], m, n => by simp [keepP, blocksI]
  | p :: l, m, n => by
    rw [List.cons_append, keepP, keepP, keepP_append l m, blocksI_cons, List.length_append, blkI_length, List.append_assoc, Nat.sub_sub]

theorem blkI_take (p : Pc) (k : Nat) (h : k ≤ p.c.toNat) : blkI ⟨p.s, (k : Int)⟩ = (blkI p).take k := by
  unfold blkI
  simp only [Int.toNat_natCast]
  rw [← List.map_take, List.take_range, Nat.min_eq_left h]

theorem blkI_drop (p : Pc) (k : Nat) (_h : k ≤ p.c.toNat) : blkI ⟨p.s + (k : Int), p.c - (k : Int)⟩ = (blkI p).drop k := by
  unfold blkI
  apply List.ext_getElem
  · simp <;> omega
  · intro i h1 h2
    simp only [List.getElem_map, List.getElem_range, List.getElem_drop]
    omega

theorem keepP_blocks : ∀ (l : List Pc) (n : Nat), blocksI (keepP l n) = (blocksI l).take n
  | [], n => by simp [keepP, blocksI]
  | p :: l, n => by
    rw [keepP, blocksI_append, keepP_blocks l, blocksI_cons, List.take_append, blkI_length]
    congr 1
    split
    · rename_i h
      show blkI _ ++ [] = _
      rw [List.append_nil, blkI_take p _ (Nat.min_le_right _ _)]
      by_cases hn : n ≤ p.c.toNat
      · rw [Nat.min_eq_left hn]
      · rw [Nat.min_eq_right (by omega), List.take_of_length_le (by rw [blkI_length]; omega), List.take_of_length_le (by rw [blkI_length]; omega)]
    · rename_i h
      show [] = _
      by_cases hn : n = 0
      · subst hn; simp
      · have : (blkI p).length = 0 := by rw [blkI_length]; omega
        rw [List.length_eq_zero_iff.1 this]; simp

theorem keepP_zero : ∀ l : List Pc, keepP l 0 = []
  | [] => rfl
  | p :: l => by rw [keepP, Nat.zero_min, if_neg (by omega), Nat.zero_sub, keepP_zero l]; rfl

theorem keepP_pos : ∀ (l : List Pc) (n : Nat), ∀ p ∈ keepP l n, 1 ≤ p.c
  | [], n, p, h => by cases h
  | q :: l, n, p, h => by
    rw [keepP, List.mem_append] at h
    rcases h with h | h
    · split at h
      · simp only [List.mem_singleton] at h
        subst h
        simp only; omega
      · cases h
    · exact keepP_pos l _ p h

theorem keepP_norm : ∀ (l : List Pc) (n : Nat) (rs : List Pc), (∀ p ∈ l, 1 ≤ p.c) → Norm rs l → Norm rs (keepP l n)
  | [], n, rs, _, h => h
  | p :: l, n, rs, hp, h => by
    rw [keepP]
    have h1 := hp p (by simp)
    split
    · rename_i h2
      refine ⟨h.1, ?_⟩
      by_cases hn : p.c.toNat ≤ n
      · rw [Nat.min_eq_right hn, show ((p.c.toNat : Nat) : Int) = p.c by omega]
        exact keepP_norm l _ _ (fun q hq => hp q (by simp [hq])) h.2
      · rw [show n - p.c.toNat = 0 by omega, keepP_zero]
        trivial
    · rename_i h2
      rw [show n - p.c.toNat = 0 by omega, keepP_zero]
      trivial

theorem keepP_pieces {l : List Pc} {a e : Int} (h : RightP l a e) (n : Nat) : keepP l n = piecesF ((blocksI l).take n) := by
  rw [← keepP_blocks, piecesF_blocks (keepP_pos l n) (keepP_norm l n [] (right_pos h) (right_norm h))]

theorem blocksI_snoc {l : List Pc} {j : Nat} {p : Pc} (h : l[j]? = some p) : blocksI (l.take (j + 1)) = blocksI (l.take j) ++ blkI p := by
  rw [take_snoc h, blocksI_append]
  simp [blocksI]

theorem keepP_length : ∀ (l : List Pc) (n : Nat), (keepP l n).length ≤ l.length
  | [], n => by simp [keepP]
  | p :: l, n => by
    rw [keepP, List.length_append, List.length_cons]
    have := keepP_length l (n - p.c.toNat)
    split <;> simp <;> omega

def ShrinkR (H H' : Heap) (bs : List Bool) (l : List Pc) (n : Int) (v : Value) (bs' : List Bool) : Prop :=
  (¬ RightP l 0 bs.length ∧ v = .slice none 0 0 ∧ bs' = bs) ∨
  (RightP l 0 bs.length ∧ bs' = setAll bs ((blocksI l).drop n.toNat) false ∧ ∃ a c, v = .slice a (piecesF ((blocksI l).take n.toNat)).length c ∧
    Own H' 2 a (piecesF ((blocksI l).take n.toNat)).length c (piecesV (piecesF ((blocksI l).take n.toNat))) ∧ (∀ k, k ∈ blkOf a → H.size ≤ k))

theorem New.pcs {H H' : Heap} {b : Nat} {s c : Int} {e : TypeId} (h : New H b [.int .i64 s, .int .i64 c] e H') : Pcs H' (some ⟨b, 0, none⟩) 1 [⟨s, c⟩] :=
  ⟨rfl, fun _ => ⟨rfl, rfl, fun j u hj => by
    show hcell H' b (0 + j) = some u
    rw [Nat.zero_add, h.blk.cell]; exact hj⟩⟩

theorem shrink_ok {H : Heap} {pb : Nat} {a : Option Addr} {c : Nat} {bs : List Bool} (h : IsB H pb a c bs) {a1 : Option Addr} {len cap : Nat} {l : List Pc} (hp : Pcs H a1 len l) (hd : ∀ k, k ∈ blkOf a1 → k ∉ blkOf a) (hc : len ≤ cap) (n : Int)
    (hn : -9223372036854775808 ≤ n ∧ n ≤ 9223372036854775807) (hN : bs.length ≤ 100000) :
    Does Try.prog 33 [.pointer (some ⟨pb, 0, none⟩), .slice a1 len cap, .int .i64 n] H fun v H' => ∃ bs', ShrinkR H H' bs l n v bs' ∧ IsB H' pb a c bs' ∧ Ext (blkOf a) H H' := by
  refine Fn_of_vc Try.mixed (vc_shrink _ _ _ _ _ _ _) ?_
  have hlen := hp.leng
  refine ⟨fun h0 => (by cases h0), fun _ => (lenm_ok h).mono ?_⟩
  rintro _ _ ⟨rfl, rfl⟩
  refine ⟨_, rfl, (right_ok hp hc 0 bs.length (by decide) (by decide) (by omega)).mono ?_⟩
  rintro _ H5 ⟨rfl, hx5⟩
  have hb5 := h.ext hx5 (by simp) (by simp)
  refine ⟨_, rfl, fun h1 => ⟨bs, .inl ⟨fun hg => ?_, rfl, rfl⟩, hb5, hx5.any⟩, fun h1 => ?_⟩
  · rw [← decP_true hg] at h1; cases h1
  have hR : RightP l 0 bs.length := @of_decide_eq_true _ (Classical.propDecidable _) (eq_true_of_ne_false h1)
  have hl6 := hR.1
  refine ⟨fun a' n' c' m i H' => ∃ j : Nat, i = j ∧ j ≤ len ∧ m = ((n.toNat - (blocksI (l.take j)).length : Nat) : Int) ∧ IsB H' pb a c (setAll bs ((blocksI (l.take j)).drop n.toNat) false) ∧ Ext (blkOf a) H H' ∧ (∀ k, k ∈ blkOf a' → H.size ≤ k) ∧
      Own H' 2 a' n' c' (piecesV (keepP (l.take j) n.toNat)) ∧ (keepP (l.take j) n.toNat).length = n', fun _ _ _ _ i _ => len - i.toNat,
    ⟨0, rfl, Nat.zero_le _, by simp [blocksI] <;> omega, by simpa [blocksI, setAll] using hb5, hx5.any, fun k hk => (by cases hk), Own.nil _ _, rfl⟩, ?_⟩
  rintro a9 l10 c11 _ _ H14 ⟨j, rfl, hj, rfl, hb14, hx14, hf14, hown, hl10⟩
  have hpb : pb ∉ blkOf a := by obtain ⟨xs, hm, _⟩ := h; exact hm.apart
  have hkl := keepP_length (l.take j) n.toNat
  rw [List.length_take] at hkl
  refine ⟨fun h2 => ?_, fun h2 => ?_⟩
  · obtain ⟨p, hpj⟩ : ∃ p, l[j]? = some p := ⟨_, List.getElem?_eq_getElem (by omega)⟩
    obtain ⟨b, o, rfl, c0, c1⟩ := hp.get j p hpj
    have hbd : b ∉ blkOf a := hd b (by simp [blkOf])
    have hpin := right_in hR p (List.mem_of_getElem? hpj)
    generalize hrem : n.toNat - (blocksI (l.take j)).length = rem
    have e1 := blocksI_snoc hpj
    have ekeep : keepP (l.take (j + 1)) n.toNat = keepP (l.take j) n.toNat ++ (if 0 < min rem p.c.toNat then [⟨p.s, (min rem p.c.toNat : Nat)⟩] else []) := by
      rw [take_snoc hpj, keepP_append, hrem, keepP, keepP, List.append_nil]
    have erem : n.toNat - (blocksI (l.take (j + 1))).length = rem - p.c.toNat := by
      rw [e1, List.length_append, blkI_length]; omega
    generalize hkk : min rem p.c.toNat = kk at ekeep
    have emin : min (rem : Int) p.c = (kk : Int) := by omega
    have edrop : (blocksI (l.take (j + 1))).drop n.toNat = (blocksI (l.take j)).drop n.toNat ++ blkI ⟨p.s + (kk : Int), p.c - (kk : Int)⟩ := by
      rw [e1, List.drop_append, hrem, blkI_drop p kk (by omega)]
      congr 1
      by_cases hle : rem ≤ p.c.toNat
      · rw [show kk = rem by omega]
      · rw [List.drop_of_length_le (by rw [blkI_length]; omega), List.drop_of_length_le (by rw [blkI_length]; omega)]
    have hblk1 : blocksW [⟨p.s + (kk : Int), p.c - (kk : Int)⟩] = blkI ⟨p.s + (kk : Int), p.c - (kk : Int)⟩ := by
      rw [blocksW_I (fun q hq => ?_)]
      · simp [blocksI]
      · simp only [List.mem_singleton] at hq; subst hq; simp only; omega
    have htame : TameP [⟨p.s + (kk : Int), p.c - (kk : Int)⟩] := fun i q hq => by
      have := List.mem_of_getElem? hq
      simp only [List.mem_singleton] at this; subst this; simp only; omega
    refine ⟨by omega, h2, b, o, rfl, _, hcell_ext c0 hx14 hbd, _, hcell_ext c1 hx14 hbd, fun b19 H20 hn => ⟨hn.blk.cells 2 0 (by simp), fun H21 hput => ?_⟩⟩
    obtain ⟨hb19, hx21, e19, s21⟩ := new_put hn hput rfl
    have hs14 := hx14.size
    have hlt := h.lt
    -- the turning off, and the next round
    have go : ∀ (a' : Option Addr) (n' c' : Nat) (H30 : Heap), IsB H30 pb a c (setAll bs ((blocksI (l.take j)).drop n.toNat) false) → Ext (blkOf a) H H30 → (∀ k, k ∈ blkOf a' → H.size ≤ k) → Own H30 2 a' n' c' (piecesV (keepP (l.take (j + 1)) n.toNat)) → (keepP (l.take (j + 1)) n.toNat).length = n' →
        ∀ b33 : Nat, ∀ H34 : Heap, New H30 b33 [(.int .i64 (p.s + (kk : Int))), (.int .i64 (p.c - (kk : Int)))] 73 H34 → (
          Does Try.prog 49 [(.pointer (some ⟨pb, 0, none⟩)), (.slice (some (⟨b33, 0, none⟩ : Addr)) 1 1), (.bool false)] H34 fun v35 H36 => v35 = (.tuple #[]) ∧ (
            (In64 ((rem : Int) - (kk : Int))) ∧ (In64 ((j : Int) + 1)) ∧
            (∃ j' : Nat, (j : Int) + 1 = j' ∧ j' ≤ len ∧ (rem : Int) - (kk : Int) = ((n.toNat - (blocksI (l.take j')).length : Nat) : Int) ∧ IsB H36 pb a c (setAll bs ((blocksI (l.take j')).drop n.toNat) false) ∧ Ext (blkOf a) H H36 ∧ (∀ k, k ∈ blkOf a' → H.size ≤ k) ∧
              Own H36 2 a' n' c' (piecesV (keepP (l.take j') n.toNat)) ∧ (keepP (l.take j') n.toNat).length = n') ∧ len - ((j : Int) + 1).toNat < len - (j : Int).toNat)) := by
      intro a' n' c' H30 hb30 hx30 hf30 ho30 hl30 b33 H34 hn34
      have hx34 := hn34.ext
      have e33 := hn34.eq
      have hs30 := hx30.size
      refine (turn_ok (hb30.ext hx34 (by simp) (by simp)) (New.pcs hn34) (fun i hi hi' => ?_) htame (by decide) false).mono ?_
      · simp only [blkOf, List.mem_singleton] at hi
        have := hlt.2 i hi'
        omega
      · rintro _ H36 ⟨rfl, hb36, hx36⟩
        rw [hblk1, ← setAll_append, ← edrop] at hb36
        refine ⟨rfl, ⟨by omega, by omega⟩, ⟨by omega, by omega⟩, ⟨j + 1, by omega, by omega, by omega, hb36, hx30.trans (hx34.any.trans hx36), hf30, ?_, hl30⟩, by omega⟩
        refine (ho30.ext hx34 (by simp)).ext hx36 (fun i hi hi' => ?_)
        have := hf30 i hi
        have := hlt.2 i hi'
        omega
    refine ⟨p.c, hb19.cell 1, ?_⟩
    rw [emin]
    refine ⟨fun h3 => ⟨p.s, hb19.cell 0, ?_⟩, fun h3 => ⟨p.s, hb19.cell 0, ⟨by omega, by omega⟩, p.c, hb19.cell 1, ⟨by omega, by omega⟩, ?_⟩⟩
    · refine append_one (hown.ext hx21 (by simp)) rfl (by intro u hu; simp only [List.mem_cons, List.not_mem_nil, or_false] at hu; rcases hu with rfl | rfl <;> rfl) rfl (by omega) ?_
      intro a' c' H30 ho' hx' hf'
      have hb19' := hb19.ext hx' (fun hh => by have := hown.lt _ hh; omega)
      refine ⟨p.s, hb19'.cell 0, ⟨by omega, by omega⟩, p.c, hb19'.cell 1, ⟨by omega, by omega⟩, ?_⟩
      refine go a' (l10 + 1) c' H30 ((hb14.ext hx21 (by simp) (by simp)).ext hx' (fun hh => ?_) (fun i hi hh => ?_)) ?_ ?_ ?_ ?_
      · have := hf14 _ hh; omega
      · have := hf14 _ hh; have := hlt.2 i hi; omega
      · exact (hx14.trans hx21.any).trans' hx' (fun i hi => .inl (hf14 i hi))
      · intro i hi
        rcases hf' i hi with h4 | h4
        · exact hf14 i h4
        · have := hx21.size; omega
      · rw [ekeep, if_pos (by omega), piecesV_append]
        exact ho'
      · rw [ekeep, if_pos (by omega)]; simp [hl10]
    · refine go a9 l10 c11 H21 (hb14.ext hx21 (by simp) (by simp)) (hx14.trans hx21.any) hf14 ?_ ?_
      · rw [ekeep, if_neg (by omega), List.append_nil]
        exact hown.ext hx21 (by simp)
      · rw [ekeep, if_neg (by omega), List.append_nil, hl10]
  · have ej : j = len := by omega
    subst ej
    rw [List.take_of_length_le (by omega)] at hb14 hown hl10
    rw [keepP_pieces hR] at hown hl10
    rw [← hl10] at hown ⊢
    exact ⟨_, .inr ⟨hR, rfl, a9, c11, rfl, hown, hf14⟩, hb14, hx14⟩

theorem Ints.take {H : Heap} {a : Option Addr} {len m : Nat} {xs : List Int} (h : Ints H a len xs) (hm : m ≤ len) : Ints H a m (xs.take m) := by
  have hl := h.leng
  refine ⟨by rw [List.length_take]; omega, fun c => ?_⟩
  obtain ⟨h1, h2⟩ := h.row c
  refine ⟨by simp [intsV]; omega, ?_⟩
  cases a with
  | none =>
    simp only [intsV, List.map_eq_nil_iff] at h2
    subst h2
    simp [intsV]
  | some ad =>
    refine ⟨h2.1, fun j u hj => h2.2 j u ?_⟩
    unfold intsV at hj ⊢
    rw [List.map_take, List.getElem?_take] at hj
    split at hj
    · exact hj
    · cases hj

theorem rshrink_ok {H : Heap} {pb : Nat} {a : Option Addr} {c : Nat} {bs : List Bool} (h : IsRef H pb a c bs) {a1 : Option Addr} {len cap : Nat} {l : List Pc} (hp : Pcs H a1 len l) (n : Int)
    (hN : bs.length ≤ 100000) :
    Does Try.prog 34 [.pointer (some ⟨pb, 0, none⟩), .slice a1 len cap, .int .i64 n] H fun v H' => ∃ bs', ShrinkR H H' bs l n v bs' ∧ IsRef H' pb a c bs' ∧ Ext (blkOf a) H H' := by
  refine Fn_of_vc Try.mixed (vc_rshrink _ _ _ _ _ _ _) ?_
  have hlen := hp.leng
  refine ⟨_, _, rfl, _, _, _, h.head.cell 0, (rright_ok hp 0 bs.length (by decide) (by decide) (by omega)).mono ?_⟩
  rintro _ H7 ⟨rfl, hx7⟩
  have hb7 := h.ext hx7 (by simp) (by simp)
  refine ⟨_, rfl, fun h1 => ⟨bs, .inl ⟨fun hg => ?_, rfl, rfl⟩, hb7, hx7.any⟩, fun h1 => ?_⟩
  · rw [← decP_true hg] at h1; cases h1
  have hR : RightP l 0 bs.length := @of_decide_eq_true _ (Classical.propDecidable _) (eq_true_of_ne_false h1)
  have hl6 := hR.1
  have hWI : blocksW l = blocksI l := blocksW_I fun p hp => by have := right_in hR p hp; omega
  have hfew := right_few hR (by omega)
  refine (list_ok (hp.ext hx7 (by simp)) (by omega) (by rw [hWI]; omega)).mono ?_
  rw [hWI]
  rintro _ H10 ⟨a11, c13, rfl, ho10, hx10, hf10⟩
  have hx710 := hx7.trans hx10
  have h7s := hx7.size
  have hb10 := h.ext hx710 (by simp) (by simp)
  have hcap := ho10.2.1
  generalize hL : (blocksI l).length = L at *
  have e1 : max 0 (min n (L : Int)) = ((min n.toNat L : Nat) : Int) := by omega
  have hints := Own.ints ho10
  have edrop : (blocksI l).drop n.toNat = (blocksI l).drop (min n.toNat L) := by
    by_cases hle : n.toNat ≤ L
    · rw [Nat.min_eq_left hle]
    · rw [Nat.min_eq_right (by omega), List.drop_of_length_le (by omega), List.drop_of_length_le (by omega)]
  have etake : (blocksI l).take n.toNat = (blocksI l).take (min n.toNat L) := by
    by_cases hle : n.toNat ≤ L
    · rw [Nat.min_eq_left hle]
    · rw [Nat.min_eq_right (by omega), List.take_of_length_le (by omega), List.take_of_length_le (by omega)]
  refine ⟨_, _, _, rfl, ?_⟩
  rw [e1]
  generalize hm : min n.toNat L = m at *
  refine ⟨fun i H' => ∃ q : Nat, i = ((m + q : Nat) : Int) ∧ m + q ≤ L ∧ IsRef H' pb a c (setAll bs (((blocksI l).drop m).take q) false) ∧ Ext (blkOf a) H10 H', fun i _ => L - i.toNat, ⟨0, by simp, by omega, by simpa [setAll] using hb10, Ext.refl _ _⟩, ?_⟩
  rintro _ H17 ⟨q, rfl, hq, hb17, hx17⟩
  have hax : ∀ k, k ∈ blkOf a11 → k ∉ blkOf a := fun k hk hk' => by
    have := hf10 k hk
    have := h.lt.2 k hk'
    omega
  refine ⟨fun h4 => ?_, fun h4 => ?_⟩
  · obtain ⟨x, hxq⟩ : ∃ x, (blocksI l)[m + q]? = some x := ⟨_, List.getElem?_eq_getElem (by omega)⟩
    obtain ⟨p, hp', hx'⟩ := mem_blocksI (List.mem_of_getElem? hxq)
    have hxin := right_in hR p hp'
    obtain ⟨bx, ox, rfl, cx⟩ := hints.get (m + q) x hxq
    obtain ⟨bb, rfl, kc, kp⟩ := hb17.put x.toNat (by rw [setAll_length]; omega)
    refine ⟨_, _, rfl, _, _, _, hb17.head.cell 0, by omega, h4, bx, ox, rfl, x, hcell_ext cx hx17 (hax bx (by simp [blkOf])), by omega, by rw [setAll_length]; omega, bb, 0, rfl, kc, fun H61 hput => ?_⟩
    obtain ⟨hb61, hx61⟩ := kp _ _ hput
    refine ⟨⟨by omega, by omega⟩, ⟨q + 1, by omega, by omega, ?_, hx17.trans hx61⟩, by dsimp only; omega⟩
    rw [setAll_snoc (x := x) (by rw [List.getElem?_drop]; exact hxq), setB_in (by rw [setAll_length]; omega)]
    exact hb61
  · have eq : m + q = L := by omega
    rw [List.take_of_length_le (by rw [List.length_drop]; omega)] at hb17
    refine ⟨by omega, by omega, ?_⟩
    rw [Int.toNat_natCast]
    refine (pieces_ok ((hints.ext hx17 hax).take (m := m) (by omega)) (by omega) (fun x hx => ?_)).mono ?_
    · obtain ⟨p, hp', hx'⟩ := mem_blocksI (List.mem_of_mem_take hx)
      have := right_in hR p hp'
      omega
    · rintro _ H30 ⟨a', c', rfl, ho30, hx30, hf30⟩
      rw [← etake] at ho30 ⊢
      rw [← edrop] at hb17
      refine ⟨_, _, _, rfl, _, .inr ⟨hR, rfl, a', c', rfl, ho30, fun i hi => ?_⟩, hb17.ext hx30 (by simp) (by simp), (hx710.any.trans hx17).trans hx30.any⟩
      have := hf30 i hi
      have := hx17.size
      have := hx10.size
      omega

end Go.Proofs
end

section
open Go Go.Vc
namespace Go.Proofs

theorem is_ok {H : Heap} {pb qb : Nat} {a a2 : Option Addr} {c c2 : Nat} {bs : List Bool} (h : IsB H pb a c bs) (h2 : IsRef H qb a2 c2 bs) :
    Does Try.prog 35 [.pointer (some ⟨pb, 0, none⟩), .pointer (some ⟨qb, 0, none⟩)] H fun v H' => v = .bool true ∧ Ext [] H H' := by
  refine Fn_of_vc Try.mixed (vc_is _ _ _ _) ?_
  obtain ⟨xs, hm, hb⟩ := h
  refine (bytes_ok hm).mono ?_
  rintro _ H2 ⟨a', c', rfl, ho, hx, hf⟩
  refine ⟨_, _, _, rfl, xs, ho.row _ _, (rbytes_ok (h2.ext hx (by simp) (by simp))).mono ?_⟩
  rintro _ H8 ⟨a'', ys, rfl, hb2, ho2, hx2, hf2⟩
  have e := hb.one hb2
  subst e
  exact ⟨_, _, _, rfl, (ho.ext hx2 (by simp)).row _ _, xs, ho2.row _ _, yes rfl, hx.trans hx2⟩

def ofF (n : Nat) (xs : List Int) : List Bool := (xs.take 40).foldl (fun bs k => bs.set (k % (n : Int)).toNat true) (List.replicate n false)

theorem ofF_length (n : Nat) (xs : List Int) : (ofF n xs).length = n := by
  unfold ofF
  generalize xs.take 40 = ys
  have : ∀ bs : List Bool, (ys.foldl (fun bs k => bs.set (k % (n : Int)).toNat true) bs).length = bs.length := by
    induction ys with
    | nil => intro bs; rfl
    | cons y ys ih => intro bs; rw [List.foldl_cons, ih, List.length_set]
  rw [this, List.length_replicate]

/-- A map and its reference, in new memory. -/
structure Pair (H H' : Heap) (pb bb c qb rb : Nat) (bs : List Bool) : Prop where
  map : IsB H' pb (some ⟨bb, 0, none⟩) c bs
  ref : IsRef H' qb (some ⟨rb, 0, none⟩) bs.length bs
  ext : Ext [] H H'
  fp : H.size ≤ pb
  fb : H.size ≤ bb
  fq : H.size ≤ qb
  fr : H.size ≤ rb
  d1 : qb ≠ bb
  d2 : rb ≠ bb
  d3 : pb ≠ rb
  d4 : pb ≠ bb
  d5 : qb ≠ rb

theorem Pair.more {H H1 H2 : Heap} {pb bb c qb rb : Nat} {bs : List Bool} (h : Pair H H1 pb bb c qb rb bs) (hx : Ext [] H1 H2) : Pair H H2 pb bb c qb rb bs :=
  ⟨h.map.ext hx (by simp) (by simp), h.ref.ext hx (by simp) (by simp), h.ext.trans hx, h.fp, h.fb, h.fq, h.fr, h.d1, h.d2, h.d3, h.d4, h.d5⟩

theorem of_ok {H : Heap} {a1 : Option Addr} {len cap : Nat} {xs : List Int} (h : Ints H a1 len xs) (n : Nat) (hn : 1 ≤ n) (hn' : n ≤ 100000) :
    Does Try.prog 27 [.int .i64 n, .slice a1 len cap] H fun v H' => ∃ pb bb c qb rb, v = .tuple #[.pointer (some ⟨pb, 0, none⟩), .pointer (some ⟨qb, 0, none⟩)] ∧ Pair H H' pb bb c qb rb (ofF n xs) := by
  refine Fn_of_vc Try.mixed (vc_of _ _ _ _ _ _) ?_
  have hlen := h.leng
  refine (new_ok n H (by omega)).mono ?_
  rintro _ H2 ⟨pb, bb, rfl, hm, hx2, hp, hb⟩
  simp only [Int.toNat_natCast] at hm
  refine ⟨_, rfl, (rnew_ok n H2 (by omega)).mono ?_⟩
  rintro _ H5 ⟨qb, rb, rfl, hr, hx5, hq, hrb⟩
  simp only [Int.toNat_natCast] at hr
  have hm5 := hm.ext hx5 (by simp) (by simp)
  have l1 := hm.head.lt
  have l2 : bb < H2.size := hm.own.lt _ (by simp [blkOf])
  have l3 := hx2.size
  have e1 := hm.apart
  have e2 := hr.apart
  simp only [blkOf, List.mem_singleton] at e1 e2
  have hpair : Pair H H5 pb bb ((n + 7) / 8) qb rb (List.replicate n false) := by
    refine ⟨⟨_, by rw [List.length_replicate]; exact hm5, ⟨by simp, fun k => ?_⟩⟩, by rw [List.length_replicate]; exact hr, hx2.trans hx5, hp, hb, by omega, by omega, by omega, by omega, by omega, e1, e2⟩
    rw [bit_zero]
    unfold onB
    rw [List.getD_eq_getElem?_getD, List.getElem?_replicate]
    split <;> rfl
  let g : List Bool → Int → List Bool := fun bs k => bs.set (k % (n : Int)).toNat true
  have hg : ∀ (ys : List Int) (bs : List Bool), (ys.foldl g bs).length = bs.length := by
    intro ys
    induction ys with
    | nil => intro bs; rfl
    | cons y ys ih => intro bs; rw [List.foldl_cons, ih, List.length_set]
  refine ⟨_, rfl, fun i H' => ∃ j : Nat, i = j ∧ j ≤ len ∧ j ≤ 40 ∧ Pair H H' pb bb ((n + 7) / 8) qb rb ((xs.take j).foldl g (List.replicate n false)), fun i _ => len - i.toNat, ⟨0, rfl, Nat.zero_le _, Nat.zero_le _, hpair⟩, ?_⟩
  rintro _ H10 ⟨j, rfl, hj, hj4, hpr⟩
  have hne : ∀ {x : Addr}, ¬ ((some x : Option Addr) = none) := by intro x e; cases e
  refine ⟨fun h1 => ⟨fun h2 => ⟨fun _ => ⟨fun h3 => ?_, fun h3 => absurd (by omega) h3⟩, fun e => absurd hne e⟩, fun h2 => ?_⟩, fun h1 => ?_⟩
  · obtain ⟨x, hxj⟩ : ∃ x, xs[j]? = some x := ⟨_, List.getElem?_eq_getElem (by omega)⟩
    obtain ⟨bx, ox, rfl, cx⟩ := h.get j x hxj
    refine ⟨by omega, h1, bx, ox, rfl, x, hcell_ext cx hpr.ext (by simp), (pick_ok x n H10 (by omega) (by omega)).mono ?_⟩
    rintro _ _ ⟨rfl, rfl⟩
    have p0 := Int.emod_nonneg x (show (n : Int) ≠ 0 by omega)
    have p1 := Int.emod_lt_of_pos x (show (0 : Int) < n by omega)
    have hbl : ((xs.take j).foldl g (List.replicate n false)).length = n := by rw [hg, List.length_replicate]
    refine ⟨_, rfl, (setb_ok hpr.map (x % (n : Int)) true).mono ?_⟩
    rintro _ H18 ⟨⟨t, rfl⟩, hb18, hx18⟩
    have hx18' : Ext [bb] H10 H18 := hx18
    have hr18 := hpr.ref.ext hx18' (by simpa using hpr.d1) (by simpa [blkOf] using hpr.d2)
    obtain ⟨b5, ha5, hc5, hp5⟩ := hr18.put (x % (n : Int)).toNat (by rw [hbl]; omega)
    obtain ⟨rfl⟩ : rb = b5 := by cases ha5; rfl
    refine ⟨t, rfl, _, _, rfl, _, _, _, hr18.head.cell 0, p0, by rw [hbl]; exact p1, rb, 0, rfl, hc5, fun H27 hput => ?_⟩
    obtain ⟨hr27, hx27⟩ := hp5 _ _ hput
    have hx27' : Ext [rb] H18 H27 := hx27
    have hnext : (xs.take (j + 1)).foldl g (List.replicate n false) = ((xs.take j).foldl g (List.replicate n false)).set (x % (n : Int)).toNat true := by rw [take_snoc hxj, List.foldl_append]; rfl
    refine ⟨⟨by omega, by omega⟩, ⟨j + 1, by omega, by omega, by omega, ?_⟩, by dsimp only; omega⟩
    rw [hnext]
    rw [setB_in (by rw [hbl]; omega)] at hb18
    refine ⟨hb18.ext hx27' (by simpa using hpr.d3) (by simp only [blkOf, List.mem_singleton]; rintro k rfl; exact fun e => hpr.d2 e.symm), by rw [List.length_set]; exact hr27, (hpr.ext.trans' hx18' ?_).trans' hx27' ?_, hpr.fp, hpr.fb, hpr.fq, hpr.fr, hpr.d1, hpr.d2, hpr.d3, hpr.d4, hpr.d5⟩
    · intro i hi; simp only [List.mem_singleton] at hi; subst hi; exact .inl hpr.fb
    · intro i hi; simp only [List.mem_singleton] at hi; subst hi; exact .inl hpr.fr
  · have e : j = 40 := by omega
    subst e
    exact ⟨pb, bb, _, qb, rb, rfl, hpr⟩
  · have e : xs.take j = xs.take 40 := by rw [List.take_of_length_le (by omega), List.take_of_length_le (by omega)]
    rw [e] at hpr
    exact ⟨pb, bb, _, qb, rb, rfl, hpr⟩

end Go.Proofs
end

