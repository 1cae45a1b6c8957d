/-
  The contracts of the functions of the package extent and of its reference. No condition.
-/
import Derived.Test.YthcmooaodofgoaaProg
import Derived.Test.YthcmooaodofgoaaVc
import Derived.Test.YthcmooaodofgoaaBitsLaw
import Derived.Test.YthcmooaodofgoaaBits

section
open Go Go.Vc
namespace Go.Proofs
set_option maxRecDepth 100000
/-- pentimento/extent.Right -/
theorem vc_right (x0 : Option Addr) (x0l : Nat) (x0c : Nat) (x1 : Int) (x2 : Int) (H : Heap) (R : Value → Heap → Prop) : Walk Try.prog 40 [] [(.slice x0 x0l x0c), (.int .i64 x1), (.int .i64 x2)] H R = (
  ((((6 : Int) < (x0l : Int)) → (
        R (.bool false) H)) ∧ (¬ ((6 : Int) < (x0l : Int)) → (
        ∃ I1 : Int → Heap → Prop, ∃ μ2 : Int → Heap → Nat, (I1 0 H) ∧
        ∀ n3 : Int, ∀ H4 : Heap, I1 n3 H4 → (
          ((((n3 : Int) < (x0l : Int)) → (
                (0 : Int) ≤ n3 ∧ (n3 : Int) < (x0l : Int) ∧ ∃ b5 o6 : Nat, x0 = some (⟨b5, o6, none⟩ : Addr) ∧ (
                  ∃ n7 : Int, hcell H4 b5 (o6 + (Int.toNat n3) * 2) = some (.int .i64 n7) ∧ (
                    ∃ n8 : Int, hcell H4 b5 ((o6 + (Int.toNat n3) * 2) + 1) = some (.int .i64 n8) ∧ (
                      ∀ b9 : Nat, ∀ H10 : Heap, New H4 b9 [(.int .i64 0), (.int .i64 0)] 73 H10 → (
                        Cells H10 b9 0 2 ∧ ∀ H11 : Heap, Puts H10 b9 0 [(.int .i64 n7), (.int .i64 n8)] H11 → (
                          ∃ n12 : Int, hcell H11 b9 (0 + 1) = some (.int .i64 n12) ∧ (
                            ((((n12 : Int) < 1) → (
                                  R (.bool false) H11)) ∧ (¬ ((n12 : Int) < 1) → (
                                  ∃ n13 : Int, hcell H11 b9 0 = some (.int .i64 n13) ∧ (
                                    ((((n13 : Int) < x1) → (
                                          R (.bool false) H11)) ∧ (¬ ((n13 : Int) < x1) → (
                                          ∃ n14 : Int, hcell H11 b9 0 = some (.int .i64 n14) ∧ (
                                            ((((x2 : Int) ≤ n14) → (
                                                  R (.bool false) H11)) ∧ (¬ ((x2 : Int) ≤ n14) → (
                                                  ∃ n15 : Int, hcell H11 b9 (0 + 1) = some (.int .i64 n15) ∧ (
                                                    ∃ n16 : Int, hcell H11 b9 0 = some (.int .i64 n16) ∧ (
                                                      (In64 (x2 - n16)) ∧
                                                      (((((x2 - n16) : Int) < n15) → (
                                                            R (.bool false) H11)) ∧ (¬ (((x2 - n16) : Int) < n15) → (
                                                            (0 : Int) ≤ n3 ∧ (n3 : Int) ≤ (x0c : Int) ∧ (
                                                            ∃ I17 : Int → Heap → Prop, ∃ μ18 : Int → Heap → Nat, (I17 0 H11) ∧
                                                            ∀ n19 : Int, ∀ H20 : Heap, I17 n19 H20 → (
                                                            ((((n19 : Int) < ((Int.toNat n3) : Int)) → (
                                                            (0 : Int) ≤ n19 ∧ (n19 : Int) < ((Int.toNat n3) : Int) ∧ ∃ b21 o22 : Nat, x0 = some (⟨b21, o22, none⟩ : Addr) ∧ (
                                                            ∃ n23 : Int, hcell H20 b21 (o22 + (Int.toNat n19) * 2) = some (.int .i64 n23) ∧ (
                                                            ∃ n24 : Int, hcell H20 b21 ((o22 + (Int.toNat n19) * 2) + 1) = some (.int .i64 n24) ∧ (
                                                            ∀ b25 : Nat, ∀ H26 : Heap, New H20 b25 [(.int .i64 0), (.int .i64 0)] 73 H26 → (
                                                            Cells H26 b25 0 2 ∧ ∀ H27 : Heap, Puts H26 b25 0 [(.int .i64 n23), (.int .i64 n24)] H27 → (
                                                            ∃ n28 : Int, hcell H27 b25 0 = some (.int .i64 n28) ∧ (
                                                            ∃ n29 : Int, hcell H27 b25 (0 + 1) = some (.int .i64 n29) ∧ (
                                                            (In64 (n28 + n29)) ∧
                                                            ∃ n30 : Int, hcell H27 b9 0 = some (.int .i64 n30) ∧ (
                                                            (((((n28 + n29) : Int) ≤ n30) → (
                                                            (In64 (n3 - 1)) ∧
                                                            ((((n19 : Int) = (n3 - 1)) → (
                                                            ∃ n31 : Int, hcell H27 b25 0 = some (.int .i64 n31) ∧ (
                                                            ∃ n32 : Int, hcell H27 b25 (0 + 1) = some (.int .i64 n32) ∧ (
                                                            (In64 (n31 + n32)) ∧
                                                            ∃ n33 : Int, hcell H27 b9 0 = some (.int .i64 n33) ∧ (
                                                            (((((n31 + n32) : Int) = n33) → (
                                                            R (.bool false) H27)) ∧ (¬ (((n31 + n32) : Int) = n33) → (
                                                            (In64 (n19 + 1)) ∧
                                                            (I17 (n19 + 1) H27) ∧ μ18 (n19 + 1) H27 < μ18 n19 H20)))))))) ∧ (¬ ((n19 : Int) = (n3 - 1)) → (
                                                            (In64 (n19 + 1)) ∧
                                                            (I17 (n19 + 1) H27) ∧ μ18 (n19 + 1) H27 < μ18 n19 H20))))) ∧ (¬ (((n28 + n29) : Int) ≤ n30) → (
                                                            ∃ n34 : Int, hcell H27 b9 0 = some (.int .i64 n34) ∧ (
                                                            ∃ n35 : Int, hcell H27 b9 (0 + 1) = some (.int .i64 n35) ∧ (
                                                            (In64 (n34 + n35)) ∧
                                                            ∃ n36 : Int, hcell H27 b25 0 = some (.int .i64 n36) ∧ (
                                                            (((¬ (((n34 + n35) : Int) ≤ n36)) → (
                                                            R (.bool false) H27)) ∧ (¬ (¬ (((n34 + n35) : Int) ≤ n36)) → (
                                                            (In64 (n3 - 1)) ∧
                                                            ((((n19 : Int) = (n3 - 1)) → (
                                                            ∃ n37 : Int, hcell H27 b25 0 = some (.int .i64 n37) ∧ (
                                                            ∃ n38 : Int, hcell H27 b25 (0 + 1) = some (.int .i64 n38) ∧ (
                                                            (In64 (n37 + n38)) ∧
                                                            ∃ n39 : Int, hcell H27 b9 0 = some (.int .i64 n39) ∧ (
                                                            (((((n37 + n38) : Int) = n39) → (
                                                            R (.bool false) H27)) ∧ (¬ (((n37 + n38) : Int) = n39) → (
                                                            (In64 (n19 + 1)) ∧
                                                            (I17 (n19 + 1) H27) ∧ μ18 (n19 + 1) H27 < μ18 n19 H20)))))))) ∧ (¬ ((n19 : Int) = (n3 - 1)) → (
                                                            (In64 (n19 + 1)) ∧
                                                            (I17 (n19 + 1) H27) ∧ μ18 (n19 + 1) H27 < μ18 n19 H20)))))))))))))))))))))) ∧ (¬ ((n19 : Int) < ((Int.toNat n3) : Int)) → (
                                                            (In64 (n3 + 1)) ∧
                                                            (I1 (n3 + 1) H20) ∧ μ2 (n3 + 1) H20 < μ2 n3 H4))))))))))))))))))))))))))))) ∧ (¬ ((n3 : Int) < (x0l : Int)) → (
                R (.bool true) H4)))))))) := by kernel_rfl


/-- pentimento/extent.Blocks -/
theorem vc_blocks (x0 : Int) (H : Heap) (R : Value → Heap → Prop) : Walk Try.prog 41 [] [(.int .i64 x0)] H R = (
  ((((x0 : Int) < 1) → (
        R (.int .i64 0) H)) ∧ (¬ ((x0 : Int) < 1) → (
        (In64 (x0 - 1)) ∧
        ((128 : Int) ≠ 0) ∧
        ∀ q1 : Int, q1 = IntKind.wrap .i64 (Int.tdiv (x0 - 1) 128) → (
          (In64 (q1 + 1)) ∧
          R (.int .i64 (q1 + 1)) H))))) := by kernel_rfl


/-- pentimento/pentimentoref6.Blocks -/
theorem vc_rblocks (x0 : Int) (H : Heap) (R : Value → Heap → Prop) : Walk Try.prog 43 [] [(.int .i64 x0)] H R = (
  ((((x0 : Int) < 1) → (
        R (.int .i64 0) H)) ∧ (¬ ((x0 : Int) < 1) → (
        (In64 (x0 - 1)) ∧
        ((128 : Int) ≠ 0) ∧
        ∀ q1 : Int, q1 = IntKind.wrap .i64 (Int.tdiv (x0 - 1) 128) → (
          (In64 (q1 + 1)) ∧
          R (.int .i64 (q1 + 1)) H))))) := by kernel_rfl


/-- pentimento/pentimentoref6.small -/
theorem vc_small (x0 : Option Addr) (x0l : Nat) (x0c : Nat) (H : Heap) (R : Value → Heap → Prop) : Walk Try.prog 50 [] [(.slice x0 x0l x0c)] H R = (
  ∃ I1 : Int → Heap → Prop, ∃ μ2 : Int → Heap → Nat, (I1 0 H) ∧
  ∀ n3 : Int, ∀ H4 : Heap, I1 n3 H4 → (
    ((((n3 : Int) < (x0l : Int)) → (
          (0 : Int) ≤ n3 ∧ (n3 : Int) < (x0l : Int) ∧ ∃ b5 o6 : Nat, x0 = some (⟨b5, o6, none⟩ : Addr) ∧ (
            ∃ n7 : Int, hcell H4 b5 ((o6 + (Int.toNat n3) * 2) + 1) = some (.int .i64 n7) ∧ (
              ((((n7 : Int) < 1) → (
                    R (.bool false) H4)) ∧ (¬ ((n7 : Int) < 1) → (
                    (0 : Int) ≤ n3 ∧ (n3 : Int) < (x0l : Int) ∧ ∃ b8 o9 : Nat, x0 = some (⟨b8, o9, none⟩ : Addr) ∧ (
                      ∃ n10 : Int, hcell H4 b8 ((o9 + (Int.toNat n3) * 2) + 1) = some (.int .i64 n10) ∧ (
                        ((((4096 : Int) < n10) → (
                              R (.bool false) H4)) ∧ (¬ ((4096 : Int) < n10) → (
                              (In64 (n3 + 1)) ∧
                              (I1 (n3 + 1) H4) ∧ μ2 (n3 + 1) H4 < μ2 n3 H4)))))))))))) ∧ (¬ ((n3 : Int) < (x0l : Int)) → (
          R (.bool (@decide (((x0l : Int) : Int) ≤ 6) (Classical.propDecidable _))) H4))))) := by kernel_rfl


/-- pentimento/extent.sound$1 -/
theorem vc_sound1 (x0_0 : Int) (x0_1 : Int) (H : Heap) (R : Value → Heap → Prop) : Walk Try.prog 53 [] [(.agg #[(.int .i64 x0_0), (.int .i64 x0_1)])] H R = (
  ∀ b1 : Nat, ∀ H2 : Heap, New H b1 [(.int .i64 x0_0), (.int .i64 x0_1)] 73 H2 → (
    ∃ n3 : Int, hcell H2 b1 (0 + 1) = some (.int .i64 n3) ∧ (
      ((((n3 : Int) < 1) → (
            R (.bool true) H2)) ∧ (¬ ((n3 : Int) < 1) → (
            ∃ n4 : Int, hcell H2 b1 (0 + 1) = some (.int .i64 n4) ∧ (
              R (.bool (@decide ((4096 : Int) < n4) (Classical.propDecidable _))) H2))))))) := by kernel_rfl


/-- slices.IndexFunc[[]pentimento/extent.Piece,pentimento/extent.Piece] -/
theorem vc_indexf (x0 : Option Addr) (x0l : Nat) (x0c : Nat) (H : Heap) (R : Value → Heap → Prop) : Walk Try.prog 54 [] [(.slice x0 x0l x0c), (.func (.func 53) #[] #[])] H R = (
  ∃ I1 : Int → Heap → Prop, ∃ μ2 : Int → Heap → Nat, (I1 0 H) ∧
  ∀ n3 : Int, ∀ H4 : Heap, I1 n3 H4 → (
    ((((n3 : Int) < (x0l : Int)) → (
          (0 : Int) ≤ n3 ∧ (n3 : Int) < (x0l : Int) ∧ ∃ b5 o6 : Nat, x0 = some (⟨b5, o6, none⟩ : Addr) ∧ (
            ∃ n7 : Int, hcell H4 b5 (o6 + (Int.toNat n3) * 2) = some (.int .i64 n7) ∧ (
              ∃ n8 : Int, hcell H4 b5 ((o6 + (Int.toNat n3) * 2) + 1) = some (.int .i64 n8) ∧ (
                Does Try.prog 53 [(.agg #[(.int .i64 n7), (.int .i64 n8)])] H4 fun v9 H10 => ∃ t11 : Bool, v9 = (.bool t11) ∧ (
                  ((t11 = true → (
                        R (.int .i64 n3) H10)) ∧ (t11 = false → (
                        (In64 (n3 + 1)) ∧
                        (I1 (n3 + 1) H10) ∧ μ2 (n3 + 1) H10 < μ2 n3 H4))))))))) ∧ (¬ ((n3 : Int) < (x0l : Int)) → (
          R (.int .i64 (-1)) H4))))) := by kernel_rfl


/-- slices.ContainsFunc[[]pentimento/extent.Piece,pentimento/extent.Piece] -/
theorem vc_containsf (x0 : Option Addr) (x0l : Nat) (x0c : Nat) (H : Heap) (R : Value → Heap → Prop) : Walk Try.prog 52 [] [(.slice x0 x0l x0c), (.func (.func 53) #[] #[])] H R = (
  Does Try.prog 54 [(.slice x0 x0l x0c), (.func (.func 53) #[] #[])] H fun v1 H2 => ∃ n3 : Int, v1 = (.int .i64 n3) ∧ (
    R (.bool (@decide ((0 : Int) ≤ n3) (Classical.propDecidable _))) H2)) := by kernel_rfl


/-- pentimento/extent.sound -/
theorem vc_sound (x0 : Option Addr) (x0l : Nat) (x0c : Nat) (H : Heap) (R : Value → Heap → Prop) : Walk Try.prog 51 [] [(.slice x0 x0l x0c)] H R = (
  (((((x0l : Int) : Int) ≤ 6) → (
        Does Try.prog 52 [(.slice x0 x0l x0c), (.func (.func 53) #[] #[])] H fun v1 H2 => ∃ t3 : Bool, v1 = (.bool t3) ∧ (
          R (.bool (@decide (t3 = false) (Classical.propDecidable _))) H2))) ∧ (¬ (((x0l : Int) : Int) ≤ 6) → (
        R (.bool false) H)))) := by kernel_rfl


/-- pentimento/extent.Count -/
theorem vc_count (x0 : Option Addr) (x0l : Nat) (x0c : Nat) (H : Heap) (R : Value → Heap → Prop) : Walk Try.prog 38 [] [(.slice x0 x0l x0c)] H R = (
  Does Try.prog 51 [(.slice x0 x0l x0c)] H fun v1 H2 => ∃ t3 : Bool, v1 = (.bool t3) ∧ (
    (((t3 = false) → (
          R (.int .i64 0) H2)) ∧ (¬ (t3 = false) → (
          ∃ I4 : Int → Int → Heap → Prop, ∃ μ5 : Int → Int → Heap → Nat, (I4 0 0 H2) ∧
          ∀ n6 : Int, ∀ n7 : Int, ∀ H8 : Heap, I4 n6 n7 H8 → (
            ((((n7 : Int) < (x0l : Int)) → (
                  (0 : Int) ≤ n7 ∧ (n7 : Int) < (x0l : Int) ∧ ∃ b9 o10 : Nat, x0 = some (⟨b9, o10, none⟩ : Addr) ∧ (
                    ∃ n11 : Int, hcell H8 b9 (o10 + (Int.toNat n7) * 2) = some (.int .i64 n11) ∧ (
                      ∃ n12 : Int, hcell H8 b9 ((o10 + (Int.toNat n7) * 2) + 1) = some (.int .i64 n12) ∧ (
                        ∀ b13 : Nat, ∀ H14 : Heap, New H8 b13 [(.int .i64 0), (.int .i64 0)] 73 H14 → (
                          Cells H14 b13 0 2 ∧ ∀ H15 : Heap, Puts H14 b13 0 [(.int .i64 n11), (.int .i64 n12)] H15 → (
                            ∃ n16 : Int, hcell H15 b13 (0 + 1) = some (.int .i64 n16) ∧ (
                              (In64 (n6 + n16)) ∧
                              (In64 (n7 + 1)) ∧
                              (I4 (n6 + n16) (n7 + 1) H15) ∧ μ5 (n6 + n16) (n7 + 1) H15 < μ5 n6 n7 H8)))))))) ∧ (¬ ((n7 : Int) < (x0l : Int)) → (
                  R (.int .i64 n6) H8))))))))) := by kernel_rfl


/-- pentimento/pentimentoref6.Count -/
theorem vc_rcount (x0 : Option Addr) (x0l : Nat) (x0c : Nat) (H : Heap) (R : Value → Heap → Prop) : Walk Try.prog 39 [] [(.slice x0 x0l x0c)] H R = (
  Does Try.prog 50 [(.slice x0 x0l x0c)] H fun v1 H2 => ∃ t3 : Bool, v1 = (.bool t3) ∧ (
    (((t3 = false) → (
          R (.int .i64 0) H2)) ∧ (¬ (t3 = false) → (
          ∃ I4 : Int → Int → Heap → Prop, ∃ μ5 : Int → Int → Heap → Nat, (I4 0 0 H2) ∧
          ∀ n6 : Int, ∀ n7 : Int, ∀ H8 : Heap, I4 n6 n7 H8 → (
            ((((n7 : Int) < (x0l : Int)) → (
                  (0 : Int) ≤ n7 ∧ (n7 : Int) < (x0l : Int) ∧ ∃ b9 o10 : Nat, x0 = some (⟨b9, o10, none⟩ : Addr) ∧ (
                    ∃ n11 : Int, hcell H8 b9 ((o10 + (Int.toNat n7) * 2) + 1) = some (.int .i64 n11) ∧ (
                      (In64 (n6 + n11)) ∧
                      (In64 (n7 + 1)) ∧
                      (I4 (n6 + n11) (n7 + 1) H8) ∧ μ5 (n6 + n11) (n7 + 1) H8 < μ5 n6 n7 H8)))) ∧ (¬ ((n7 : Int) < (x0l : Int)) → (
                  R (.int .i64 n6) H8))))))))) := by kernel_rfl


/-- pentimento/pentimentoref6.list -/
theorem vc_list (x0 : Option Addr) (x0l : Nat) (x0c : Nat) (H : Heap) (R : Value → Heap → Prop) : Walk Try.prog 45 [(999999, [])] [(.slice x0 x0l x0c)] H R = (
  ∃ I1 : Option Addr → Nat → Nat → Int → Heap → Prop, ∃ μ2 : Option Addr → Nat → Nat → Int → Heap → Nat, (I1 none 0 0 0 H) ∧
  ∀ a3 : Option Addr, ∀ l4 : Nat, ∀ c5 : Nat, ∀ n6 : Int, ∀ H7 : Heap, I1 a3 l4 c5 n6 H7 → (
    ((((n6 : Int) < (x0l : Int)) → (
          ∃ I8 : Option Addr → Nat → Nat → Int → Heap → Prop, ∃ μ9 : Option Addr → Nat → Nat → Int → Heap → Nat, (I8 a3 l4 c5 0 H7) ∧
          ∀ a10 : Option Addr, ∀ l11 : Nat, ∀ c12 : Nat, ∀ n13 : Int, ∀ H14 : Heap, I8 a10 l11 c12 n13 H14 → (
            (0 : Int) ≤ n6 ∧ (n6 : Int) < (x0l : Int) ∧ ∃ b15 o16 : Nat, x0 = some (⟨b15, o16, none⟩ : Addr) ∧ (
              ∃ n17 : Int, hcell H14 b15 ((o16 + (Int.toNat n6) * 2) + 1) = some (.int .i64 n17) ∧ (
                ((((n13 : Int) < n17) → (
                      (0 : Int) ≤ n6 ∧ (n6 : Int) < (x0l : Int) ∧ ∃ b18 o19 : Nat, x0 = some (⟨b18, o19, none⟩ : Addr) ∧ (
                        ∃ n20 : Int, hcell H14 b18 (o19 + (Int.toNat n6) * 2) = some (.int .i64 n20) ∧ (
                          ∀ q21 : Int, q21 = IntKind.wrap .i64 (n20 + n13) → (
                            ∀ b22 : Nat, ∀ H23 : Heap, New H14 b22 [(.int .i64 q21)] 3 H23 → (
                              ∃ old24 new25 : List Value, SRow H23 1 l11 (.slice a10 l11 c12) old24 ∧ SRow H23 1 1 (.slice (some (⟨b22, 0, none⟩ : Addr)) 1 1) new25 ∧ (∀ u ∈ new25, Value.oneCell' u = true) ∧ (l11 + 1) * 8 ≤ 140737488355328 ∧ (l11 + 1 ≤ c12 → roomOf H23 a10 (l11 * 1) (1 * 1)) ∧ ∀ a26 : Option Addr, ∀ c27 : Nat, ∀ H28 : Heap, App H23 1 3 [(.int .i64 0)] a10 l11 c12 old24 new25 1 a26 c27 H28 → (
                                ∀ q29 : Int, q29 = IntKind.wrap .i64 (n13 + 1) → (
                                  (I8 a26 (l11 + 1) c27 q29 H28) ∧ μ9 a26 (l11 + 1) c27 q29 H28 < μ9 a10 l11 c12 n13 H14)))))))) ∧ (¬ ((n13 : Int) < n17) → (
                      ∀ q30 : Int, q30 = IntKind.wrap .i64 (n6 + 1) → (
                        (I1 a10 l11 c12 q30 H14) ∧ μ2 a10 l11 c12 q30 H14 < μ2 a3 l4 c5 n6 H7))))))))) ∧ (¬ ((n6 : Int) < (x0l : Int)) → (
          R (.slice a3 l4 c5) H7))))) := by kernel_rfl


/-- pentimento/pentimentoref6.SamePieces -/
theorem vc_same (x0 : Option Addr) (x0l : Nat) (x0c : Nat) (x1 : Option Addr) (x1l : Nat) (x1c : Nat) (H : Heap) (R : Value → Heap → Prop) : Walk Try.prog 31 [] [(.slice x0 x0l x0c), (.slice x1 x1l x1c)] H R = (
  (((((x0l : Int) : Int) ≠ (x1l : Int)) → (
        R (.bool false) H)) ∧ (¬ (((x0l : Int) : Int) ≠ (x1l : Int)) → (
        ∃ I1 : Int → Heap → Prop, ∃ μ2 : Int → Heap → Nat, (I1 0 H) ∧
        ∀ n3 : Int, ∀ H4 : Heap, I1 n3 H4 → (
          ((((n3 : Int) < (x0l : Int)) → (
                (0 : Int) ≤ n3 ∧ (n3 : Int) < (x0l : Int) ∧ ∃ b5 o6 : Nat, x0 = some (⟨b5, o6, none⟩ : Addr) ∧ (
                  ∃ n7 : Int, hcell H4 b5 (o6 + (Int.toNat n3) * 2) = some (.int .i64 n7) ∧ (
                    ∃ n8 : Int, hcell H4 b5 ((o6 + (Int.toNat n3) * 2) + 1) = some (.int .i64 n8) ∧ (
                      (0 : Int) ≤ n3 ∧ (n3 : Int) < (x1l : Int) ∧ ∃ b9 o10 : Nat, x1 = some (⟨b9, o10, none⟩ : Addr) ∧ (
                        ∃ n11 : Int, hcell H4 b9 (o10 + (Int.toNat n3) * 2) = some (.int .i64 n11) ∧ (
                          ∃ n12 : Int, hcell H4 b9 ((o10 + (Int.toNat n3) * 2) + 1) = some (.int .i64 n12) ∧ (
                            (((¬ (((n7 : Int) = n11) ∧ ((n8 : Int) = n12))) → (
                                  R (.bool false) H4)) ∧ (¬ (¬ (((n7 : Int) = n11) ∧ ((n8 : Int) = n12))) → (
                                  (In64 (n3 + 1)) ∧
                                  (I1 (n3 + 1) H4) ∧ μ2 (n3 + 1) H4 < μ2 n3 H4))))))))))) ∧ (¬ ((n3 : Int) < (x0l : Int)) → (
                R (.bool true) H4)))))))) := by kernel_rfl


/-- slices.Clone[[]pentimento/extent.Piece,pentimento/extent.Piece] -/
theorem vc_clonep (x0 : Option Addr) (x0l : Nat) (x0c : Nat) (H : Heap) (R : Value → Heap → Prop) : Walk Try.prog 48 [] [(.slice x0 x0l x0c)] H R = (
  ((((x0 : Option Addr) = none) → (
        R (.slice none 0 0) H)) ∧ (¬ ((x0 : Option Addr) = none) → (
        ∀ b1 : Nat, ∀ H2 : Heap, New H b1 [] 73 H2 → (
          ∃ old3 new4 : List Value, SRow H2 2 0 (.slice (some (⟨b1, 0, none⟩ : Addr)) 0 0) old3 ∧ SRow H2 2 x0l (.slice x0 x0l x0c) new4 ∧ (∀ u ∈ new4, Value.oneCell' u = true) ∧ (0 + x0l) * 16 ≤ 140737488355328 ∧ (0 + x0l ≤ 0 → roomOf H2 (some (⟨b1, 0, none⟩ : Addr)) (0 * 2) (x0l * 2)) ∧ ∀ a5 : Option Addr, ∀ c6 : Nat, ∀ H7 : Heap, App H2 2 73 [(.int .i64 0), (.int .i64 0)] (some (⟨b1, 0, none⟩ : Addr)) 0 0 old3 new4 x0l a5 c6 H7 → (
            R (.slice a5 (0 + x0l) c6) H7)))))) := by kernel_rfl


/-- pentimento/extent.At -/
theorem vc_at (x0 : Option Addr) (x0l : Nat) (x0c : Nat) (x1 : Int) (H : Heap) (R : Value → Heap → Prop) : Walk Try.prog 36 [(999999, [])] [(.slice x0 x0l x0c), (.int .i64 x1)] H R = (
  ((((x1 : Int) < 0) → (
        R (.tuple #[(.int .i64 0), (.bool false)]) H)) ∧ (¬ ((x1 : Int) < 0) → (
        Does Try.prog 38 [(.slice x0 x0l x0c)] H fun v1 H2 => ∃ n3 : Int, v1 = (.int .i64 n3) ∧ (
          ((((n3 : Int) ≤ x1) → (
                R (.tuple #[(.int .i64 0), (.bool false)]) H2)) ∧ (¬ ((n3 : Int) ≤ x1) → (
                ∃ I4 : Int → Int → Heap → Prop, ∃ μ5 : Int → Int → Heap → Nat, (I4 x1 0 H2) ∧
                ∀ n6 : Int, ∀ n7 : Int, ∀ H8 : Heap, I4 n6 n7 H8 → (
                  ((((n7 : Int) < (x0l : Int)) → (
                        (0 : Int) ≤ n7 ∧ (n7 : Int) < (x0l : Int) ∧ ∃ b9 o10 : Nat, x0 = some (⟨b9, o10, none⟩ : Addr) ∧ (
                          ∃ n11 : Int, hcell H8 b9 (o10 + (Int.toNat n7) * 2) = some (.int .i64 n11) ∧ (
                            ∃ n12 : Int, hcell H8 b9 ((o10 + (Int.toNat n7) * 2) + 1) = some (.int .i64 n12) ∧ (
                              ∀ b13 : Nat, ∀ H14 : Heap, New H8 b13 [(.int .i64 0), (.int .i64 0)] 73 H14 → (
                                Cells H14 b13 0 2 ∧ ∀ H15 : Heap, Puts H14 b13 0 [(.int .i64 n11), (.int .i64 n12)] H15 → (
                                  ∃ n16 : Int, hcell H15 b13 (0 + 1) = some (.int .i64 n16) ∧ (
                                    ((((n6 : Int) < n16) → (
                                          ∃ n17 : Int, hcell H15 b13 0 = some (.int .i64 n17) ∧ (
                                            ∀ q18 : Int, q18 = IntKind.wrap .i64 (n17 + n6) → (
                                              R (.tuple #[(.int .i64 q18), (.bool true)]) H15)))) ∧ (¬ ((n6 : Int) < n16) → (
                                          ∃ n19 : Int, hcell H15 b13 (0 + 1) = some (.int .i64 n19) ∧ (
                                            ∀ q20 : Int, q20 = IntKind.wrap .i64 (n6 - n19) → (
                                              ∀ q21 : Int, q21 = IntKind.wrap .i64 (n7 + 1) → (
                                                (I4 q20 q21 H15) ∧ μ5 q20 q21 H15 < μ5 n6 n7 H8)))))))))))))) ∧ (¬ ((n7 : Int) < (x0l : Int)) → (
                        R (.tuple #[(.int .i64 0), (.bool false)]) H8)))))))))))) := by kernel_rfl


/-- pentimento/pentimentoref6.At -/
theorem vc_rat (x0 : Option Addr) (x0l : Nat) (x0c : Nat) (x1 : Int) (H : Heap) (R : Value → Heap → Prop) : Walk Try.prog 37 [] [(.slice x0 x0l x0c), (.int .i64 x1)] H R = (
  Does Try.prog 50 [(.slice x0 x0l x0c)] H fun v1 H2 => ∃ t3 : Bool, v1 = (.bool t3) ∧ (
    (((t3 = false) → (
          R (.tuple #[(.int .i64 0), (.bool false)]) H2)) ∧ (¬ (t3 = false) → (
          Does Try.prog 45 [(.slice x0 x0l x0c)] H2 fun v4 H5 => ∃ a6 : Option Addr, ∃ l7 : Nat, ∃ c8 : Nat, v4 = (.slice a6 l7 c8) ∧ (
            ((((x1 : Int) < 0) → (
                  R (.tuple #[(.int .i64 0), (.bool false)]) H5)) ∧ (¬ ((x1 : Int) < 0) → (
                  (((((l7 : Int) : Int) ≤ x1) → (
                        R (.tuple #[(.int .i64 0), (.bool false)]) H5)) ∧ (¬ (((l7 : Int) : Int) ≤ x1) → (
                        (0 : Int) ≤ x1 ∧ (x1 : Int) < (l7 : Int) ∧ ∃ b9 o10 : Nat, a6 = some (⟨b9, o10, none⟩ : Addr) ∧ (
                          ∃ n11 : Int, hcell H5 b9 (o10 + (Int.toNat x1)) = some (.int .i64 n11) ∧ (
                            R (.tuple #[(.int .i64 n11), (.bool true)]) H5)))))))))))))) := by kernel_rfl


end Go.Proofs
end

namespace Go.Vc

structure Pc where
  s : Int
  c : Int
  deriving DecidableEq

def pcV (p : Pc) : List Value := [.int .i64 p.s, .int .i64 p.c]
def piecesV (l : List Pc) : List Value := (l.map pcV).flatten

theorem piecesV_length : ∀ l : List Pc, (piecesV l).length = l.length * 2
  | [] => rfl
  | p :: l => by
    have := piecesV_length l
    unfold piecesV at this ⊢
    simp only [List.map_cons, List.flatten_cons, List.length_append, this, List.length_cons]
    simp only [pcV, List.length_cons, List.length_nil]
    omega

/-- A slice of pieces. -/
structure Pcs (H : Heap) (a : Option Addr) (len : Nat) (l : List Pc) : Prop where
  leng : l.length = len
  row : ∀ c, SRow H 2 len (.slice a len c) (piecesV l)

theorem Pcs.ext {M : List Nat} {H H' : Heap} {a : Option Addr} {len : Nat} {l : List Pc} (h : Pcs H a len l) (he : Ext M H H') (hm : ∀ k, k ∈ blkOf a → k ∉ M) : Pcs H' a len l :=
  ⟨h.leng, fun c => (h.row c).ext he hm⟩

theorem Pcs.get {H : Heap} {a : Option Addr} {len : Nat} {l : List Pc} (h : Pcs H a len l) (i : Nat) (p : Pc) (hp : l[i]? = some p) : ∃ b o, a = some ⟨b, o, none⟩ ∧ hcell H b (o + i * 2) = some (.int .i64 p.s) ∧ hcell H b ((o + i * 2) + 1) = some (.int .i64 p.c) := by
  have hr : (l.map pcV)[i]? = some (pcV p) := by simp [hp]
  have hlen : ∀ r ∈ l.map pcV, r.length = 2 := by
    intro r hr
    obtain ⟨q, _, rfl⟩ := List.mem_map.1 hr
    rfl
  have h0 := flatten_at (j := 0) hlen hr (by decide)
  have h1 := flatten_at (j := 1) hlen hr (by decide)
  obtain ⟨b, o, rfl, c0⟩ := (h.row 0).at (h0.trans rfl)
  obtain ⟨b1, o1, e1, c1⟩ := (h.row 0).at (h1.trans rfl)
  cases e1
  exact ⟨b, o, rfl, c0, by rw [Nat.add_assoc]; exact c1⟩

/-- A new block that is written whole. -/
theorem new_put {H H1 H2 : Heap} {b : Nat} {z vs : List Value} {e : TypeId} (h : New H b z e H1) (h2 : Puts H1 b 0 vs H2) (hl : vs.length = z.length) : Blk H2 b vs ∧ Ext [] H H2 ∧ b = H.size ∧ H2.size = H.size + 1 := by
  have hb := h.blk
  have hp := h2.blk hb (by omega)
  have he := h.eq
  have hs := h.size
  have hs2 := h2.size
  refine ⟨?_, h.ext.trans' h2.ext (by intro i hi; simp only [List.mem_singleton] at hi; omega), he, by omega⟩
  have : splice z 0 vs = vs := by
    unfold splice
    rw [List.take_zero, List.nil_append, Nat.zero_add, hl, List.drop_length, List.append_nil]
  rwa [this] at hp

def okP (a e : Int) (p : Pc) : Prop := 1 ≤ p.c ∧ a ≤ p.s ∧ p.s < e ∧ p.c ≤ e - p.s
def apartP (q p : Pc) : Prop := q.s + q.c ≤ p.s ∨ p.s + p.c ≤ q.s

/-- Piece number i of l goes with those ahead of it. -/
def fitsP (l : List Pc) (a e : Int) (i : Nat) (p : Pc) : Prop := okP a e p ∧ ∀ k q, k < i → l[k]? = some q → apartP q p ∧ (k + 1 = i → q.s + q.c ≠ p.s)

def RightP (l : List Pc) (a e : Int) : Prop := l.length ≤ 6 ∧ ∀ i p, l[i]? = some p → fitsP l a e i p

end Go.Vc

section
open Go Go.Vc
namespace Go.Proofs

noncomputable def decP (p : Prop) : Bool := @decide p (Classical.propDecidable p)

theorem decP_true {p : Prop} (h : p) : true = decP p := (@decide_eq_true p (Classical.propDecidable p) h).symm
theorem decP_false {p : Prop} (h : ¬ p) : false = decP p := (@decide_eq_false p (Classical.propDecidable p) h).symm

theorem right_ok {H : Heap} {a : Option Addr} {len cap : Nat} {l : List Pc} (h : Pcs H a len l) (hc : len ≤ cap) (x e : Int) (hx : 0 ≤ x) (hx' : x ≤ 9223372036854775807) (he : e ≤ 9223372036854775807) :
    Does Try.prog 40 [.slice a len cap, .int .i64 x, .int .i64 e] H fun v H' => v = .bool (decP (RightP l x e)) ∧ Ext [] H H' := by
  refine Fn_of_vc Try.mixed (vc_right _ _ _ _ _ _ _) ?_
  have hlen := h.leng
  have no : ∀ {H'}, ¬ RightP l x e → Ext [] H H' → Value.bool false = .bool (decP (RightP l x e)) ∧ Ext [] H H' := fun hn hx => ⟨congrArg _ (decP_false hn), hx⟩
  refine ⟨fun h1 => no (fun hr => by have := hr.1; omega) (Ext.refl _ _), fun h1 => ?_⟩
  refine ⟨fun i H' => Ext [] H H' ∧ ∃ j : Nat, i = j ∧ j ≤ len ∧ ∀ i p, i < j → l[i]? = some p → fitsP l x e i p, fun i _ => len - i.toNat, ⟨Ext.refl _ _, 0, rfl, Nat.zero_le _, fun i p hi => absurd hi (Nat.not_lt_zero _)⟩, ?_⟩
  rintro _ H4 ⟨hx4, j, rfl, hj, hall⟩
  refine ⟨fun h2 => ?_, fun h2 => ⟨congrArg _ (decP_true ⟨by omega, fun i p hp => hall i p (by have := (List.getElem?_eq_some_iff.1 hp).1; omega) hp⟩), hx4⟩⟩
  have hjl : j < l.length := by omega
  obtain ⟨p, hp⟩ : ∃ p, l[j]? = some p := ⟨_, List.getElem?_eq_getElem hjl⟩
  obtain ⟨b, o, rfl, c0, c1⟩ := h.get j p hp
  refine ⟨by omega, h2, b, o, rfl, _, hcell_ext c0 hx4 (by simp), _, hcell_ext c1 hx4 (by simp), fun b9 H10 hn => ⟨hn.blk.cells 2 0 (by simp), fun H11 hput => ?_⟩⟩
  obtain ⟨hb9, hx11, e9, s11⟩ := new_put hn hput rfl
  have hxx := hx4.trans hx11
  have nofit : ¬ fitsP l x e j p → ¬ RightP l x e := fun hn hr => hn (hr.2 j p hp)
  refine ⟨p.c, hb9.cell 1, fun h3 => no (nofit fun hf => by have := hf.1.1; omega) hxx, fun h3 => ?_⟩
  refine ⟨p.s, hb9.cell 0, fun h4 => no (nofit fun hf => by have := hf.1.2.1; omega) hxx, fun h4 => ?_⟩
  refine ⟨p.s, hb9.cell 0, fun h5 => no (nofit fun hf => by have := hf.1.2.2.1; omega) hxx, fun h5 => ?_⟩
  refine ⟨p.c, hb9.cell 1, p.s, hb9.cell 0, ⟨by omega, by omega⟩, fun h6 => no (nofit fun hf => by have := hf.1.2.2.2; omega) hxx, fun h6 => ?_⟩
  refine ⟨by omega, by omega, fun i H' => Ext [] H11 H' ∧ ∃ k : Nat, i = k ∧ k ≤ j ∧ ∀ i q, i < k → l[i]? = some q → apartP q p ∧ (i + 1 = j → q.s + q.c ≠ p.s), fun i _ => j - i.toNat, ⟨Ext.refl _ _, 0, rfl, Nat.zero_le _, fun i q hi => absurd hi (Nat.not_lt_zero _)⟩, ?_⟩
  rintro _ H20 ⟨hx20, k, rfl, hk, hapart⟩
  simp only [Int.toNat_natCast]
  refine ⟨fun h7 => ?_, fun h7 => ⟨⟨by omega, by omega⟩, ⟨hxx.trans hx20, j + 1, by omega, by omega, fun i q hi hq => ?_⟩, by omega⟩⟩
  · have hkl : k < l.length := by omega
    obtain ⟨q, hq⟩ : ∃ q, l[k]? = some q := ⟨_, List.getElem?_eq_getElem hkl⟩
    obtain ⟨b', o', e', d0, d1⟩ := h.get k q hq
    cases e'
    have hx20' := hxx.trans hx20
    have okq := (hall k q (by omega) hq).1
    refine ⟨by omega, by omega, b, o, rfl, _, hcell_ext d0 hx20' (by simp), _, hcell_ext d1 hx20' (by simp), fun b25 H26 hn2 => ⟨hn2.blk.cells 2 0 (by simp), fun H27 hput2 => ?_⟩⟩
    obtain ⟨hb25, hx27, e25, s27⟩ := new_put hn2 hput2 rfl
    have hb9' := hb9.ext (hx20.trans hx27) (by simp)
    have hfin := hx20'.trans hx27
    have hnn : ∀ {P : Prop}, (fitsP l x e j p → P) → (P → False) → ¬ RightP l x e := fun h1 h2 hr => h2 (h1 (hr.2 j p hp))
    have okp1 : p.s + p.c ≤ e := by omega
    have okq1 : q.s + q.c ≤ e := by have := okq.2.2.2; omega
    have okq2 := okq.2.1
    have okq3 := okq.1
    have step : (apartP q p ∧ (k + 1 = j → q.s + q.c ≠ p.s)) → In64 ((k : Int) + 1) ∧ (Ext [] H11 H27 ∧ ∃ k1 : Nat, (k : Int) + 1 = k1 ∧ k1 ≤ j ∧ ∀ i q, i < k1 → l[i]? = some q → apartP q p ∧ (i + 1 = j → q.s + q.c ≠ p.s)) ∧ j - ((k : Int) + 1).toNat < j - (k : Int).toNat := by
      intro hq1
      refine ⟨⟨by omega, by omega⟩, ⟨hx20.trans hx27, k + 1, by omega, by omega, fun i q' hi hq' => ?_⟩, by omega⟩
      by_cases e : i = k
      · subst e
        rw [hq] at hq'
        cases hq'
        exact hq1
      · exact hapart i q' (by omega) hq'
    refine ⟨q.s, hb25.cell 0, q.c, hb25.cell 1, ⟨by omega, by omega⟩, p.s, hb9'.cell 0, fun h8 => ⟨⟨by omega, by omega⟩, fun h9 => ?_, fun h9 => ?_⟩, fun h8 => ?_⟩
    · refine ⟨q.s, hb25.cell 0, q.c, hb25.cell 1, ⟨by omega, by omega⟩, p.s, hb9'.cell 0, fun h10 => no (hnn (fun hf => (hf.2 k q (by omega) hq).2 (by omega)) (fun hne => hne h10)) hfin, fun h10 => ?_⟩
      exact step ⟨.inl h8, fun _ => h10⟩
    · exact step ⟨.inl h8, fun e => absurd (by omega) h9⟩
    · refine ⟨p.s, hb9'.cell 0, p.c, hb9'.cell 1, ⟨by omega, by omega⟩, q.s, hb25.cell 0, fun h9 => no (hnn (fun hf => (hf.2 k q (by omega) hq).1) (fun ha => by rcases ha with ha | ha; exact h8 ha; exact h9 ha)) hfin, fun h9 => ?_⟩
      have h9' : p.s + p.c ≤ q.s := Decidable.not_not.1 h9
      refine ⟨⟨by omega, by omega⟩, fun h10 => ?_, fun h10 => step ⟨.inr h9', fun e => absurd (by omega) h10⟩⟩
      refine ⟨q.s, hb25.cell 0, q.c, hb25.cell 1, ⟨by omega, by omega⟩, p.s, hb9'.cell 0, fun h11 => absurd h11 (by omega), fun h11 => ?_⟩
      exact step ⟨.inr h9', fun _ => h11⟩
  · by_cases ei : i = j
    · subst ei
      rw [hp] at hq
      cases hq
      exact ⟨⟨by omega, by omega, by omega, by omega⟩, fun k' q hk' hq => hapart k' q (by omega) hq⟩
    · exact hall i q (by omega) hq

end Go.Proofs
end

section
open Go Go.Vc
namespace Go.Proofs
set_option maxRecDepth 100000
/-- pentimento/pentimentoref6.Right -/
theorem vc_rright (x0 : Option Addr) (x0l : Nat) (x0c : Nat) (x1 : Int) (x2 : Int) (H : Heap) (R : Value → Heap → Prop) : Walk Try.prog 42 [] [(.slice x0 x0l x0c), (.int .i64 x1), (.int .i64 x2)] H R = (
  ((((6 : Int) < (x0l : Int)) → (
        R (.bool false) H)) ∧ (¬ ((6 : Int) < (x0l : Int)) → (
        ∃ I1 : Int → Heap → Prop, ∃ μ2 : Int → Heap → Nat, (I1 0 H) ∧
        ∀ n3 : Int, ∀ H4 : Heap, I1 n3 H4 → (
          ((((n3 : Int) < (x0l : Int)) → (
                (0 : Int) ≤ n3 ∧ (n3 : Int) < (x0l : Int) ∧ ∃ b5 o6 : Nat, x0 = some (⟨b5, o6, none⟩ : Addr) ∧ (
                  ∃ n7 : Int, hcell H4 b5 (o6 + (Int.toNat n3) * 2) = some (.int .i64 n7) ∧ (
                    ∃ n8 : Int, hcell H4 b5 ((o6 + (Int.toNat n3) * 2) + 1) = some (.int .i64 n8) ∧ (
                      ∀ b9 : Nat, ∀ H10 : Heap, New H4 b9 [(.int .i64 0), (.int .i64 0)] 73 H10 → (
                        Cells H10 b9 0 2 ∧ ∀ H11 : Heap, Puts H10 b9 0 [(.int .i64 n7), (.int .i64 n8)] H11 → (
                          ∃ n12 : Int, hcell H11 b9 (0 + 1) = some (.int .i64 n12) ∧ (
                            ((((n12 : Int) < 1) → (
                                  R (.bool false) H11)) ∧ (¬ ((n12 : Int) < 1) → (
                                  ∃ n13 : Int, hcell H11 b9 0 = some (.int .i64 n13) ∧ (
                                    ((((n13 : Int) < x1) → (
                                          R (.bool false) H11)) ∧ (¬ ((n13 : Int) < x1) → (
                                          ∃ n14 : Int, hcell H11 b9 0 = some (.int .i64 n14) ∧ (
                                            ((((x2 : Int) ≤ n14) → (
                                                  R (.bool false) H11)) ∧ (¬ ((x2 : Int) ≤ n14) → (
                                                  ∃ n15 : Int, hcell H11 b9 (0 + 1) = some (.int .i64 n15) ∧ (
                                                    ∃ n16 : Int, hcell H11 b9 0 = some (.int .i64 n16) ∧ (
                                                      (In64 (x2 - n16)) ∧
                                                      (((((x2 - n16) : Int) < n15) → (
                                                            R (.bool false) H11)) ∧ (¬ (((x2 - n16) : Int) < n15) → (
                                                            ((((0 : Int) < n3) → (
                                                            (In64 (n3 - 1)) ∧
                                                            (0 : Int) ≤ (n3 - 1) ∧ ((n3 - 1) : Int) < (x0l : Int) ∧ ∃ b17 o18 : Nat, x0 = some (⟨b17, o18, none⟩ : Addr) ∧ (
                                                            ∃ n19 : Int, hcell H11 b17 (o18 + (Int.toNat (n3 - 1)) * 2) = some (.int .i64 n19) ∧ (
                                                            (In64 (n3 - 1)) ∧
                                                            (0 : Int) ≤ (n3 - 1) ∧ ((n3 - 1) : Int) < (x0l : Int) ∧ ∃ b20 o21 : Nat, x0 = some (⟨b20, o21, none⟩ : Addr) ∧ (
                                                            ∃ n22 : Int, hcell H11 b20 ((o21 + (Int.toNat (n3 - 1)) * 2) + 1) = some (.int .i64 n22) ∧ (
                                                            (In64 (n19 + n22)) ∧
                                                            ∃ n23 : Int, hcell H11 b9 0 = some (.int .i64 n23) ∧ (
                                                            (((((n19 + n22) : Int) = n23) → (
                                                            R (.bool false) H11)) ∧ (¬ (((n19 + n22) : Int) = n23) → (
                                                            ∃ I24 : Int → Heap → Prop, ∃ μ25 : Int → Heap → Nat, (I24 0 H11) ∧
                                                            ∀ n26 : Int, ∀ H27 : Heap, I24 n26 H27 → (
                                                            ((((n26 : Int) < n3) → (
                                                            (0 : Int) ≤ n26 ∧ (n26 : Int) < (x0l : Int) ∧ ∃ b28 o29 : Nat, x0 = some (⟨b28, o29, none⟩ : Addr) ∧ (
                                                            ∃ n30 : Int, hcell H27 b28 (o29 + (Int.toNat n26) * 2) = some (.int .i64 n30) ∧ (
                                                            ∃ n31 : Int, hcell H27 b28 ((o29 + (Int.toNat n26) * 2) + 1) = some (.int .i64 n31) ∧ (
                                                            ∀ b32 : Nat, ∀ H33 : Heap, New H27 b32 [(.int .i64 0), (.int .i64 0)] 73 H33 → (
                                                            Cells H33 b32 0 2 ∧ ∀ H34 : Heap, Puts H33 b32 0 [(.int .i64 n30), (.int .i64 n31)] H34 → (
                                                            ∃ n35 : Int, hcell H34 b9 0 = some (.int .i64 n35) ∧ (
                                                            ∃ n36 : Int, hcell H34 b32 0 = some (.int .i64 n36) ∧ (
                                                            ∃ n37 : Int, hcell H34 b32 (0 + 1) = some (.int .i64 n37) ∧ (
                                                            (In64 (n36 + n37)) ∧
                                                            ((((n35 : Int) < (n36 + n37)) → (
                                                            ∃ n38 : Int, hcell H34 b32 0 = some (.int .i64 n38) ∧ (
                                                            ∃ n39 : Int, hcell H34 b9 0 = some (.int .i64 n39) ∧ (
                                                            ∃ n40 : Int, hcell H34 b9 (0 + 1) = some (.int .i64 n40) ∧ (
                                                            (In64 (n39 + n40)) ∧
                                                            ((((n38 : Int) < (n39 + n40)) → (
                                                            R (.bool false) H34)) ∧ (¬ ((n38 : Int) < (n39 + n40)) → (
                                                            (In64 (n26 + 1)) ∧
                                                            (I24 (n26 + 1) H34) ∧ μ25 (n26 + 1) H34 < μ25 n26 H27)))))))) ∧ (¬ ((n35 : Int) < (n36 + n37)) → (
                                                            (In64 (n26 + 1)) ∧
                                                            (I24 (n26 + 1) H34) ∧ μ25 (n26 + 1) H34 < μ25 n26 H27))))))))))))) ∧ (¬ ((n26 : Int) < n3) → (
                                                            (In64 (n3 + 1)) ∧
                                                            (I1 (n3 + 1) H27) ∧ μ2 (n3 + 1) H27 < μ2 n3 H4)))))))))))))) ∧ (¬ ((0 : Int) < n3) → (
                                                            ∃ I41 : Int → Heap → Prop, ∃ μ42 : Int → Heap → Nat, (I41 0 H11) ∧
                                                            ∀ n43 : Int, ∀ H44 : Heap, I41 n43 H44 → (
                                                            ((((n43 : Int) < n3) → (
                                                            (0 : Int) ≤ n43 ∧ (n43 : Int) < (x0l : Int) ∧ ∃ b45 o46 : Nat, x0 = some (⟨b45, o46, none⟩ : Addr) ∧ (
                                                            ∃ n47 : Int, hcell H44 b45 (o46 + (Int.toNat n43) * 2) = some (.int .i64 n47) ∧ (
                                                            ∃ n48 : Int, hcell H44 b45 ((o46 + (Int.toNat n43) * 2) + 1) = some (.int .i64 n48) ∧ (
                                                            ∀ b49 : Nat, ∀ H50 : Heap, New H44 b49 [(.int .i64 0), (.int .i64 0)] 73 H50 → (
                                                            Cells H50 b49 0 2 ∧ ∀ H51 : Heap, Puts H50 b49 0 [(.int .i64 n47), (.int .i64 n48)] H51 → (
                                                            ∃ n52 : Int, hcell H51 b9 0 = some (.int .i64 n52) ∧ (
                                                            ∃ n53 : Int, hcell H51 b49 0 = some (.int .i64 n53) ∧ (
                                                            ∃ n54 : Int, hcell H51 b49 (0 + 1) = some (.int .i64 n54) ∧ (
                                                            (In64 (n53 + n54)) ∧
                                                            ((((n52 : Int) < (n53 + n54)) → (
                                                            ∃ n55 : Int, hcell H51 b49 0 = some (.int .i64 n55) ∧ (
                                                            ∃ n56 : Int, hcell H51 b9 0 = some (.int .i64 n56) ∧ (
                                                            ∃ n57 : Int, hcell H51 b9 (0 + 1) = some (.int .i64 n57) ∧ (
                                                            (In64 (n56 + n57)) ∧
                                                            ((((n55 : Int) < (n56 + n57)) → (
                                                            R (.bool false) H51)) ∧ (¬ ((n55 : Int) < (n56 + n57)) → (
                                                            (In64 (n43 + 1)) ∧
                                                            (I41 (n43 + 1) H51) ∧ μ42 (n43 + 1) H51 < μ42 n43 H44)))))))) ∧ (¬ ((n52 : Int) < (n53 + n54)) → (
                                                            (In64 (n43 + 1)) ∧
                                                            (I41 (n43 + 1) H51) ∧ μ42 (n43 + 1) H51 < μ42 n43 H44))))))))))))) ∧ (¬ ((n43 : Int) < n3) → (
                                                            (In64 (n3 + 1)) ∧
                                                            (I1 (n3 + 1) H44) ∧ μ2 (n3 + 1) H44 < μ2 n3 H4))))))))))))))))))))))))))))))) ∧ (¬ ((n3 : Int) < (x0l : Int)) → (
                R (.bool true) H4)))))))) := by kernel_rfl


end Go.Proofs
end

section
open Go Go.Vc
namespace Go.Proofs

theorem rright_ok {H : Heap} {a : Option Addr} {len cap : Nat} {l : List Pc} (h : Pcs H a len l) (x e : Int) (hx : 0 ≤ x) (_hx' : x ≤ 9223372036854775807) (he : e ≤ 9223372036854775807) :
    Does Try.prog 42 [.slice a len cap, .int .i64 x, .int .i64 e] H fun v H' => v = .bool (decP (RightP l x e)) ∧ Ext [] H H' := by
  refine Fn_of_vc Try.mixed (vc_rright _ _ _ _ _ _ _) ?_
  have hlen := h.leng
  have no : ∀ {H'}, ¬ RightP l x e → Ext [] H H' → Value.bool false = .bool (decP (RightP l x e)) ∧ Ext [] H H' := fun hn hx => ⟨congrArg _ (decP_false hn), hx⟩
  refine ⟨fun h1 => no (fun hr => by have := hr.1; omega) (Ext.refl _ _), fun h1 => ?_⟩
  refine ⟨fun i H' => Ext [] H H' ∧ ∃ j : Nat, i = j ∧ j ≤ len ∧ ∀ i p, i < j → l[i]? = some p → fitsP l x e i p, fun i _ => len - i.toNat, ⟨Ext.refl _ _, 0, rfl, Nat.zero_le _, fun i p hi => absurd hi (Nat.not_lt_zero _)⟩, ?_⟩
  rintro _ H4 ⟨hx4, j, rfl, hj, hall⟩
  refine ⟨fun h2 => ?_, fun h2 => ⟨congrArg _ (decP_true ⟨by omega, fun i p hp => hall i p (by have := (List.getElem?_eq_some_iff.1 hp).1; omega) hp⟩), hx4⟩⟩
  have hjl : j < l.length := by omega
  obtain ⟨p, hp⟩ : ∃ p, l[j]? = some p := ⟨_, List.getElem?_eq_getElem hjl⟩
  obtain ⟨b, o, rfl, c0, c1⟩ := h.get j p hp
  refine ⟨by omega, h2, b, o, rfl, _, hcell_ext c0 hx4 (by simp), _, hcell_ext c1 hx4 (by simp), fun b9 H10 hn => ⟨hn.blk.cells 2 0 (by simp), fun H11 hput => ?_⟩⟩
  obtain ⟨hb9, hx11, e9, s11⟩ := new_put hn hput rfl
  have hxx := hx4.trans hx11
  have nofit : ¬ fitsP l x e j p → ¬ RightP l x e := fun hn hr => hn (hr.2 j p hp)
  refine ⟨p.c, hb9.cell 1, fun h3 => no (nofit fun hf => by have := hf.1.1; omega) hxx, fun h3 => ?_⟩
  refine ⟨p.s, hb9.cell 0, fun h4 => no (nofit fun hf => by have := hf.1.2.1; omega) hxx, fun h4 => ?_⟩
  refine ⟨p.s, hb9.cell 0, fun h5 => no (nofit fun hf => by have := hf.1.2.2.1; omega) hxx, fun h5 => ?_⟩
  refine ⟨p.c, hb9.cell 1, p.s, hb9.cell 0, ⟨by omega, by omega⟩, fun h6 => no (nofit fun hf => by have := hf.1.2.2.2; omega) hxx, fun h6 => ?_⟩
  have okp : okP x e p := ⟨by omega, by omega, by omega, by omega⟩
  have okp1 : p.s + p.c ≤ e := by omega
  refine ⟨fun h7 => ?_, fun h7 => ?_⟩
  · obtain ⟨r, hr⟩ : ∃ r, l[j - 1]? = some r := ⟨_, List.getElem?_eq_getElem (by omega)⟩
    obtain ⟨b', o', e', r0, r1⟩ := h.get (j - 1) r hr
    cases e'
    have ej : ((j : Int) - 1).toNat = j - 1 := by omega
    have okr := (hall (j - 1) r (by omega) hr).1
    have okr1 := okr.2.2.2
    have okr2 := okr.2.1
    have okr3 := okr.1
    refine ⟨⟨by omega, by omega⟩, by omega, by omega, b, o, rfl, r.s, by rw [ej]; exact hcell_ext r0 hxx (by simp), ⟨by omega, by omega⟩, by omega, by omega, b, o, rfl, r.c, by rw [ej]; exact hcell_ext r1 hxx (by simp), ⟨by omega, by omega⟩, p.s, hb9.cell 0,
      fun h8 => no (nofit fun hf => (hf.2 (j - 1) r (by omega) hr).2 (by omega) h8) hxx, fun h8 => ?_⟩
    refine ⟨fun i H' => Ext [] H11 H' ∧ ∃ k : Nat, i = k ∧ k ≤ j ∧ ∀ i q, i < k → l[i]? = some q → apartP q p, fun i _ => j - i.toNat, ⟨Ext.refl _ _, 0, rfl, Nat.zero_le _, fun i q hi => absurd hi (Nat.not_lt_zero _)⟩, ?_⟩
    rintro _ H20 ⟨hx20, k, rfl, hk, hapart⟩
    refine ⟨fun h9 => ?_, fun h9 => ⟨⟨by omega, by omega⟩, ⟨hxx.trans hx20, j + 1, by omega, by omega, fun i q hi hq => ?_⟩, by dsimp only; omega⟩⟩
    · have hkl : k < l.length := by omega
      obtain ⟨q, hq⟩ : ∃ q, l[k]? = some q := ⟨_, List.getElem?_eq_getElem hkl⟩
      obtain ⟨b', o', e', d0, d1⟩ := h.get k q hq
      cases e'
      have hx20' := hxx.trans hx20
      have okq := (hall k q (by omega) hq).1
      refine ⟨by omega, by omega, b, o, rfl, _, hcell_ext d0 hx20' (by simp), _, hcell_ext d1 hx20' (by simp), fun b25 H26 hn2 => ⟨hn2.blk.cells 2 0 (by simp), fun H27 hput2 => ?_⟩⟩
      obtain ⟨hb25, hx27, e25, s27⟩ := new_put hn2 hput2 rfl
      have hb9' := hb9.ext (hx20.trans hx27) (by simp)
      have hfin := hx20'.trans hx27
      have okq1 : q.s + q.c ≤ e := by have := okq.2.2.2; omega
      have okq2 := okq.2.1
      have okq3 := okq.1
      have step : apartP q p → In64 ((k : Int) + 1) ∧ (Ext [] H11 H27 ∧ ∃ k1 : Nat, (k : Int) + 1 = k1 ∧ k1 ≤ j ∧ ∀ i q, i < k1 → l[i]? = some q → apartP q p) ∧ j - ((k : Int) + 1).toNat < j - (k : Int).toNat := by
        intro hq1
        refine ⟨⟨by omega, by omega⟩, ⟨hx20.trans hx27, k + 1, by omega, by omega, fun i q' hi hq' => ?_⟩, by omega⟩
        by_cases e : i = k
        · subst e
          rw [hq] at hq'
          cases hq'
          exact hq1
        · exact hapart i q' (by omega) hq'
      refine ⟨p.s, hb9'.cell 0, q.s, hb25.cell 0, q.c, hb25.cell 1, ⟨by omega, by omega⟩, fun h10 => ⟨q.s, hb25.cell 0, p.s, hb9'.cell 0, p.c, hb9'.cell 1, ⟨by omega, by omega⟩, fun h11 => ?_, fun h11 => step (.inr (by omega))⟩, fun h10 => step (.inl (by omega))⟩
      refine no (nofit fun hf => ?_) hfin
      rcases (hf.2 k q (by omega) hq).1 with h12 | h12 <;> omega
    · by_cases ei : i = j
      · subst ei
        rw [hp] at hq
        cases hq
        refine ⟨okp, fun k' q hk' hq => ⟨hapart k' q (by omega) hq, fun hk1 => ?_⟩⟩
        have : k' = i - 1 := by omega
        subst this
        rw [hr] at hq
        cases hq
        exact h8
      · exact hall i q (by omega) hq
  · have ej : j = 0 := by omega
    subst ej
    refine ⟨fun i H' => Ext [] H11 H' ∧ i = 0, fun i _ => 0, ⟨Ext.refl _ _, rfl⟩, ?_⟩
    rintro _ H20 ⟨hx20, rfl⟩
    refine ⟨fun h9 => absurd h9 (by omega), fun h9 => ⟨⟨by omega, by omega⟩, ⟨hxx.trans hx20, 1, by omega, by omega, fun i q hi hq => ?_⟩, by dsimp only; omega⟩⟩
    have : i = 0 := by omega
    subst this
    rw [hp] at hq
    cases hq
    exact ⟨okp, fun k' q hk' hq => absurd hk' (Nat.not_lt_zero _)⟩

/-! ### Blocks of bytes -/

def blocksF (n : Int) : Int := if n < 1 then 0 else (n - 1) / 128 + 1

theorem blocks_ok (n : Int) (H : Heap) (hn : n ≤ 9223372036854775807) : Does Try.prog 41 [.int .i64 n] H fun v H' => v = .int .i64 (blocksF n) ∧ H = H' := by
  refine Fn_of_vc Try.mixed (vc_blocks _ _ _) ?_
  refine ⟨fun h => ⟨by rw [blocksF, if_pos h], rfl⟩, fun h => ⟨⟨by omega, by omega⟩, by decide, ?_⟩⟩
  rintro q hq
  rw [wrap_tdiv (by omega) (by decide) (by omega)] at hq
  exact ⟨⟨by omega, by omega⟩, by rw [blocksF, if_neg h, hq], rfl⟩

theorem rblocks_ok (n : Int) (H : Heap) (hn : n ≤ 9223372036854775807) : Does Try.prog 43 [.int .i64 n] H fun v H' => v = .int .i64 (blocksF n) ∧ H = H' := by
  refine Fn_of_vc Try.mixed (vc_rblocks _ _ _) ?_
  refine ⟨fun h => ⟨by rw [blocksF, if_pos h], rfl⟩, fun h => ⟨⟨by omega, by omega⟩, by decide, ?_⟩⟩
  rintro q hq
  rw [wrap_tdiv (by omega) (by decide) (by omega)] at hq
  exact ⟨⟨by omega, by omega⟩, by rw [blocksF, if_neg h, hq], rfl⟩

/-! ### May the pieces be counted? -/

def fewP (p : Pc) : Prop := 1 ≤ p.c ∧ p.c ≤ 4096
def SmallP (l : List Pc) : Prop := l.length ≤ 6 ∧ ∀ (i : Nat) (p : Pc), l[i]? = some p → fewP p

theorem small_ok {H : Heap} {a : Option Addr} {len cap : Nat} {l : List Pc} (h : Pcs H a len l) (hm : len ≤ 9223372036854775807) :
    Does Try.prog 50 [.slice a len cap] H fun v H' => v = .bool (decP (SmallP l)) ∧ H = H' := by
  refine Fn_of_vc Try.mixed (vc_small _ _ _ _ _) ?_
  have hlen := h.leng
  refine ⟨fun i H' => H = H' ∧ ∃ j : Nat, i = j ∧ j ≤ len ∧ ∀ i p, i < j → l[i]? = some p → fewP p, fun i _ => len - i.toNat, ⟨rfl, 0, rfl, Nat.zero_le _, fun i p hi => absurd hi (Nat.not_lt_zero _)⟩, ?_⟩
  rintro _ _ ⟨rfl, j, rfl, hj, hall⟩
  refine ⟨fun h2 => ?_, fun h2 => ⟨congrArg _ (dec_eq ⟨fun h6 => ⟨by omega, fun i p hp => hall i p (by have := (List.getElem?_eq_some_iff.1 hp).1; omega) hp⟩, fun h6 => by have := h6.1; omega⟩), rfl⟩⟩
  obtain ⟨p, hp⟩ : ∃ p, l[j]? = some p := ⟨_, List.getElem?_eq_getElem (by omega)⟩
  obtain ⟨b, o, rfl, c0, c1⟩ := h.get j p hp
  have no : ¬ fewP p → Value.bool false = .bool (decP (SmallP l)) ∧ H = H := fun hn => ⟨congrArg _ (decP_false fun hs => hn (hs.2 j p hp)), rfl⟩
  refine ⟨by omega, h2, b, o, rfl, p.c, c1, fun h3 => no (fun hf => by have := hf.1; omega), fun h3 => ?_⟩
  refine ⟨by omega, h2, b, o, rfl, p.c, c1, fun h4 => no (fun hf => by have := hf.2; omega), fun h4 => ?_⟩
  refine ⟨⟨by omega, by omega⟩, ⟨rfl, j + 1, by omega, by omega, fun i q hi hq => ?_⟩, by dsimp only; omega⟩
  by_cases ei : i = j
  · subst ei
    rw [hp] at hq
    cases hq
    exact ⟨by omega, by omega⟩
  · exact hall i q (by omega) hq

theorem sound1_ok (s c : Int) (H : Heap) : Does Try.prog 53 [.agg #[.int .i64 s, .int .i64 c]] H fun v H' => v = .bool (decP (¬ fewP ⟨s, c⟩)) ∧ Ext [] H H' := by
  refine Fn_of_vc Try.mixed (vc_sound1 _ _ _ _) ?_
  intro b H2 hn
  have hb := hn.blk
  refine ⟨c, hb.cell 1, fun h => ⟨congrArg _ (decP_true fun hf => by have := hf.1; simp only at this; omega), hn.ext⟩, fun h => ⟨c, hb.cell 1, congrArg _ (dec_eq ⟨fun h2 hf => by have := hf.2; simp only at this; omega, fun h2 => ?_⟩), hn.ext⟩⟩
  rcases Int.lt_or_le 4096 c with h3 | h3
  · exact h3
  · exact absurd ⟨by simp only; omega, h3⟩ h2

theorem indexf_ok {H : Heap} {a : Option Addr} {len cap : Nat} {l : List Pc} (h : Pcs H a len l) (hm : len ≤ 6) :
    Does Try.prog 54 [.slice a len cap, .func (.func 53) #[] #[]] H fun v H' => ∃ n : Int, v = .int .i64 n ∧ (0 ≤ n ↔ ¬ SmallP l) ∧ Ext [] H H' := by
  refine Fn_of_vc Try.mixed (vc_indexf _ _ _ _ _) ?_
  have hlen := h.leng
  refine ⟨fun i H' => Ext [] H H' ∧ ∃ j : Nat, i = j ∧ j ≤ len ∧ ∀ i p, i < j → l[i]? = some p → fewP p, fun i _ => len - i.toNat, ⟨Ext.refl _ _, 0, rfl, Nat.zero_le _, fun i p hi => absurd hi (Nat.not_lt_zero _)⟩, ?_⟩
  rintro _ H4 ⟨hx4, j, rfl, hj, hall⟩
  refine ⟨fun h2 => ?_, fun h2 => ⟨_, rfl, ⟨fun h3 => absurd h3 (by decide), fun h3 => absurd ⟨by omega, fun i p hp => hall i p (by have := (List.getElem?_eq_some_iff.1 hp).1; omega) hp⟩ h3⟩, hx4⟩⟩
  obtain ⟨p, hp⟩ : ∃ p, l[j]? = some p := ⟨_, List.getElem?_eq_getElem (by omega)⟩
  obtain ⟨b, o, rfl, c0, c1⟩ := h.get j p hp
  refine ⟨by omega, h2, b, o, rfl, p.s, hcell_ext c0 hx4 (by simp), p.c, hcell_ext c1 hx4 (by simp), (sound1_ok p.s p.c H4).mono ?_⟩
  rintro _ H10 ⟨rfl, hx10⟩
  refine ⟨_, rfl, fun h3 => ⟨_, rfl, ⟨fun _ hs => ?_, fun _ => by omega⟩, hx4.trans hx10⟩, fun h3 => ⟨⟨by omega, by omega⟩, ⟨hx4.trans hx10, j + 1, by omega, by omega, fun i q hi hq => ?_⟩, by dsimp only; omega⟩⟩
  · exact (@of_decide_eq_true _ (Classical.propDecidable _) h3) (hs.2 j p hp)
  · by_cases ei : i = j
    · subst ei
      rw [hp] at hq
      cases hq
      exact Classical.not_not.1 (@of_decide_eq_false _ (Classical.propDecidable _) h3)
    · exact hall i q (by omega) hq

theorem containsf_ok {H : Heap} {a : Option Addr} {len cap : Nat} {l : List Pc} (h : Pcs H a len l) (hm : len ≤ 6) :
    Does Try.prog 52 [.slice a len cap, .func (.func 53) #[] #[]] H fun v H' => v = .bool (decP (¬ SmallP l)) ∧ Ext [] H H' := by
  refine Fn_of_vc Try.mixed (vc_containsf _ _ _ _ _) ?_
  refine (indexf_ok h hm).mono ?_
  rintro _ H2 ⟨n, rfl, hn, hx⟩
  exact ⟨_, rfl, congrArg _ (dec_eq hn), hx⟩

theorem sound_ok {H : Heap} {a : Option Addr} {len cap : Nat} {l : List Pc} (h : Pcs H a len l) :
    Does Try.prog 51 [.slice a len cap] H fun v H' => v = .bool (decP (SmallP l)) ∧ Ext [] H H' := by
  refine Fn_of_vc Try.mixed (vc_sound _ _ _ _ _) ?_
  have hlen := h.leng
  refine ⟨fun h1 => (containsf_ok h (by omega)).mono ?_, fun h1 => ⟨congrArg _ (decP_false fun hs => by have := hs.1; omega), Ext.refl _ _⟩⟩
  rintro _ H2 ⟨rfl, hx⟩
  refine ⟨_, rfl, congrArg _ (dec_eq ⟨fun h2 => ?_, fun h2 => (decP_false (fun hn => hn h2)).symm⟩), hx⟩
  exact Classical.not_not.1 (@of_decide_eq_false _ (Classical.propDecidable _) h2)

end Go.Proofs
end

namespace Go.Vc

/-- **One element appended to a slice of one's own.** -/
theorem append_one {H : Heap} {size w : Nat} {e e' : TypeId} {z vs xs : List Value} {a : Option Addr} {len cap : Nat} {R : Option Addr → Nat → Heap → Prop} (ho : Own H size a len cap xs) (hv : vs.length = size) (h1 : ∀ u ∈ vs, Value.oneCell' u = true)
    (hz : z.length = size) (hw : (len + 1) * w ≤ 140737488355328)
    (k : ∀ a' c' H', Own H' size a' (len + 1) c' (xs ++ vs) → Ext (blkOf a) H H' → (∀ k, k ∈ blkOf a' → k ∈ blkOf a ∨ H.size ≤ k) → R a' c' H') (b : Nat) (H2 : Heap) (hn : New H b vs e H2) :
    ∃ old news : List Value, SRow H2 size len (.slice a len cap) old ∧ SRow H2 size 1 (.slice (some ⟨b, 0, none⟩) 1 1) news ∧ (∀ u ∈ news, Value.oneCell' u = true) ∧ (len + 1) * w ≤ 140737488355328 ∧
      (len + 1 ≤ cap → roomOf H2 a (len * size) (1 * size)) ∧ ∀ a' c' H', App H2 size e' z a len cap old news 1 a' c' H' → R a' c' H' := by
  have hx := hn.ext
  have ho2 := ho.ext hx (by simp)
  have hb := hn.blk
  refine ⟨xs, vs, ho2.row len cap, ⟨by omega, rfl, fun j u hj => ?_⟩, h1, hw, fun hle => ho2.room hle, fun a' c' H' happ => ?_⟩
  · show hcell H2 b (0 + j) = some u
    rw [Nat.zero_add, hb.cell]
    exact hj
  · obtain ⟨g1, g2, g3⟩ := happ.own ho2 (ho2.row len cap) (by omega) hz
    have hs := hn.size
    exact k a' c' H' g1 ((hx.any).trans g2) (fun i hi => by
      rcases g3 i hi with h | h
      · exact .inl h
      · exact .inr (by omega))

def totalP : List Pc → Int
  | [] => 0
  | p :: r => p.c + totalP r

theorem totalP_take {l : List Pc} {j : Nat} {p : Pc} (h : l[j]? = some p) : totalP (l.take (j + 1)) = totalP (l.take j) + p.c := by
  induction l generalizing j with
  | nil => simp at h
  | cons q r ih =>
    cases j with
    | zero =>
      simp only [List.getElem?_cons_zero, Option.some.injEq] at h
      subst h
      simp [totalP]
    | succ j =>
      simp only [List.getElem?_cons_succ] at h
      simp only [List.take_succ_cons, totalP, ih h]
      omega

theorem totalP_le {l : List Pc} {m : Int} (_ : 0 ≤ m) : (∀ (i : Nat) (p : Pc), l[i]? = some p → 0 ≤ p.c ∧ p.c ≤ m) → 0 ≤ totalP l ∧ totalP l ≤ m * l.length := by
  induction l with
  | nil => intro _; simp [totalP]
  | cons q r ih =>
    intro h
    have h1 := h 0 q rfl
    have h2 := ih (fun i p hp => h (i + 1) p (by simpa using hp))
    simp only [totalP, List.length_cons, Int.natCast_add, Int.mul_add]
    omega

end Go.Vc

section
open Go Go.Vc
namespace Go.Proofs

theorem small_total {l : List Pc} (h : SmallP l) (j : Nat) : 0 ≤ totalP (l.take j) ∧ totalP (l.take j) ≤ 24576 := by
  have h1 := totalP_le (l := l.take j) (m := 4096) (by decide) (fun i p hp => by
    have hp' : l[i]? = some p := by
      rw [List.getElem?_take] at hp
      split at hp
      · exact hp
      · cases hp
    have := h.2 i p hp'
    exact ⟨by have := this.1; omega, this.2⟩)
  have h2 := h.1
  have h3 : (l.take j).length ≤ 6 := by rw [List.length_take]; omega
  omega

noncomputable def countF (l : List Pc) : Int := if decP (SmallP l) = true then totalP l else 0

theorem count_ok {H : Heap} {a : Option Addr} {len cap : Nat} {l : List Pc} (h : Pcs H a len l) :
    Does Try.prog 38 [.slice a len cap] H fun v H' => v = .int .i64 (countF l) ∧ Ext [] H H' := by
  refine Fn_of_vc Try.mixed (vc_count _ _ _ _ _) ?_
  have hlen := h.leng
  refine (sound_ok h).mono ?_
  rintro _ H2 ⟨rfl, hx2⟩
  refine ⟨_, rfl, fun h1 => ⟨by simp [countF, h1], hx2⟩, fun h1 => ?_⟩
  have hd : decP (SmallP l) = true := by simpa using h1
  have hs : SmallP l := @of_decide_eq_true _ (Classical.propDecidable _) hd
  refine ⟨fun n i H' => Ext [] H H' ∧ ∃ j : Nat, i = j ∧ j ≤ len ∧ n = totalP (l.take j), fun _ i _ => len - i.toNat, ⟨hx2, 0, rfl, Nat.zero_le _, rfl⟩, ?_⟩
  rintro _ _ H8 ⟨hx8, j, rfl, hj, rfl⟩
  have hl6 := hs.1
  refine ⟨fun h2 => ?_, fun h2 => ⟨?_, hx8⟩⟩
  · obtain ⟨p, hp⟩ : ∃ p, l[j]? = some p := ⟨_, List.getElem?_eq_getElem (by omega)⟩
    obtain ⟨b, o, rfl, c0, c1⟩ := h.get j p hp
    refine ⟨by omega, h2, b, o, rfl, _, hcell_ext c0 hx8 (by simp), _, hcell_ext c1 hx8 (by simp), fun b9 H10 hn => ⟨hn.blk.cells 2 0 (by simp), fun H11 hput => ?_⟩⟩
    obtain ⟨hb9, hx11, e9, s11⟩ := new_put hn hput rfl
    have t1 := small_total hs j
    have t2 := hs.2 j p hp
    have t3 := t2.1
    have t4 := t2.2
    exact ⟨p.c, hb9.cell 1, ⟨by omega, by omega⟩, ⟨by omega, by omega⟩, ⟨hx8.trans hx11, j + 1, by omega, by omega, (totalP_take hp).symm⟩, by dsimp only; omega⟩
  · rw [countF, if_pos hd, List.take_of_length_le (by omega)]

theorem rcount_ok {H : Heap} {a : Option Addr} {len cap : Nat} {l : List Pc} (h : Pcs H a len l) (hm : len ≤ 9223372036854775807) :
    Does Try.prog 39 [.slice a len cap] H fun v H' => v = .int .i64 (countF l) ∧ H = H' := by
  refine Fn_of_vc Try.mixed (vc_rcount _ _ _ _ _) ?_
  have hlen := h.leng
  refine (small_ok h hm).mono ?_
  rintro _ _ ⟨rfl, rfl⟩
  refine ⟨_, rfl, fun h1 => ⟨by simp [countF, h1], rfl⟩, fun h1 => ?_⟩
  have hd : decP (SmallP l) = true := by simpa using h1
  have hs : SmallP l := @of_decide_eq_true _ (Classical.propDecidable _) hd
  refine ⟨fun n i H' => H = H' ∧ ∃ j : Nat, i = j ∧ j ≤ len ∧ n = totalP (l.take j), fun _ i _ => len - i.toNat, ⟨rfl, 0, rfl, Nat.zero_le _, rfl⟩, ?_⟩
  rintro _ _ _ ⟨rfl, j, rfl, hj, rfl⟩
  have hl6 := hs.1
  refine ⟨fun h2 => ?_, fun h2 => ⟨?_, rfl⟩⟩
  · obtain ⟨p, hp⟩ : ∃ p, l[j]? = some p := ⟨_, List.getElem?_eq_getElem (by omega)⟩
    obtain ⟨b, o, rfl, c0, c1⟩ := h.get j p hp
    have t1 := small_total hs j
    have t2 := hs.2 j p hp
    have t3 := t2.1
    have t4 := t2.2
    exact ⟨by omega, h2, b, o, rfl, p.c, c1, ⟨by omega, by omega⟩, ⟨by omega, by omega⟩, ⟨rfl, j + 1, by omega, by omega, (totalP_take hp).symm⟩, by dsimp only; omega⟩
  · rw [countF, if_pos hd, List.take_of_length_le (by omega)]

end Go.Proofs
end

section
open Go Go.Vc
namespace Go.Proofs

def intsV (xs : List Int) : List Value := xs.map (.int .i64)

def blkW (p : Pc) : List Int := (List.range p.c.toNat).map fun (k : Nat) => IntKind.wrap .i64 (p.s + k)
def blocksW (l : List Pc) : List Int := (l.map blkW).flatten

theorem blkW_take {p : Pc} {k : Nat} (h : k < p.c.toNat) : (blkW p).take (k + 1) = (blkW p).take k ++ [IntKind.wrap .i64 (p.s + k)] := by
  unfold blkW
  rw [← List.map_take, ← List.map_take, List.take_range, List.take_range, Nat.min_eq_left (by omega), Nat.min_eq_left (by omega), List.range_succ, List.map_append]
  rfl

theorem blkW_length (p : Pc) : (blkW p).length = p.c.toNat := by simp [blkW]

theorem blocksW_take {l : List Pc} {j : Nat} {p : Pc} (h : l[j]? = some p) : blocksW (l.take (j + 1)) = blocksW (l.take j) ++ blkW p := by
  unfold blocksW
  rw [List.take_add_one, h]
  simp

theorem blocksW_take_le (l : List Pc) (j : Nat) : (blocksW (l.take j)).length ≤ (blocksW l).length := by
  unfold blocksW
  conv => rhs; rw [← List.take_append_drop j l]
  rw [List.map_append, List.flatten_append, List.length_append]
  omega

theorem list_ok {H : Heap} {a : Option Addr} {len cap : Nat} {l : List Pc} (h : Pcs H a len l) (hm : len ≤ 1000000) (hB : (blocksW l).length ≤ 1000000) :
    Does Try.prog 45 [.slice a len cap] H fun v H' => ∃ a' c', v = .slice a' (blocksW l).length c' ∧ Own H' 1 a' (blocksW l).length c' (intsV (blocksW l)) ∧ Ext [] H H' ∧ (∀ k, k ∈ blkOf a' → H.size ≤ k) := by
  refine Fn_of_vc Try.mixed (vc_list _ _ _ _ _) ?_
  have hlen := h.leng
  let J : Option Addr → Nat → Nat → List Int → Heap → Prop := fun a' n c' xs H' => Ext [] H H' ∧ Own H' 1 a' n c' (intsV xs) ∧ (∀ k, k ∈ blkOf a' → H.size ≤ k)
  refine ⟨fun a' n c' i H' => ∃ j : Nat, i = j ∧ j ≤ len ∧ J a' n c' (blocksW (l.take j)) H', fun _ _ _ i _ => len - i.toNat, ⟨0, rfl, Nat.zero_le _, Ext.refl _ _, Own.nil _ _, fun k hk => by cases hk⟩, ?_⟩
  rintro a3 n3 c3 _ H7 ⟨j, rfl, hj, hJ⟩
  refine ⟨fun h2 => ?_, fun h2 => ?_⟩
  · obtain ⟨p, hp⟩ : ∃ p, l[j]? = some p := ⟨_, List.getElem?_eq_getElem (by omega)⟩
    obtain ⟨b, o, rfl, c0, c1⟩ := h.get j p hp
    have hle : (blocksW (l.take j)).length + (blkW p).length ≤ 1000000 := by
      have := blocksW_take_le l (j + 1)
      rw [blocksW_take hp, List.length_append] at this
      omega
    have hle2 := blkW_length p
    refine ⟨fun a' n c' i H' => ∃ k : Nat, i = k ∧ k ≤ p.c.toNat ∧ J a' n c' (blocksW (l.take j) ++ (blkW p).take k) H', fun _ _ _ i _ => p.c.toNat - i.toNat, ⟨0, rfl, Nat.zero_le _, by simpa using hJ⟩, ?_⟩
    rintro a10 n10 c10 _ H14 ⟨k, rfl, hk, hx14, ho14, hf14⟩
    have hn10 : (blocksW (l.take j)).length + k = n10 := by
      have := ho14.1
      simp only [intsV, List.length_map, List.length_append, List.length_take] at this
      omega
    refine ⟨by omega, h2, b, o, rfl, _, hcell_ext c1 hx14 (by simp), fun h3 => ?_, fun h3 => ?_⟩
    · refine ⟨by omega, h2, b, o, rfl, _, hcell_ext c0 hx14 (by simp), ?_⟩
      rintro _ rfl
      refine append_one ho14 rfl (by intro u hu; simp only [List.mem_singleton] at hu; subst hu; rfl) rfl (by omega) ?_
      intro a' c' H' ho' hx' hf'
      rintro _ rfl
      rw [wrap_of_in64 (n := (k : Int) + 1) ⟨by omega, by omega⟩]
      refine ⟨⟨k + 1, by omega, by omega, hx14.trans' hx' (fun i hi => .inl (hf14 i hi)), ?_, fun i hi => ?_⟩, by dsimp only; omega⟩
      · rw [blkW_take (by omega), ← List.append_assoc]
        unfold intsV at ho' ⊢
        rw [List.map_append]
        exact ho'
      · rcases hf' i hi with h4 | h4
        · exact hf14 i h4
        · have := hx14.size; omega
    · rintro _ rfl
      rw [wrap_of_in64 (n := (j : Int) + 1) ⟨by omega, by omega⟩]
      refine ⟨⟨j + 1, by omega, by omega, hx14, ?_, hf14⟩, by dsimp only; omega⟩
      rw [blocksW_take hp]
      have : k = p.c.toNat := by omega
      rw [this, List.take_of_length_le (l := blkW p) (by omega)] at ho14
      exact ho14
  · have ej : j = len := by omega
    subst ej
    rw [List.take_of_length_le (by omega)] at hJ
    obtain ⟨hx, ho, hf⟩ := hJ
    have hn : (blocksW l).length = n3 := by
      have := ho.1
      simp only [intsV, List.length_map] at this
      omega
    subst hn
    exact ⟨_, _, rfl, ho, hx, hf⟩

end Go.Proofs
end

section
open Go Go.Vc
namespace Go.Proofs

theorem blocksW_total {l : List Pc} (h : ∀ (i : Nat) (p : Pc), l[i]? = some p → 0 ≤ p.c) : ((blocksW l).length : Int) = totalP l := by
  induction l with
  | nil => rfl
  | cons q r ih =>
    have h1 := h 0 q rfl
    have h2 := ih (fun i p hp => h (i + 1) p (by simpa using hp))
    have e : blocksW (q :: r) = blkW q ++ blocksW r := rfl
    rw [e, List.length_append, blkW_length, totalP]
    omega

theorem small_pos {l : List Pc} (h : SmallP l) (i : Nat) (p : Pc) (hp : l[i]? = some p) : 0 ≤ p.c := by
  have := (h.2 i p hp).1
  omega

theorem small_take {l : List Pc} (h : SmallP l) (j : Nat) (i : Nat) (p : Pc) (hp : (l.take j)[i]? = some p) : 0 ≤ p.c := by
  rw [List.getElem?_take] at hp
  split at hp
  · exact small_pos h i p hp
  · cases hp

theorem small_len {l : List Pc} (h : SmallP l) : (blocksW l).length ≤ 1000000 := by
  have h1 := blocksW_total (small_pos h)
  have h2 := small_total h l.length
  rw [List.take_length] at h2
  omega

noncomputable def atF (l : List Pc) (k : Int) : Int × Bool := if decP (SmallP l ∧ 0 ≤ k ∧ k < totalP l) = true then ((blocksW l).getD k.toNat 0, true) else (0, false)

theorem atF_no {l : List Pc} {k : Int} (h : ¬ (SmallP l ∧ 0 ≤ k ∧ k < totalP l)) : atF l k = (0, false) := by
  rw [atF, ← decP_false h, if_neg (by decide)]
theorem atF_yes {l : List Pc} {k : Int} (h : SmallP l ∧ 0 ≤ k ∧ k < totalP l) : atF l k = ((blocksW l).getD k.toNat 0, true) := by
  rw [atF, ← decP_true h, if_pos rfl]

theorem blocksW_at {l : List Pc} {j : Nat} {p : Pc} (hp : l[j]? = some p) {k : Nat} (hk : k < p.c.toNat) : (blocksW l).getD ((blocksW (l.take j)).length + k) 0 = IntKind.wrap .i64 (p.s + k) := by
  have e : blocksW l = blocksW (l.take (j + 1)) ++ blocksW (l.drop (j + 1)) := by
    unfold blocksW
    rw [← List.flatten_append, ← List.map_append, List.take_append_drop]
  rw [e, blocksW_take hp, List.append_assoc, List.getD_eq_getElem?_getD, List.getElem?_append_right (by omega), Nat.add_sub_cancel_left, List.getElem?_append_left (by rw [blkW_length]; exact hk)]
  unfold blkW
  simp [hk]

theorem at_ok {H : Heap} {a : Option Addr} {len cap : Nat} {l : List Pc} (h : Pcs H a len l) (k : Int) :
    Does Try.prog 36 [.slice a len cap, .int .i64 k] H fun v H' => v = .tuple #[.int .i64 (atF l k).1, .bool (atF l k).2] ∧ Ext [] H H' := by
  refine Fn_of_vc Try.mixed (vc_at _ _ _ _ _ _) ?_
  have hlen := h.leng
  refine ⟨fun h0 => ⟨by rw [atF_no (fun hh => by have := hh.2.1; omega)], Ext.refl _ _⟩, fun h0 => ?_⟩
  refine (count_ok h).mono ?_
  rintro _ H2 ⟨rfl, hx2⟩
  refine ⟨_, rfl, fun h1 => ⟨?_, hx2⟩, fun h1 => ?_⟩
  · rw [atF_no (fun hh => ?_)]
    have := hh.2.2
    rw [countF, ← decP_true hh.1, if_pos rfl] at h1
    omega
  · have hs : SmallP l := by
      by_cases hs : SmallP l
      · exact hs
      · rw [countF, ← decP_false hs, if_neg (by decide)] at h1
        omega
    rw [countF, ← decP_true hs, if_pos rfl] at h1
    have hyes : SmallP l ∧ 0 ≤ k ∧ k < totalP l := ⟨hs, by omega, by omega⟩
    have hl6 := hs.1
    have htot := small_total hs
    have htl := htot l.length
    rw [List.take_length] at htl
    refine ⟨fun m i H' => Ext [] H H' ∧ ∃ j : Nat, i = j ∧ j ≤ len ∧ m = k - totalP (l.take j) ∧ 0 ≤ m, fun _ i _ => len - i.toNat, ⟨hx2, 0, rfl, Nat.zero_le _, by simp [totalP], by omega⟩, ?_⟩
    rintro _ _ H8 ⟨hx8, j, rfl, hj, rfl, hm⟩
    refine ⟨fun h2 => ?_, fun h2 => ?_⟩
    · obtain ⟨p, hp⟩ : ∃ p, l[j]? = some p := ⟨_, List.getElem?_eq_getElem (by omega)⟩
      obtain ⟨b, o, rfl, c0, c1⟩ := h.get j p hp
      refine ⟨by omega, h2, b, o, rfl, _, hcell_ext c0 hx8 (by simp), _, hcell_ext c1 hx8 (by simp), fun b9 H10 hn => ⟨hn.blk.cells 2 0 (by simp), fun H11 hput => ?_⟩⟩
      obtain ⟨hb9, hx11, e9, s11⟩ := new_put hn hput rfl
      have t0 := htot j
      have t1 := hs.2 j p hp
      have t2 := t1.1
      have t3 := t1.2
      refine ⟨p.c, hb9.cell 1, fun h3 => ⟨p.s, hb9.cell 0, ?_⟩, fun h3 => ⟨p.c, hb9.cell 1, ?_⟩⟩
      · rintro _ rfl
        refine ⟨?_, hx8.trans hx11⟩
        rw [atF_yes hyes]
        have e1 := blocksW_total (l := l.take j) (small_take hs j)
        have e2 := blocksW_at hp (k := (k - totalP (l.take j)).toNat) (by omega)
        rw [show (blocksW (l.take j)).length + (k - totalP (l.take j)).toNat = k.toNat by omega, show (((k - totalP (l.take j)).toNat : Nat) : Int) = k - totalP (l.take j) by omega] at e2
        rw [e2]
      · rintro _ rfl _ rfl
        rw [wrap_of_in64 (n := k - totalP (l.take j) - p.c) ⟨by omega, by omega⟩, wrap_of_in64 (n := (j : Int) + 1) ⟨by omega, by omega⟩]
        exact ⟨⟨hx8.trans hx11, j + 1, by omega, by omega, by rw [totalP_take hp]; omega, by omega⟩, by dsimp only; omega⟩
    · exfalso
      have : l.take j = l := List.take_of_length_le (by omega)
      rw [this] at hm
      omega

theorem rat_ok {H : Heap} {a : Option Addr} {len cap : Nat} {l : List Pc} (h : Pcs H a len l) (hm : len ≤ 9223372036854775807) (k : Int) :
    Does Try.prog 37 [.slice a len cap, .int .i64 k] H fun v H' => v = .tuple #[.int .i64 (atF l k).1, .bool (atF l k).2] ∧ Ext [] H H' := by
  refine Fn_of_vc Try.mixed (vc_rat _ _ _ _ _ _) ?_
  have hlen := h.leng
  refine (small_ok h hm).mono ?_
  rintro _ _ ⟨rfl, rfl⟩
  refine ⟨_, rfl, fun h1 => ⟨?_, Ext.refl _ _⟩, fun h1 => ?_⟩
  · rw [atF_no (fun hh => ?_)]
    rw [← decP_true hh.1] at h1
    cases h1
  have hs : SmallP l := @of_decide_eq_true _ (Classical.propDecidable _) (eq_true_of_ne_false h1)
  have hl6 := hs.1
  have htot := blocksW_total (small_pos hs)
  refine (list_ok h (by omega) (small_len hs)).mono ?_
  rintro _ H5 ⟨a', c', rfl, ho, hx, _⟩
  refine ⟨_, _, _, rfl, fun h2 => ⟨?_, hx⟩, fun h2 => ⟨fun h3 => ⟨?_, hx⟩, fun h3 => ?_⟩⟩
  · rw [atF_no (fun hh => by have := hh.2.1; omega)]
  · rw [atF_no (fun hh => by have := hh.2.2; omega)]
  · have hk : k.toNat < (blocksW l).length := by omega
    obtain ⟨b, o, ha, hc⟩ := (ho.row (blocksW l).length c').get (j := k.toNat) (u := .int .i64 ((blocksW l).getD k.toNat 0)) (by simp [intsV, hk])
    refine ⟨by omega, by omega, b, o, ha, _, hc, ?_, hx⟩
    rw [atF_yes ⟨hs, by omega, by omega⟩]

/-! ### The same pieces -/

theorem same_ok {H : Heap} {a a' : Option Addr} {len cap len' cap' : Nat} {l l' : List Pc} (h : Pcs H a len l) (h' : Pcs H a' len' l') (hm : len ≤ 9223372036854775807) :
    Does Try.prog 31 [.slice a len cap, .slice a' len' cap'] H fun v H' => v = .bool (decide (l = l')) ∧ H = H' := by
  refine Fn_of_vc Try.mixed (vc_same _ _ _ _ _ _ _ _) ?_
  have hlen := h.leng
  have hlen' := h'.leng
  have no : l ≠ l' → Value.bool false = .bool (decide (l = l')) ∧ H = H := fun hn => ⟨by rw [decide_eq_false hn], rfl⟩
  refine ⟨fun h1 => no (fun e => by rw [e] at hlen; omega), fun h1 => ?_⟩
  refine ⟨fun i H' => H = H' ∧ ∃ j : Nat, i = j ∧ j ≤ len ∧ ∀ i, i < j → l[i]? = l'[i]?, fun i _ => len - i.toNat, ⟨rfl, 0, rfl, Nat.zero_le _, fun i hi => absurd hi (Nat.not_lt_zero _)⟩, ?_⟩
  rintro _ _ ⟨rfl, j, rfl, hj, hall⟩
  refine ⟨fun h2 => ?_, fun h2 => ⟨?_, rfl⟩⟩
  · obtain ⟨p, hp⟩ : ∃ p, l[j]? = some p := ⟨_, List.getElem?_eq_getElem (by omega)⟩
    obtain ⟨p', hp'⟩ : ∃ p, l'[j]? = some p := ⟨_, List.getElem?_eq_getElem (by omega)⟩
    obtain ⟨b, o, rfl, c0, c1⟩ := h.get j p hp
    obtain ⟨b', o', rfl, c0', c1'⟩ := h'.get j p' hp'
    refine ⟨by omega, h2, b, o, rfl, _, c0, _, c1, by omega, by omega, b', o', rfl, _, c0', _, c1', fun h3 => no (fun e => h3 ?_), fun h3 => ⟨⟨by omega, by omega⟩, ⟨rfl, j + 1, by omega, by omega, fun i hi => ?_⟩, by dsimp only; omega⟩⟩
    · rw [e, hp'] at hp
      cases hp
      exact ⟨rfl, rfl⟩
    · by_cases ei : i = j
      · subst ei
        rw [hp, hp']
        have h4 := Classical.not_not.1 h3
        obtain ⟨s, c⟩ := p
        obtain ⟨s', c'⟩ := p'
        simp only at h4
        rw [h4.1, h4.2]
      · exact hall i (by omega)
  · rw [decide_eq_true]
    refine List.ext_getElem? fun i => ?_
    by_cases hi : i < j
    · exact hall i hi
    · rw [List.getElem?_eq_none (by omega), List.getElem?_eq_none (by omega)]

end Go.Proofs
end

section
open Go Go.Vc
namespace Go.Proofs
set_option maxRecDepth 100000
/-- pentimento/extent.turn -/
theorem vc_turn (x0 : Option Addr) (x1 : Option Addr) (x1l : Nat) (x1c : Nat) (x2 : Bool) (H : Heap) (R : Value → Heap → Prop) : Walk Try.prog 49 [] [(.pointer x0), (.slice x1 x1l x1c), (.bool x2)] H R = (
  ∃ I1 : Int → Heap → Prop, ∃ μ2 : Int → Heap → Nat, (I1 0 H) ∧
  ∀ n3 : Int, ∀ H4 : Heap, I1 n3 H4 → (
    ((((n3 : Int) < (x1l : Int)) → (
          (0 : Int) ≤ n3 ∧ (n3 : Int) < (x1l : Int) ∧ ∃ b5 o6 : Nat, x1 = some (⟨b5, o6, none⟩ : Addr) ∧ (
            ∃ n7 : Int, hcell H4 b5 (o6 + (Int.toNat n3) * 2) = some (.int .i64 n7) ∧ (
              ∃ n8 : Int, hcell H4 b5 ((o6 + (Int.toNat n3) * 2) + 1) = some (.int .i64 n8) ∧ (
                ∀ b9 : Nat, ∀ H10 : Heap, New H4 b9 [(.int .i64 0), (.int .i64 0)] 73 H10 → (
                  Cells H10 b9 0 2 ∧ ∀ H11 : Heap, Puts H10 b9 0 [(.int .i64 n7), (.int .i64 n8)] H11 → (
                    ∃ n12 : Int, hcell H11 b9 (0 + 1) = some (.int .i64 n12) ∧ (
                      ∃ I13 : Int → Heap → Prop, ∃ μ14 : Int → Heap → Nat, (I13 0 H11) ∧
                      ∀ n15 : Int, ∀ H16 : Heap, I13 n15 H16 → (
                        ((((n15 : Int) < n12) → (
                              ∃ n17 : Int, hcell H16 b9 0 = some (.int .i64 n17) ∧ (
                                (In64 (n17 + n15)) ∧
                                Does Try.prog 14 [(.pointer x0), (.int .i64 (n17 + n15)), (.bool x2)] H16 fun v18 H19 => ∃ t20 : Bool, v18 = (.bool t20) ∧ (
                                  (In64 (n15 + 1)) ∧
                                  (I13 (n15 + 1) H19) ∧ μ14 (n15 + 1) H19 < μ14 n15 H16)))) ∧ (¬ ((n15 : Int) < n12) → (
                              (In64 (n3 + 1)) ∧
                              (I1 (n3 + 1) H16) ∧ μ2 (n3 + 1) H16 < μ2 n3 H4)))))))))))) ∧ (¬ ((n3 : Int) < (x1l : Int)) → (
          R (.tuple #[]) H4))))) := by kernel_rfl


/-- pentimento/extent.found -/
theorem vc_found (x0 : Option Addr) (x1 : Int) (x2 : Int) (H : Heap) (R : Value → Heap → Prop) : Walk Try.prog 47 [] [(.pointer x0), (.int .i64 x1), (.int .i64 x2)] H R = (
  ∃ I1 : Option Addr → Nat → Nat → Int → Int → Heap → Prop, ∃ μ2 : Option Addr → Nat → Nat → Int → Int → Heap → Nat, (I1 none 0 0 x2 x1 H) ∧
  ∀ a3 : Option Addr, ∀ l4 : Nat, ∀ c5 : Nat, ∀ n6 : Int, ∀ n7 : Int, ∀ H8 : Heap, I1 a3 l4 c5 n6 n7 H8 → (
    ((((0 : Int) < n6) → (
          Does Try.prog 15 [(.pointer x0), (.int .i64 n7)] H8 fun v9 H10 => ∃ n11 : Int, ∃ n12 : Int, v9 = (.tuple #[(.int .i64 n11), (.int .i64 n12)]) ∧ (
            ((((n12 : Int) = 0) → (
                  R (.tuple #[(.slice none 0 0), (.bool false)]) H10)) ∧ (¬ ((n12 : Int) = 0) → (
                  ∀ b13 : Nat, ∀ H14 : Heap, New H10 b13 [(.int .i64 n11), (.int .i64 (min n12 n6))] 73 H14 → (
                    ∃ old15 new16 : List Value, SRow H14 2 l4 (.slice a3 l4 c5) old15 ∧ SRow H14 2 1 (.slice (some (⟨b13, 0, none⟩ : Addr)) 1 1) new16 ∧ (∀ u ∈ new16, Value.oneCell' u = true) ∧ (l4 + 1) * 16 ≤ 140737488355328 ∧ (l4 + 1 ≤ c5 → roomOf H14 a3 (l4 * 2) (1 * 2)) ∧ ∀ a17 : Option Addr, ∀ c18 : Nat, ∀ H19 : Heap, App H14 2 73 [(.int .i64 0), (.int .i64 0)] a3 l4 c5 old15 new16 1 a17 c18 H19 → (
                      (In64 (n6 - (min n12 n6))) ∧
                      (In64 (n11 + n12)) ∧
                      (I1 a17 (l4 + 1) c18 (n6 - (min n12 n6)) (n11 + n12) H19) ∧ μ2 a17 (l4 + 1) c18 (n6 - (min n12 n6)) (n11 + n12) H19 < μ2 a3 l4 c5 n6 n7 H8)))))))) ∧ (¬ ((0 : Int) < n6) → (
          R (.tuple #[(.slice a3 l4 c5), (.bool (@decide ((n6 : Int) = 0) (Classical.propDecidable _)))]) H8))))) := by kernel_rfl


/-- pentimento/pentimentoref6.pieces -/
theorem vc_pieces (x0 : Option Addr) (x0l : Nat) (x0c : Nat) (H : Heap) (R : Value → Heap → Prop) : Walk Try.prog 46 [] [(.slice x0 x0l x0c)] H R = (
  ∃ I1 : Option Addr → Nat → Nat → Int → Heap → Prop, ∃ μ2 : Option Addr → Nat → Nat → Int → Heap → Nat, (I1 none 0 0 0 H) ∧
  ∀ a3 : Option Addr, ∀ l4 : Nat, ∀ c5 : Nat, ∀ n6 : Int, ∀ H7 : Heap, I1 a3 l4 c5 n6 H7 → (
    ((((n6 : Int) < (x0l : Int)) → (
          ((((0 : Int) < (l4 : Int)) → (
                (In64 ((l4 : Int) - 1)) ∧
                (0 : Int) ≤ ((l4 : Int) - 1) ∧ (((l4 : Int) - 1) : Int) < (l4 : Int) ∧ ∃ b8 o9 : Nat, a3 = some (⟨b8, o9, none⟩ : Addr) ∧ (
                  ∃ n10 : Int, hcell H7 b8 (o9 + (Int.toNat ((l4 : Int) - 1)) * 2) = some (.int .i64 n10) ∧ (
                    (In64 ((l4 : Int) - 1)) ∧
                    (0 : Int) ≤ ((l4 : Int) - 1) ∧ (((l4 : Int) - 1) : Int) < (l4 : Int) ∧ ∃ b11 o12 : Nat, a3 = some (⟨b11, o12, none⟩ : Addr) ∧ (
                      ∃ n13 : Int, hcell H7 b11 ((o12 + (Int.toNat ((l4 : Int) - 1)) * 2) + 1) = some (.int .i64 n13) ∧ (
                        (In64 (n10 + n13)) ∧
                        (0 : Int) ≤ n6 ∧ (n6 : Int) < (x0l : Int) ∧ ∃ b14 o15 : Nat, x0 = some (⟨b14, o15, none⟩ : Addr) ∧ (
                          ∃ n16 : Int, hcell H7 b14 (o15 + (Int.toNat n6)) = some (.int .i64 n16) ∧ (
                            (((((n10 + n13) : Int) = n16) → (
                                  (In64 ((l4 : Int) - 1)) ∧
                                  (0 : Int) ≤ ((l4 : Int) - 1) ∧ (((l4 : Int) - 1) : Int) < (l4 : Int) ∧ ∃ b17 o18 : Nat, a3 = some (⟨b17, o18, none⟩ : Addr) ∧ (
                                    ∃ n19 : Int, hcell H7 b17 ((o18 + (Int.toNat ((l4 : Int) - 1)) * 2) + 1) = some (.int .i64 n19) ∧ (
                                      (In64 (n19 + 1)) ∧
                                      (0 : Int) ≤ ((l4 : Int) - 1) ∧ (((l4 : Int) - 1) : Int) < (l4 : Int) ∧ ∃ b20 o21 : Nat, a3 = some (⟨b20, o21, none⟩ : Addr) ∧ (
                                        Cells H7 b20 ((o21 + (Int.toNat ((l4 : Int) - 1)) * 2) + 1) 1 ∧ ∀ H22 : Heap, Puts H7 b20 ((o21 + (Int.toNat ((l4 : Int) - 1)) * 2) + 1) [(.int .i64 (n19 + 1))] H22 → (
                                          (In64 (n6 + 1)) ∧
                                          (I1 a3 l4 c5 (n6 + 1) H22) ∧ μ2 a3 l4 c5 (n6 + 1) H22 < μ2 a3 l4 c5 n6 H7)))))) ∧ (¬ (((n10 + n13) : Int) = n16) → (
                                  (0 : Int) ≤ n6 ∧ (n6 : Int) < (x0l : Int) ∧ ∃ b23 o24 : Nat, x0 = some (⟨b23, o24, none⟩ : Addr) ∧ (
                                    ∃ n25 : Int, hcell H7 b23 (o24 + (Int.toNat n6)) = some (.int .i64 n25) ∧ (
                                      ∀ b26 : Nat, ∀ H27 : Heap, New H7 b26 [(.int .i64 n25), (.int .i64 1)] 73 H27 → (
                                        ∃ old28 new29 : List Value, SRow H27 2 l4 (.slice a3 l4 c5) old28 ∧ SRow H27 2 1 (.slice (some (⟨b26, 0, none⟩ : Addr)) 1 1) new29 ∧ (∀ u ∈ new29, Value.oneCell' u = true) ∧ (l4 + 1) * 16 ≤ 140737488355328 ∧ (l4 + 1 ≤ c5 → roomOf H27 a3 (l4 * 2) (1 * 2)) ∧ ∀ a30 : Option Addr, ∀ c31 : Nat, ∀ H32 : Heap, App H27 2 73 [(.int .i64 0), (.int .i64 0)] a3 l4 c5 old28 new29 1 a30 c31 H32 → (
                                          (In64 (n6 + 1)) ∧
                                          (I1 a30 (l4 + 1) c31 (n6 + 1) H32) ∧ μ2 a30 (l4 + 1) c31 (n6 + 1) H32 < μ2 a3 l4 c5 n6 H7))))))))))))))) ∧ (¬ ((0 : Int) < (l4 : Int)) → (
                (0 : Int) ≤ n6 ∧ (n6 : Int) < (x0l : Int) ∧ ∃ b33 o34 : Nat, x0 = some (⟨b33, o34, none⟩ : Addr) ∧ (
                  ∃ n35 : Int, hcell H7 b33 (o34 + (Int.toNat n6)) = some (.int .i64 n35) ∧ (
                    ∀ b36 : Nat, ∀ H37 : Heap, New H7 b36 [(.int .i64 n35), (.int .i64 1)] 73 H37 → (
                      ∃ old38 new39 : List Value, SRow H37 2 l4 (.slice a3 l4 c5) old38 ∧ SRow H37 2 1 (.slice (some (⟨b36, 0, none⟩ : Addr)) 1 1) new39 ∧ (∀ u ∈ new39, Value.oneCell' u = true) ∧ (l4 + 1) * 16 ≤ 140737488355328 ∧ (l4 + 1 ≤ c5 → roomOf H37 a3 (l4 * 2) (1 * 2)) ∧ ∀ a40 : Option Addr, ∀ c41 : Nat, ∀ H42 : Heap, App H37 2 73 [(.int .i64 0), (.int .i64 0)] a3 l4 c5 old38 new39 1 a40 c41 H42 → (
                        (In64 (n6 + 1)) ∧
                        (I1 a40 (l4 + 1) c41 (n6 + 1) H42) ∧ μ2 a40 (l4 + 1) c41 (n6 + 1) H42 < μ2 a3 l4 c5 n6 H7))))))))) ∧ (¬ ((n6 : Int) < (x0l : Int)) → (
          R (.slice a3 l4 c5) H7))))) := by kernel_rfl


/-- pentimento/extent.Take -/
theorem vc_take (x0 : Option Addr) (x1 : Int) (x2 : Int) (H : Heap) (R : Value → Heap → Prop) : Walk Try.prog 29 [] [(.pointer x0), (.int .i64 x1), (.int .i64 x2)] H R = (
  Does Try.prog 32 [(.pointer x0), (.slice none 0 0), (.int .i64 x1), (.int .i64 x2)] H fun v1 H2 => ∃ a3 : Option Addr, ∃ l4 : Nat, ∃ c5 : Nat, ∃ t6 : Bool, v1 = (.tuple #[(.slice a3 l4 c5), (.bool t6)]) ∧ (
    R (.tuple #[(.slice a3 l4 c5), (.bool t6)]) H2)) := by kernel_rfl


/-- pentimento/pentimentolaw7.is -/
theorem vc_is (x0 : Option Addr) (x1 : Option Addr) (H : Heap) (R : Value → Heap → Prop) : Walk Try.prog 35 [] [(.pointer x0), (.pointer x1)] H R = (
  Does Try.prog 18 [(.pointer x0)] H fun v1 H2 => ∃ a3 : Option Addr, ∃ l4 : Nat, ∃ c5 : Nat, v1 = (.slice a3 l4 c5) ∧ (
    (∃ l6 : List UInt8, SRow H2 1 l4 (.slice a3 l4 c5) (List.map (fun (b : UInt8) => Value.int .u8 b.toNat) l6) ∧ (
        Does Try.prog 22 [(.pointer x1)] H2 fun v7 H8 => ∃ a9 : Option Addr, ∃ l10 : Nat, ∃ c11 : Nat, v7 = (.slice a9 l10 c11) ∧ (
          SRow H8 1 l4 (.slice a3 l4 c5) (List.map (fun (b : UInt8) => Value.int .u8 b.toNat) l6) ∧ (∃ l12 : List UInt8, SRow H8 1 l10 (.slice a9 l10 c11) (List.map (fun (b : UInt8) => Value.int .u8 b.toNat) l12) ∧ (
              R (.bool (@decide (((ByteArray.mk (List.toArray l6)) : ByteArray) = (ByteArray.mk (List.toArray l12))) (Classical.propDecidable _))) H8))))))) := by kernel_rfl


/-- pentimento/pentimentolaw7.of -/
theorem vc_of (x0 : Int) (x1 : Option Addr) (x1l : Nat) (x1c : Nat) (H : Heap) (R : Value → Heap → Prop) : Walk Try.prog 27 [] [(.int .i64 x0), (.slice x1 x1l x1c)] H R = (
  Does Try.prog 12 [(.int .i64 x0)] H fun v1 H2 => ∃ p3 : Option Addr, v1 = (.pointer p3) ∧ (
    Does Try.prog 21 [(.int .i64 x0)] H2 fun v4 H5 => ∃ p6 : Option Addr, v4 = (.pointer p6) ∧ (
      ∃ I7 : Int → Heap → Prop, ∃ μ8 : Int → Heap → Nat, (I7 0 H5) ∧
      ∀ n9 : Int, ∀ H10 : Heap, I7 n9 H10 → (
        ((((n9 : Int) < (x1l : Int)) → (
              ((((n9 : Int) < 40) → (
                    (((¬ ((p3 : Option Addr) = none)) → (
                          ((((0 : Int) < x0) → (
                                (0 : Int) ≤ n9 ∧ (n9 : Int) < (x1l : Int) ∧ ∃ b11 o12 : Nat, x1 = some (⟨b11, o12, none⟩ : Addr) ∧ (
                                  ∃ n13 : Int, hcell H10 b11 (o12 + (Int.toNat n9)) = some (.int .i64 n13) ∧ (
                                    Does Try.prog 11 [(.int .i64 n13), (.int .i64 x0)] H10 fun v14 H15 => ∃ n16 : Int, v14 = (.int .i64 n16) ∧ (
                                      Does Try.prog 14 [(.pointer p3), (.int .i64 n16), (.bool true)] H15 fun v17 H18 => ∃ t19 : Bool, v17 = (.bool t19) ∧ (
                                        ∃ b20 o21 : Nat, p6 = some (⟨b20, o21, none⟩ : Addr) ∧ (
                                          ∃ a22 : Option Addr, ∃ l23 : Nat, ∃ c24 : Nat, hcell H18 b20 o21 = some (.slice a22 l23 c24) ∧ (
                                            (0 : Int) ≤ n16 ∧ (n16 : Int) < (l23 : Int) ∧ ∃ b25 o26 : Nat, a22 = some (⟨b25, o26, none⟩ : Addr) ∧ (
                                              Cells H18 b25 (o26 + (Int.toNat n16)) 1 ∧ ∀ H27 : Heap, Puts H18 b25 (o26 + (Int.toNat n16)) [(.bool true)] H27 → (
                                                (In64 (n9 + 1)) ∧
                                                (I7 (n9 + 1) H27) ∧ μ8 (n9 + 1) H27 < μ8 n9 H10)))))))))) ∧ (¬ ((0 : Int) < x0) → (
                                R (.tuple #[(.pointer p3), (.pointer p6)]) H10))))) ∧ (¬ (¬ ((p3 : Option Addr) = none)) → (
                          R (.tuple #[(.pointer p3), (.pointer p6)]) H10))))) ∧ (¬ ((n9 : Int) < 40) → (
                    R (.tuple #[(.pointer p3), (.pointer p6)]) H10))))) ∧ (¬ ((n9 : Int) < (x1l : Int)) → (
              R (.tuple #[(.pointer p3), (.pointer p6)]) H10))))))) := by kernel_rfl


/-- pentimento/pentimentoref6.Shrink -/
theorem vc_rshrink (x0 : Option Addr) (x1 : Option Addr) (x1l : Nat) (x1c : Nat) (x2 : Int) (H : Heap) (R : Value → Heap → Prop) : Walk Try.prog 34 [] [(.pointer x0), (.slice x1 x1l x1c), (.int .i64 x2)] H R = (
  ∃ b1 o2 : Nat, x0 = some (⟨b1, o2, none⟩ : Addr) ∧ (
    ∃ a3 : Option Addr, ∃ l4 : Nat, ∃ c5 : Nat, hcell H b1 o2 = some (.slice a3 l4 c5) ∧ (
      Does Try.prog 42 [(.slice x1 x1l x1c), (.int .i64 0), (.int .i64 (l4 : Int))] H fun v6 H7 => ∃ t8 : Bool, v6 = (.bool t8) ∧ (
        (((t8 = false) → (
              R (.slice none 0 0) H7)) ∧ (¬ (t8 = false) → (
              Does Try.prog 45 [(.slice x1 x1l x1c)] H7 fun v9 H10 => ∃ a11 : Option Addr, ∃ l12 : Nat, ∃ c13 : Nat, v9 = (.slice a11 l12 c13) ∧ (
                ∃ I14 : Int → Heap → Prop, ∃ μ15 : Int → Heap → Nat, (I14 (max 0 (min x2 (l12 : Int))) H10) ∧
                ∀ n16 : Int, ∀ H17 : Heap, I14 n16 H17 → (
                  ((((n16 : Int) < (l12 : Int)) → (
                        ∃ b18 o19 : Nat, x0 = some (⟨b18, o19, none⟩ : Addr) ∧ (
                          ∃ a20 : Option Addr, ∃ l21 : Nat, ∃ c22 : Nat, hcell H17 b18 o19 = some (.slice a20 l21 c22) ∧ (
                            (0 : Int) ≤ n16 ∧ (n16 : Int) < (l12 : Int) ∧ ∃ b23 o24 : Nat, a11 = some (⟨b23, o24, none⟩ : Addr) ∧ (
                              ∃ n25 : Int, hcell H17 b23 (o24 + (Int.toNat n16)) = some (.int .i64 n25) ∧ (
                                (0 : Int) ≤ n25 ∧ (n25 : Int) < (l21 : Int) ∧ ∃ b26 o27 : Nat, a20 = some (⟨b26, o27, none⟩ : Addr) ∧ (
                                  Cells H17 b26 (o27 + (Int.toNat n25)) 1 ∧ ∀ H28 : Heap, Puts H17 b26 (o27 + (Int.toNat n25)) [(.bool false)] H28 → (
                                    ((In64 (n16 + 1)) ∧
                                      (I14 (n16 + 1) H28) ∧ μ15 (n16 + 1) H28 < μ15 n16 H17))))))))) ∧ (¬ ((n16 : Int) < (l12 : Int)) → (
                        (0 : Int) ≤ (max 0 (min x2 (l12 : Int))) ∧ ((max 0 (min x2 (l12 : Int))) : Int) ≤ (c13 : Int) ∧ (
                          Does Try.prog 46 [(.slice a11 (Int.toNat (max 0 (min x2 (l12 : Int)))) c13)] H17 fun v29 H30 => ∃ a31 : Option Addr, ∃ l32 : Nat, ∃ c33 : Nat, v29 = (.slice a31 l32 c33) ∧ (
                            R (.slice a31 l32 c33) H30)))))))))))))) := by kernel_rfl


end Go.Proofs
end

section
open Go Go.Vc
namespace Go.Proofs

/-- A map of bits in a heap, by its list of bits. -/
def IsB (H : Heap) (pb : Nat) (a : Option Addr) (c : Nat) (bs : List Bool) : Prop := ∃ xs, IsMap H pb a c bs.length xs ∧ BytesAre bs xs

theorem IsB.ext {M : List Nat} {H H' : Heap} {pb : Nat} {a : Option Addr} {c : Nat} {bs : List Bool} (h : IsB H pb a c bs) (he : Ext M H H') (h1 : pb ∉ M) (h2 : ∀ k, k ∈ blkOf a → k ∉ M) : IsB H' pb a c bs := by
  obtain ⟨xs, hm, hb⟩ := h
  exact ⟨xs, hm.ext he h1 h2, hb⟩

def setB (bs : List Bool) (k : Int) (on : Bool) : List Bool := if 0 ≤ k ∧ k < bs.length then bs.set k.toNat on else bs

theorem setB_length (bs : List Bool) (k : Int) (on : Bool) : (setB bs k on).length = bs.length := by
  unfold setB
  split <;> simp

theorem setb_ok {H : Heap} {pb : Nat} {a : Option Addr} {c : Nat} {bs : List Bool} (h : IsB H pb a c bs) (k : Int) (on : Bool) :
    Does Try.prog 14 [.pointer (some ⟨pb, 0, none⟩), .int .i64 k, .bool on] H fun v H' => (∃ t, v = .bool t) ∧ IsB H' pb a c (setB bs k on) ∧ Ext (blkOf a) H H' := by
  obtain ⟨xs, hm, hb⟩ := h
  have gk : 0 ≤ k ∧ k < bs.length → getB bs.length xs k = bit xs k.toNat := fun hin => by
    have := getB_nat bs.length xs k.toNat (by omega)
    rw [show ((k.toNat : Nat) : Int) = k by omega] at this
    exact this
  refine (set_ok hm k on).mono ?_
  rintro _ H' (⟨rfl, rfl, hh⟩ | ⟨rfl, h0, h1, hne, hm', hx⟩)
  · refine ⟨⟨_, rfl⟩, ?_, Ext.refl _ _⟩
    unfold setB
    split
    · rename_i hin
      refine ⟨xs, by rw [List.length_set]; exact hm, hb.same (by omega) ?_⟩
      rcases hh with hh | hh | hh
      · omega
      · omega
      · rw [← gk hin]; exact hh
    · exact ⟨xs, hm, hb⟩
  · refine ⟨⟨_, rfl⟩, ?_, hx⟩
    unfold setB
    rw [if_pos ⟨h0, h1⟩]
    exact ⟨flipL xs k.toNat, by rw [List.length_set]; exact hm', hb.flip (by omega) (by rw [← gk ⟨h0, h1⟩]; exact hne)⟩

def setAll (bs : List Bool) (ks : List Int) (on : Bool) : List Bool := ks.foldl (fun bs k => setB bs k on) bs

theorem setAll_length (ks : List Int) (on : Bool) : ∀ bs : List Bool, (setAll bs ks on).length = bs.length := by
  induction ks with
  | nil => intro bs; rfl
  | cons k r ih => intro bs; unfold setAll at ih ⊢; rw [List.foldl_cons, ih, setB_length]

theorem setAll_append (bs : List Bool) (xs ys : List Int) (on : Bool) : setAll bs (xs ++ ys) on = setAll (setAll bs xs on) ys on := by
  unfold setAll
  rw [List.foldl_append]

/-- Pieces whose ends are no great numbers. -/
def TameP (l : List Pc) : Prop := ∀ (i : Nat) (p : Pc), l[i]? = some p → 0 ≤ p.s ∧ p.s ≤ 1000000 ∧ p.c ≤ 1000000

theorem turn_ok {H : Heap} {pb : Nat} {a : Option Addr} {c : Nat} {bs : List Bool} (h : IsB H pb a c bs) {a1 : Option Addr} {len cap : Nat} {l : List Pc} (hp : Pcs H a1 len l) (hd : ∀ k, k ∈ blkOf a1 → k ∉ blkOf a) (ht : TameP l) (hl : len ≤ 1000000) (on : Bool) :
    Does Try.prog 49 [.pointer (some ⟨pb, 0, none⟩), .slice a1 len cap, .bool on] H fun v H' => v = .tuple #[] ∧ IsB H' pb a c (setAll bs (blocksW l) on) ∧ Ext (blkOf a) H H' := by
  refine Fn_of_vc Try.mixed (vc_turn _ _ _ _ _ _ _) ?_
  have hlen := hp.leng
  have hpb : pb ∉ blkOf a := by obtain ⟨xs, hm, _⟩ := h; exact hm.apart
  refine ⟨fun i H' => ∃ j : Nat, i = j ∧ j ≤ len ∧ IsB H' pb a c (setAll bs (blocksW (l.take j)) on) ∧ Ext (blkOf a) H H', fun i _ => len - i.toNat, ⟨0, rfl, Nat.zero_le _, h, Ext.refl _ _⟩, ?_⟩
  rintro _ H4 ⟨j, rfl, hj, hb4, hx4⟩
  refine ⟨fun h2 => ?_, fun h2 => ⟨rfl, ?_, hx4⟩⟩
  · obtain ⟨p, hpj⟩ : ∃ p, l[j]? = some p := ⟨_, List.getElem?_eq_getElem (by omega)⟩
    obtain ⟨b, o, rfl, c0, c1⟩ := hp.get j p hpj
    have hbd : b ∉ blkOf a := hd b (by simp [blkOf])
    obtain ⟨t1, t2, t3⟩ := ht j p hpj
    refine ⟨by omega, h2, b, o, rfl, _, hcell_ext c0 hx4 hbd, _, hcell_ext c1 hx4 hbd, fun b9 H10 hn => ⟨hn.blk.cells 2 0 (by simp), fun H11 hput => ?_⟩⟩
    obtain ⟨hb9, hx11, e9, s11⟩ := new_put hn hput rfl
    have hb11 := hb4.ext hx11 (by simp) (by simp)
    have hfresh : b9 ∉ blkOf a := fun hk => by
      obtain ⟨xs, hm, _⟩ := hb4
      have := hm.own.lt _ hk
      omega
    refine ⟨p.c, hb9.cell 1, fun i H' => ∃ k : Nat, i = k ∧ k ≤ p.c.toNat ∧ IsB H' pb a c (setAll bs (blocksW (l.take j) ++ (blkW p).take k) on) ∧ Ext (blkOf a) H11 H', fun i _ => p.c.toNat - i.toNat, ⟨0, rfl, Nat.zero_le _, by simpa using hb11, Ext.refl _ _⟩, ?_⟩
    rintro _ H16 ⟨k, rfl, hk, hb16, hx16⟩
    refine ⟨fun h3 => ?_, fun h3 => ⟨⟨by omega, by omega⟩, ⟨j + 1, by omega, by omega, ?_, hx4.trans (hx11.any.trans hx16)⟩, by dsimp only; omega⟩⟩
    · refine ⟨p.s, (hb9.ext hx16 hfresh).cell 0, ⟨by omega, by omega⟩, (setb_ok hb16 (p.s + k) on).mono ?_⟩
      rintro _ H19 ⟨⟨t, rfl⟩, hb19, hx19⟩
      refine ⟨t, rfl, ⟨by omega, by omega⟩, ⟨k + 1, by omega, by omega, ?_, hx16.trans hx19⟩, by dsimp only; omega⟩
      rw [blkW_take (by omega), ← List.append_assoc, setAll_append, wrap_of_in64 ⟨by omega, by omega⟩]
      exact hb19
    · rw [blocksW_take hpj]
      have := blkW_length p
      rw [List.take_of_length_le (l := blkW p) (by omega)] at hb16
      exact hb16
  · have : l.take j = l := List.take_of_length_le (by omega)
    rw [this] at hb4
    exact hb4

end Go.Proofs
end

namespace Go.Vc

/-- A block behind pieces; the last piece stands first. -/
def pushB (rs : List Pc) (b : Int) : List Pc :=
  match rs with
  | [] => [⟨b, 1⟩]
  | q :: r => if q.s + q.c = b then ⟨q.s, q.c + 1⟩ :: r else ⟨b, 1⟩ :: q :: r

/-- A piece behind pieces. -/
def pushP (rs : List Pc) (p : Pc) : List Pc :=
  match rs with
  | [] => [p]
  | q :: r => if q.s + q.c = p.s then ⟨q.s, q.c + p.c⟩ :: r else p :: q :: r

def blkI (p : Pc) : List Int := (List.range p.c.toNat).map fun (k : Nat) => p.s + (k : Int)
def blocksI (l : List Pc) : List Int := (l.map blkI).flatten

theorem pushB_pushP (rs : List Pc) (s : Int) (k : Nat) : pushB (pushP rs ⟨s, (k : Int) + 1⟩) (s + ((k : Int) + 1)) = pushP rs ⟨s, (k : Int) + 1 + 1⟩ := by
  cases rs with
  | nil => simp [pushP, pushB]
  | cons q r =>
    simp only [pushP]
    by_cases h : q.s + q.c = s
    · rw [if_pos h, if_pos h]
      simp only [pushB]
      rw [if_pos (by omega)]
      simp only [List.cons.injEq, Pc.mk.injEq, and_true, true_and]
      omega
    · rw [if_neg h, if_neg h]
      simp only [pushB]
      rw [if_pos trivial]

theorem foldB (rs : List Pc) (s : Int) : ∀ k : Nat, ((List.range (k + 1)).map fun (i : Nat) => s + (i : Int)).foldl pushB rs = pushP rs ⟨s, (k : Int) + 1⟩
  | 0 => by
    cases rs with
    | nil => simp [pushP, pushB]
    | cons q r => simp [pushP, pushB]
  | k + 1 => by
    rw [List.range_succ, List.map_append, List.foldl_append, foldB rs s k]
    simp only [List.map_cons, List.map_nil, List.foldl_cons, List.foldl_nil]
    have := pushB_pushP rs s k
    simpa using this

theorem foldB_blk (rs : List Pc) (p : Pc) (h : 1 ≤ p.c) : (blkI p).foldl pushB rs = pushP rs p := by
  obtain ⟨k, hk⟩ : ∃ k : Nat, p.c = (k : Int) + 1 := ⟨(p.c - 1).toNat, by omega⟩
  obtain ⟨s, c⟩ := p
  simp only at hk h
  subst hk
  have : ((k : Int) + 1).toNat = k + 1 := by omega
  unfold blkI
  simp only [this]
  exact foldB rs s k

theorem foldB_blocks : ∀ (l : List Pc) (rs : List Pc), (∀ p ∈ l, 1 ≤ p.c) → (blocksI l).foldl pushB rs = l.foldl pushP rs
  | [], _, _ => rfl
  | p :: l, rs, h => by
    have e : blocksI (p :: l) = blkI p ++ blocksI l := rfl
    rw [e, List.foldl_append, foldB_blk rs p (h p (by simp)), List.foldl_cons]
    exact foldB_blocks l _ (fun q hq => h q (by simp [hq]))

/-- Neighbours do not touch: 'rs' is what stands ahead, the last first. -/
def Norm : List Pc → List Pc → Prop
  | _, [] => True
  | rs, p :: l => (∀ q, rs.head? = some q → q.s + q.c ≠ p.s) ∧ Norm (p :: rs) l

theorem foldP_norm : ∀ (l rs : List Pc), Norm rs l → l.foldl pushP rs = l.reverse ++ rs
  | [], _, _ => rfl
  | p :: l, rs, h => by
    have e : pushP rs p = p :: rs := by
      cases rs with
      | nil => rfl
      | cons q r =>
        simp only [pushP]
        rw [if_neg (h.1 q rfl)]
    rw [List.foldl_cons, e, foldP_norm l (p :: rs) h.2]
    simp

theorem norm_of {l : List Pc} (h : ∀ (i : Nat) (p q : Pc), l[i]? = some q → l[i + 1]? = some p → q.s + q.c ≠ p.s) : ∀ rs, (∀ q p, rs.head? = some q → l.head? = some p → q.s + q.c ≠ p.s) → Norm rs l := by
  induction l with
  | nil => intro rs _; trivial
  | cons p r ih =>
    intro rs hrs
    refine ⟨fun q hq => hrs q p hq rfl, ih (fun i p' q' h1 h2 => h (i + 1) p' q' (by simpa using h1) (by simpa using h2)) (p :: rs) (fun q p' h1 h2 => ?_)⟩
    simp only [List.head?_cons, Option.some.injEq] at h1
    subst h1
    refine h 0 p' p rfl ?_
    cases r with
    | nil => simp at h2
    | cons x y => simpa using h2

/-- What 'pieces' makes of blocks. -/
def piecesF (bs : List Int) : List Pc := (bs.foldl pushB []).reverse

theorem piecesF_blocks {l : List Pc} (hc : ∀ p ∈ l, 1 ≤ p.c) (hn : Norm [] l) : piecesF (blocksI l) = l := by
  unfold piecesF
  rw [foldB_blocks l [] hc, foldP_norm l [] hn]
  simp

theorem right_norm {l : List Pc} {a e : Int} (h : RightP l a e) : Norm [] l := norm_of (fun i p q h1 h2 => ((h.2 (i + 1) p h2).2 i q (Nat.lt_succ_self i) h1).2 rfl) [] (fun q p h1 _ => by cases h1)

theorem right_pos {l : List Pc} {a e : Int} (h : RightP l a e) : ∀ p ∈ l, 1 ≤ p.c := by
  intro p hp
  obtain ⟨i, hi, rfl⟩ := List.mem_iff_getElem.1 hp
  exact (h.2 i _ (List.getElem?_eq_getElem hi)).1.1

theorem piecesF_right {l : List Pc} {a e : Int} (h : RightP l a e) : piecesF (blocksI l) = l := piecesF_blocks (right_pos h) (right_norm h)

/-- Pieces pushed behind right ones are what 'pieces' makes of all the blocks. -/
theorem piecesF_more {l more : List Pc} {a e : Int} (h : RightP l a e) (hm : ∀ p ∈ more, 1 ≤ p.c) : (more.foldl pushP l.reverse).reverse = piecesF (blocksI l ++ blocksI more) := by
  unfold piecesF
  rw [List.foldl_append, foldB_blocks l [] (right_pos h), foldP_norm l [] (right_norm h), List.append_nil, foldB_blocks more _ hm]

end Go.Vc

section
open Go Go.Vc
namespace Go.Proofs

/-- The first 'cnt' blocks that are off, from k on, 'f' looked at. -/
def offs (p : Nat → Bool) : Nat → Nat → Nat → List Int
  | 0, _, _ => []
  | f + 1, k, cnt => match cnt with
    | 0 => []
    | c + 1 => match p k with
      | true => offs p f (k + 1) (c + 1)
      | false => (k : Int) :: offs p f (k + 1) c

theorem offs_zero (p : Nat → Bool) : ∀ f k, offs p f k 0 = []
  | 0, _ => rfl
  | _ + 1, _ => rfl

theorem offs_on {p : Nat → Bool} {cnt : Nat} : ∀ {d f k : Nat}, (∀ i, k ≤ i → i < k + d → p i = true) → offs p (f + d) k cnt = offs p f (k + d) cnt
  | 0, f, k, _ => rfl
  | d + 1, f, k, h => by
    cases cnt with
    | zero => rw [offs_zero, offs_zero]
    | succ c =>
      rw [← Nat.add_assoc, offs, h k (Nat.le_refl _) (by omega)]
      simp only
      rw [offs_on (fun i h1 h2 => h i (by omega) (by omega))]
      congr 1
      omega

theorem offs_off {p : Nat → Bool} : ∀ {d f k cnt : Nat}, (∀ i, k ≤ i → i < k + d → p i = false) → offs p (f + d) k (cnt + d) = ((List.range d).map fun (i : Nat) => (k : Int) + (i : Int)) ++ offs p f (k + d) cnt
  | 0, f, k, cnt, _ => rfl
  | d + 1, f, k, cnt, h => by
    rw [← Nat.add_assoc, ← Nat.add_assoc, offs, h k (Nat.le_refl _) (by omega)]
    simp only
    rw [offs_off (fun i h1 h2 => h i (by omega) (by omega)), List.range_succ_eq_map, List.map_cons, List.map_map, List.cons_append]
    simp only [Int.natCast_zero, Int.add_zero, List.cons.injEq, true_and]
    congr 1
    · refine List.map_congr_left fun i _ => ?_
      simp only [Function.comp]
      omega
    · congr 1
      omega

theorem offs_length_le (p : Nat → Bool) : ∀ f k cnt, (offs p f k cnt).length ≤ cnt ∧ (offs p f k cnt).length ≤ f
  | 0, _, _ => by simp [offs]
  | f + 1, k, 0 => by simp [offs]
  | f + 1, k, c + 1 => by
    rw [offs]
    split
    · have := offs_length_le p f (k + 1) (c + 1); omega
    · have := offs_length_le p f (k + 1) c
      simp only [List.length_cons]; omega

end Go.Proofs
end

section
open Go Go.Vc
namespace Go.Proofs

theorem piecesV_append (l m : List Pc) : piecesV (l ++ m) = piecesV l ++ piecesV m := by simp [piecesV]

theorem Own.pcs {H : Heap} {a : Option Addr} {len cap : Nat} {l : List Pc} (h : Own H 2 a len cap (piecesV l)) : Pcs H a len l :=
  ⟨by have := h.1; rw [piecesV_length] at this; omega, fun c => h.row len c⟩

theorem runb_ok {H : Heap} {pb : Nat} {a : Option Addr} {c : Nat} {bs : List Bool} (h : IsB H pb a c bs) (k : Int) (hk : k ≤ 9223372036854775807) : Does Try.prog 15 [.pointer (some ⟨pb, 0, none⟩), .int .i64 k] H fun v H' =>
    v = .tuple #[.int .i64 (runF (onB bs) bs.length k.toNat).1, .int .i64 (runF (onB bs) bs.length k.toNat).2] ∧ H = H' := by
  obtain ⟨xs, hm, hb⟩ := h
  have : onB bs = bit xs := funext fun i => (hb.bits i).symm
  rw [this]
  exact run_ok hm k hk

theorem IsB.small {H : Heap} {pb : Nat} {a : Option Addr} {c : Nat} {bs : List Bool} (h : IsB H pb a c bs) : bs.length ≤ 1000000000000 := by
  obtain ⟨xs, hm, _⟩ := h
  exact hm.small

theorem IsB.lt {H : Heap} {pb : Nat} {a : Option Addr} {c : Nat} {bs : List Bool} (h : IsB H pb a c bs) : pb < H.size ∧ ∀ k, k ∈ blkOf a → k < H.size := by
  obtain ⟨xs, hm, _⟩ := h
  exact ⟨hm.head.lt, hm.own.lt⟩

/-- The blocks that are found. -/
def foundF (bs : List Bool) (k : Int) (n : Nat) : List Int := offs (onB bs) (bs.length - k.toNat) k.toNat n

def FoundR (H H' : Heap) (bs : List Bool) (k n : Int) (v : Value) : Prop :=
  (¬ (0 ≤ n ∧ (foundF bs k n.toNat).length = n.toNat) ∧ v = .tuple #[.slice none 0 0, .bool false]) ∨
  (0 ≤ n ∧ (foundF bs k n.toNat).length = n.toNat ∧ ∃ a c more, v = .tuple #[.slice a more.length c, .bool true] ∧ Own H' 2 a more.length c (piecesV more) ∧ blocksI more = foundF bs k n.toNat ∧
    (∀ p ∈ more, 1 ≤ p.c ∧ 0 ≤ p.s ∧ p.s + p.c ≤ bs.length) ∧ more.length ≤ bs.length ∧ (∀ k, k ∈ blkOf a → H.size ≤ k))

theorem blocksI_length : ∀ {l : List Pc}, (∀ p ∈ l, 1 ≤ p.c) → ((blocksI l).length : Int) = totalP l
  | [], _ => rfl
  | q :: r, h => by
    have h1 := h q (by simp)
    have h2 := blocksI_length (l := r) (fun p hp => h p (by simp [hp]))
    have e : blocksI (q :: r) = blkI q ++ blocksI r := rfl
    have e2 : (blkI q).length = q.c.toNat := by simp [blkI]
    rw [e, List.length_append, e2, totalP]
    omega

theorem found_ok {H : Heap} {pb : Nat} {a : Option Addr} {c : Nat} {bs : List Bool} (h : IsB H pb a c bs) (k n : Int) (hk : k ≤ 9223372036854775807) (hn : -9223372036854775808 ≤ n ∧ n ≤ 9223372036854775807) :
    Does Try.prog 47 [.pointer (some ⟨pb, 0, none⟩), .int .i64 k, .int .i64 n] H fun v H' => FoundR H H' bs k n v ∧ Ext [] H H' := by
  refine Fn_of_vc Try.mixed (vc_found _ _ _ _ _) ?_
  have hsm := h.small
  generalize hN : bs.length = N at *
  let I : Option Addr → Nat → Nat → Int → Int → Heap → Prop := fun a' len c' m k' H' => Ext [] H H' ∧ (∀ k, k ∈ blkOf a' → H.size ≤ k) ∧
    ∃ dn : List Pc, dn.length = len ∧ Own H' 2 a' len c' (piecesV dn) ∧ (∀ p ∈ dn, 1 ≤ p.c ∧ 0 ≤ p.s ∧ p.s + p.c ≤ N) ∧ k' ≤ 9223372036854775807 ∧ (dn = [] ∧ k' = k ∧ m = n ∧ a' = none ∧ c' = 0 ∨ 0 ≤ m ∧ m ≤ n ∧ len ≤ k'.toNat ∧ k'.toNat ≤ N) ∧
      blocksI dn ++ offs (onB bs) (N - k'.toNat) k'.toNat m.toNat = foundF bs k n.toNat ∧ ((blocksI dn).length : Int) + m = n
  refine ⟨I, fun _ _ _ m _ _ => m.toNat, ⟨Ext.refl _ _, fun k hk => by (cases hk), [], rfl, Own.nil _ _, by simp, hk, .inl ⟨rfl, rfl, rfl, rfl, rfl⟩, by simp [blocksI, foundF, hN], by simp [blocksI]⟩, ?_⟩
  rintro a3 l3 c3 m k' H8 ⟨hx8, hf8, dn, hdl, hown, hdn, hk', hst, hbl, htot⟩
  have hb8 := h.ext hx8 (by simp) (by simp)
  have hl3 : l3 ≤ 1000000000000 := by
    rcases hst with ⟨rfl, _⟩ | ⟨_, _, h3, h4⟩
    · simp only [List.length_nil] at hdl; omega
    · omega
  have fewer : (offs (onB bs) (N - k'.toNat) k'.toNat m.toNat).length = 0 → 0 < m → ¬ (0 ≤ n ∧ (foundF bs k n.toNat).length = n.toNat) := by
    intro h0 hm hh
    rw [← hbl, List.length_append, h0] at hh
    omega
  refine ⟨fun h1 => (runb_ok hb8 k' hk').mono ?_, fun h1 => ⟨?_, hx8⟩⟩
  · rintro _ _ ⟨rfl, rfl⟩
    rw [hN]
    by_cases hkN : k'.toNat ≤ N
    · have hr := runF_spec (onB bs) N k'.toNat hkN
      generalize (runF (onB bs) N k'.toNat).1 = s at *
      generalize (runF (onB bs) N k'.toNat).2 = t at *
      have r1 := hr.from_
      have r2 := hr.fin
      refine ⟨_, _, rfl, fun h2 => ⟨.inl ⟨fewer ?_ h1, rfl⟩, hx8⟩, fun h2 => ?_⟩
      · have e0 : t = 0 := by omega
        have e1 := hr.zero e0
        have := offs_on (p := onB bs) (cnt := m.toNat) (d := N - k'.toNat) (f := 0) (k := k'.toNat) (fun i h3 h4 => hr.on i h3 (by omega))
        rw [Nat.zero_add] at this
        rw [this]
        rfl
      · refine append_one hown rfl (by intro u hu; simp only [List.mem_cons, List.not_mem_nil, or_false] at hu; rcases hu with rfl | rfl <;> rfl) rfl (by omega) ?_
        intro a' c' H' ho' hx' hf'
        let u : Nat := min t m.toNat
        have eu : min (t : Int) m = (u : Int) := by simp only [u]; omega
        rw [eu]
        have hu1 : 1 ≤ u := by simp only [u]; omega
        have hu2 : u ≤ t := Nat.min_le_left _ _
        have hu3 : u ≤ m.toNat := Nat.min_le_right _ _
        have ek : ((s : Int) + t).toNat = s + t := by omega
        have e1 := offs_on (p := onB bs) (cnt := m.toNat) (d := s - k'.toNat) (f := N - s) (k := k'.toNat) (fun i h3 h4 => hr.on i h3 (by omega))
        rw [show N - s + (s - k'.toNat) = N - k'.toNat by omega, show k'.toNat + (s - k'.toNat) = s by omega] at e1
        have e2 := offs_off (p := onB bs) (d := u) (f := N - s - u) (k := s) (cnt := m.toNat - u) (fun i h3 h4 => hr.off i h3 (by omega))
        rw [show N - s - u + u = N - s by omega, show m.toNat - u + u = m.toNat by omega] at e2
        have e3 : offs (onB bs) (N - s - u) (s + u) (m.toNat - u) = offs (onB bs) (N - (s + t)) (s + t) (m.toNat - u) := by
          by_cases hut : u = t
          · rw [hut, Nat.sub_sub]
          · have : m.toNat - u = 0 := by simp only [u] at hut ⊢; omega
            rw [this, offs_zero, offs_zero]
        have e4 : blkI ⟨(s : Int), (u : Int)⟩ = (List.range u).map fun (i : Nat) => (s : Int) + (i : Int) := by simp [blkI]
        have e5 : blocksI (dn ++ [⟨s, u⟩]) = blocksI dn ++ blkI ⟨s, u⟩ := by simp [blocksI]
        refine ⟨⟨by omega, by omega⟩, ⟨by omega, by omega⟩, ⟨hx8.trans' hx' (fun i hi => .inl (hf8 i hi)), fun i hi => ?_, dn ++ [⟨s, u⟩], by simp [hdl], ?_, fun p hp => ?_, by omega, .inr ⟨by omega, ?_, ?_, by omega⟩, ?_, ?_⟩, by dsimp only; omega⟩
        · rcases hf' i hi with h4 | h4
          · exact hf8 i h4
          · have := hx8.size; omega
        · rw [piecesV_append]
          have ho2 := ho'
          rw [eu] at ho2
          exact ho2
        · rcases List.mem_append.1 hp with hp | hp
          · exact hdn p hp
          · simp only [List.mem_singleton] at hp
            subst hp
            exact ⟨by simp only; omega, by simp only; omega, by simp only; omega⟩
        · rcases hst with ⟨_, _, rfl, _⟩ | ⟨_, h3, _⟩ <;> omega
        · rcases hst with ⟨rfl, _⟩ | ⟨_, _, h3, h4⟩
          · simp at hdl; omega
          · omega
        · rw [ek, show ((m : Int) - (u : Int)).toNat = m.toNat - u by omega, ← e3, e5, e4, List.append_assoc, ← e2, ← e1]
          exact hbl
        · rw [e5, List.length_append, e4, List.length_map, List.length_range]
          omega
    · have hz : runF (onB bs) N k'.toNat = (N, 0) := by
        unfold runF
        have : skipTo (onB bs) (N - k'.toNat) k'.toNat = k'.toNat := skipTo_end (by omega)
        simp only [this]
        rw [if_pos (by omega)]
      rw [hz]
      refine ⟨_, _, rfl, fun h2 => ⟨.inl ⟨fewer ?_ h1, rfl⟩, hx8⟩, fun h2 => absurd rfl h2⟩
      rw [show N - k'.toNat = 0 by omega]
      rfl
  · by_cases hm : m = 0
    · subst hm
      have hn0 : 0 ≤ n := by rcases hst with ⟨_, _, h3, _⟩ | ⟨_, h3, _⟩ <;> omega
      rw [Int.toNat_zero, offs_zero, List.append_nil] at hbl
      refine .inr ⟨hn0, by rw [← hbl]; omega, a3, c3, dn, ?_, by rw [hdl]; exact hown, hbl, by rw [hN]; exact hdn, ?_, hf8⟩
      · rw [hdl, dec_bool (b := true) (by simp)]
      · rcases hst with ⟨rfl, _⟩ | ⟨_, _, h3, h4⟩
        · simp
        · omega
    · have hneg : m < 0 := by omega
      rcases hst with ⟨rfl, rfl, rfl, rfl, rfl⟩ | ⟨h3, _⟩
      · refine .inl ⟨fun hh => by omega, ?_⟩
        have : l3 = 0 := by simpa using hdl.symm
        subst this
        rw [dec_bool (b := false) (by simp [hm])]
      · omega

end Go.Proofs
end

section
open Go Go.Vc
namespace Go.Proofs

theorem piecesV_one (l : List Pc) : ∀ u ∈ piecesV l, Value.oneCell' u = true := by
  intro u hu
  simp only [piecesV, List.mem_flatten, List.mem_map] at hu
  obtain ⟨r, ⟨p, _, rfl⟩, hu⟩ := hu
  simp only [pcV, List.mem_cons, List.not_mem_nil, or_false] at hu
  rcases hu with rfl | rfl <;> rfl

theorem clonep_ok {H : Heap} {a : Option Addr} {len cap : Nat} {l : List Pc} (h : Pcs H a len l) (hl : len ≤ 1000000) : Does Try.prog 48 [.slice a len cap] H fun v H' =>
    ∃ a' c', v = .slice a' len c' ∧ Own H' 2 a' len c' (piecesV l) ∧ Ext [] H H' ∧ (∀ k, k ∈ blkOf a' → H.size ≤ k) := by
  refine Fn_of_vc Try.mixed (vc_clonep _ _ _ _ _) ?_
  refine ⟨fun h0 => ?_, fun h0 => ?_⟩
  · subst h0
    have h1 := (h.row 0)
    have h2 := h1.2
    simp only at h2
    have h3 := h1.1
    rw [h2] at h3
    have : len = 0 := by simp at h3; omega
    subst this
    rw [h2]
    exact ⟨none, 0, rfl, Own.nil _ _, Ext.refl _ _, fun k hk => by cases hk⟩
  · intro b H2 hn
    have hx := hn.ext
    have ho : Own H2 2 (some ⟨b, 0, none⟩) 0 0 [] := ⟨rfl, Nat.le_refl _, by unfold maxLen; omega, .inr ⟨b, [], rfl, hn.blk, rfl⟩⟩
    refine ⟨[], piecesV l, ho.row 0 0, (h.row cap).ext hx (by simp), piecesV_one l, by omega, fun hle => ho.room (n := len) hle, ?_⟩
    intro a5 c6 H7 happ
    obtain ⟨h1, h2, h3⟩ := happ.own ho (ho.row 0 0) (h.row cap).1 rfl
    simp only [Nat.zero_add, List.nil_append] at h1 ⊢
    have hb := hn.eq
    refine ⟨a5, c6, rfl, h1, hx.trans' h2 (fun i hi => ?_), fun k hk => ?_⟩
    · simp only [blkOf, List.mem_singleton] at hi; omega
    · rcases h3 k hk with h4 | h4
      · simp only [blkOf, List.mem_singleton] at h4; omega
      · have := hn.size; omega

/-- The last piece of a row of one's own. -/
theorem Own.last {H : Heap} {a : Option Addr} {n c : Nat} {l0 : List Pc} {q : Pc} (h : Own H 2 a n c (piecesV (l0 ++ [q]))) :
    ∃ b, a = some ⟨b, 0, none⟩ ∧ hcell H b (0 + Int.toNat ((n : Int) - 1) * 2) = some (.int .i64 q.s) ∧ hcell H b ((0 + Int.toNat ((n : Int) - 1) * 2) + 1) = some (.int .i64 q.c) ∧
      Cells H b ((0 + Int.toNat ((n : Int) - 1) * 2) + 1) 1 ∧
      ∀ x H', Puts H b ((0 + Int.toNat ((n : Int) - 1) * 2) + 1) [.int .i64 x] H' → Own H' 2 a n c (piecesV (l0 ++ [⟨q.s, x⟩])) ∧ Ext (blkOf a) H H' := by
  obtain ⟨o1, o2, o3, o4⟩ := h
  have hlen : n = l0.length + 1 := by
    rw [piecesV_length] at o1
    simp at o1
    omega
  have e1 : Int.toNat ((n : Int) - 1) = l0.length := by omega
  rw [e1]
  rcases o4 with ⟨rfl, rfl⟩ | ⟨b, tail, rfl, hb, hbl⟩
  · omega
  have hv : piecesV (l0 ++ [q]) ++ tail = piecesV l0 ++ (.int .i64 q.s :: .int .i64 q.c :: tail) := by
    rw [piecesV_append]
    simp [piecesV, pcV]
  rw [hv] at hb hbl
  have hl0 := piecesV_length l0
  have hin : 0 + l0.length * 2 + 1 + 1 ≤ (piecesV l0 ++ (.int .i64 q.s :: .int .i64 q.c :: tail)).length := by
    simp only [List.length_append, List.length_cons]; omega
  refine ⟨b, rfl, ?_, ?_, hb.cells 1 _ hin, ?_⟩
  · rw [hb.cell, List.getElem?_append_right (by omega), show 0 + l0.length * 2 - (piecesV l0).length = 0 by omega]
    rfl
  · rw [hb.cell, List.getElem?_append_right (by omega), show 0 + l0.length * 2 + 1 - (piecesV l0).length = 1 by omega]
    rfl
  · intro x H' hp
    have hb2 := hp.blk hb hin
    have he : Ext (blkOf (some ⟨b, 0, none⟩)) H H' := hp.ext
    refine ⟨⟨?_, o2, o3, .inr ⟨b, tail, rfl, ?_, ?_⟩⟩, he⟩
    · rw [piecesV_length]; simp; omega
    · rw [splice_one _ _ _ (by omega), List.set_append_right _ _ (by omega), show 0 + l0.length * 2 + 1 - (piecesV l0).length = 1 by omega] at hb2
      have : piecesV (l0 ++ [⟨q.s, x⟩]) ++ tail = piecesV l0 ++ (.int .i64 q.s :: .int .i64 x :: tail) := by
        rw [piecesV_append]
        simp [piecesV, pcV]
      rw [this]
      exact hb2
    · rw [← hbl]
      simp only [List.length_append, piecesV_length, List.length_cons, List.length_nil]
      omega

/-- A slice of numbers. -/
structure Ints (H : Heap) (a : Option Addr) (len : Nat) (xs : List Int) : Prop where
  leng : xs.length = len
  row : ∀ c, SRow H 1 len (.slice a len c) (intsV xs)

theorem Ints.ext {M : List Nat} {H H' : Heap} {a : Option Addr} {len : Nat} {l : List Int} (h : Ints H a len l) (he : Ext M H H') (hm : ∀ k, k ∈ blkOf a → k ∉ M) : Ints H' a len l :=
  ⟨h.leng, fun c => (h.row c).ext he hm⟩

theorem Ints.get {H : Heap} {a : Option Addr} {len : Nat} {l : List Int} (h : Ints H a len l) (i : Nat) (p : Int) (hp : l[i]? = some p) : ∃ b o, a = some ⟨b, o, none⟩ ∧ hcell H b (o + i) = some (.int .i64 p) :=
  (h.row 0).get (by simp [intsV, hp])

theorem Own.ints {H : Heap} {a : Option Addr} {len cap : Nat} {l : List Int} (h : Own H 1 a len cap (intsV l)) : Ints H a len l :=
  ⟨by have := h.1; simp [intsV] at this; omega, fun c => h.row len c⟩

def BlkBd (B : Int) (rs : List Pc) : Prop := ∀ q ∈ rs, 0 ≤ q.s ∧ 1 ≤ q.c ∧ q.s + q.c ≤ B + 1

theorem pushB_bd {B : Int} {rs : List Pc} {b : Int} (h : BlkBd B rs) (h0 : 0 ≤ b) (h1 : b ≤ B) : BlkBd B (pushB rs b) := by
  intro p hp
  cases rs with
  | nil =>
    simp only [pushB, List.mem_singleton] at hp
    subst hp
    exact ⟨h0, by simp, by simp only; omega⟩
  | cons q r =>
    simp only [pushB] at hp
    have hq := h q (by simp)
    split at hp
    · rcases List.mem_cons.1 hp with rfl | hp
      · exact ⟨hq.1, by simp only; omega, by simp only; omega⟩
      · exact h p (by simp [hp])
    · rcases List.mem_cons.1 hp with rfl | hp
      · exact ⟨h0, by simp, by simp only; omega⟩
      · exact h p hp

theorem pushB_length (rs : List Pc) (b : Int) : (pushB rs b).length ≤ rs.length + 1 := by
  unfold pushB
  split
  · simp
  · split <;> simp

theorem take_snoc {α : Type} {l : List α} {j : Nat} {x : α} (h : l[j]? = some x) : l.take (j + 1) = l.take j ++ [x] := by
  rw [List.take_add_one, h]; rfl

theorem pieces_ok {H : Heap} {a : Option Addr} {len cap : Nat} {xs : List Int} (h : Ints H a len xs) (hl : len ≤ 1000000) (hb : ∀ x ∈ xs, 0 ≤ x ∧ x ≤ 1000000000000) : Does Try.prog 46 [.slice a len cap] H fun v H' =>
    ∃ a' c', v = .slice a' (piecesF xs).length c' ∧ Own H' 2 a' (piecesF xs).length c' (piecesV (piecesF xs)) ∧ Ext [] H H' ∧ (∀ k, k ∈ blkOf a' → H.size ≤ k) := by
  refine Fn_of_vc Try.mixed (vc_pieces _ _ _ _ _) ?_
  have hlen := h.leng
  refine ⟨fun a' n c' i H' => ∃ j : Nat, i = j ∧ j ≤ len ∧ n ≤ j ∧ Ext [] H H' ∧ (∀ k, k ∈ blkOf a' → H.size ≤ k) ∧ ∃ rs, rs = (xs.take j).foldl pushB [] ∧ rs.length = n ∧ Own H' 2 a' n c' (piecesV rs.reverse) ∧ BlkBd 1000000000000 rs,
    fun _ _ _ i _ => len - i.toNat, ⟨0, rfl, Nat.zero_le _, Nat.le_refl _, Ext.refl _ _, fun k hk => (by cases hk), [], rfl, rfl, Own.nil _ _, by intro q hq; cases hq⟩, ?_⟩
  rintro a3 l4 c5 _ H7 ⟨j, rfl, hj, hlj, hx7, hf7, rs, hrs, hrl, hown, hbd⟩
  refine ⟨fun h2 => ?_, fun h2 => ?_⟩
  · obtain ⟨x, hxj⟩ : ∃ x, xs[j]? = some x := ⟨_, List.getElem?_eq_getElem (by omega)⟩
    obtain ⟨bx, ox, rfl, cx⟩ := h.get j x hxj
    have cx7 := hcell_ext cx hx7 (by simp)
    have hxb := hb x (List.mem_of_getElem? hxj)
    have hnext : (xs.take (j + 1)).foldl pushB [] = pushB rs x := by rw [take_snoc hxj, List.foldl_append, ← hrs]; rfl
    have hbd' := pushB_bd hbd hxb.1 hxb.2
    have hpl := pushB_length rs x
    -- the way of an append
    have app : pushB rs x = ⟨x, 1⟩ :: rs → ∀ b36 H37, New H7 b36 [(.int .i64 x), (.int .i64 1)] 73 H37 → (
                      ∃ old38 new39 : List Value, SRow H37 2 l4 (.slice a3 l4 c5) old38 ∧ SRow H37 2 1 (.slice (some (⟨b36, 0, none⟩ : Addr)) 1 1) new39 ∧ (∀ u ∈ new39, Value.oneCell' u = true) ∧ (l4 + 1) * 16 ≤ 140737488355328 ∧ (l4 + 1 ≤ c5 → roomOf H37 a3 (l4 * 2) (1 * 2)) ∧ ∀ a40 : Option Addr, ∀ c41 : Nat, ∀ H42 : Heap, App H37 2 73 [(.int .i64 0), (.int .i64 0)] a3 l4 c5 old38 new39 1 a40 c41 H42 → (
                        (In64 ((j : Int) + 1)) ∧
                        (∃ j' : Nat, (j : Int) + 1 = j' ∧ j' ≤ len ∧ l4 + 1 ≤ j' ∧ Ext [] H H42 ∧ (∀ k, k ∈ blkOf a40 → H.size ≤ k) ∧ ∃ rs, rs = (xs.take j').foldl pushB [] ∧ rs.length = l4 + 1 ∧ Own H42 2 a40 (l4 + 1) c41 (piecesV rs.reverse) ∧ BlkBd 1000000000000 rs) ∧ len - ((j : Int) + 1).toNat < len - (j : Int).toNat)) := by
      intro he
      refine append_one hown rfl (by intro u hu; simp only [List.mem_cons, List.not_mem_nil, or_false] at hu; rcases hu with rfl | rfl <;> rfl) rfl (by omega) ?_
      intro a' c' H' ho' hx' hf'
      refine ⟨⟨by omega, by omega⟩, ⟨j + 1, by omega, by omega, by omega, hx7.trans' hx' (fun i hi => .inl (hf7 i hi)), fun k hk => ?_, pushB rs x, hnext.symm, by rw [he]; simp [hrl], ?_, hbd'⟩, by omega⟩
      · rcases hf' k hk with h3 | h3
        · exact hf7 k h3
        · have := hx7.size; omega
      · rw [he, List.reverse_cons, piecesV_append]
        exact ho'
    refine ⟨fun h3 => ?_, fun h3 => ?_⟩
    · obtain ⟨q, r, rfl⟩ : ∃ q r, rs = q :: r := by
        cases rs with
        | nil => simp only [List.length_nil] at hrl; omega
        | cons q r => exact ⟨q, r, rfl⟩
      rw [List.reverse_cons] at hown
      obtain ⟨b, rfl, k0, k1, kc, kp⟩ := Own.last hown
      have hq := hbd q (by simp)
      refine ⟨⟨by omega, by omega⟩, by omega, by omega, b, 0, rfl, q.s, k0, ⟨by omega, by omega⟩, by omega, by omega, b, 0, rfl, q.c, k1, ⟨by omega, by omega⟩, by omega, by omega, bx, ox, rfl, x, cx7, fun h4 => ?_, fun h4 => ?_⟩
      · refine ⟨⟨by omega, by omega⟩, by omega, by omega, b, 0, rfl, q.c, k1, ⟨by omega, by omega⟩, by omega, by omega, b, 0, rfl, kc, fun H22 hp => ?_⟩
        obtain ⟨ho', hx'⟩ := kp _ _ hp
        have he : pushB (q :: r) x = ⟨q.s, q.c + 1⟩ :: r := by simp only [pushB]; rw [if_pos h4]
        refine ⟨⟨by omega, by omega⟩, ⟨j + 1, by omega, by omega, by omega, hx7.trans' hx' (fun i hi => .inl (hf7 i hi)), hf7, pushB (q :: r) x, hnext.symm, by rw [he]; simpa using hrl, ?_, hbd'⟩, by dsimp only; omega⟩
        rw [he, List.reverse_cons]
        exact ho'
      · refine ⟨by omega, by omega, bx, ox, rfl, x, cx7, ?_⟩
        exact app (by simp only [pushB]; rw [if_neg h4])
    · have : rs = [] := by
        cases rs with
        | nil => rfl
        | cons q r => simp only [List.length_cons] at hrl; omega
      subst this
      exact ⟨by omega, by omega, bx, ox, rfl, x, cx7, app rfl⟩
  · have ej : j = len := by omega
    subst ej
    rw [List.take_of_length_le (by omega)] at hrs
    have e : piecesF xs = rs.reverse := by rw [hrs]; rfl
    rw [e, List.length_reverse, hrl]
    exact ⟨_, _, rfl, hown, hx7, hf7⟩

end Go.Proofs
end

