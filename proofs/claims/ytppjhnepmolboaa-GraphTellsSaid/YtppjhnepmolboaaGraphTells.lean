/-
  The law GraphTells is true and changes nothing that was there, whatever the input. No condition.
-/
import Derived.Test.YtppjhnepmolboaaProg
import Derived.Test.YtppjhnepmolboaaVd
import Derived.Test.YtppjhnepmolboaaGrRef
import Derived.Test.YtppjhnepmolboaaRows
import Derived.WalkKit
import Derived.ProofKit
import Derived.OpenShut
import Derived.ShutString
import Derived.ChangeOld
import Derived.Below
import Derived.SizedLaws

section
open Go Go.Vc
namespace Go.Proofs
set_option maxRecDepth 100000
/-- (*pentimento/pentimentoref1.Writer).u -/
theorem vc_put1 (pb0 : Nat) (x1 : Int) (x2 : Int) (H : Heap) (R : Value → Heap → Prop) : Walk Try.prog 96 [] [(.pointer (some (⟨pb0, 0, none⟩ : Addr))), (.int .u64 x1), (.int .i64 x2)] H R = (
  (In64 (x2 - 1)) ∧
  ∃ I1 : Int → Heap → Prop, ∃ μ2 : Int → Heap → Nat, (I1 (x2 - 1) H) ∧
  ∀ n3 : Int, ∀ H4 : Heap, I1 n3 H4 → (
    ((((0 : Int) ≤ n3) → (
          ∃ b5 o6 : Nat, (some (⟨pb0, 0, none⟩ : Addr)) = some (⟨b5, o6, none⟩ : Addr) ∧ (
            ∃ a7 : Option Addr, ∃ l8 : Nat, ∃ c9 : Nat, hcell H4 b5 o6 = some (.slice a7 l8 c9) ∧ (
              (In64 (8 * n3)) ∧
              ∀ q10 : Int, q10 = IntKind.wrap .u64 (8 * n3) → (
                ((0 : Int) ≤ q10) ∧
                ∀ q11 : Int, q11 = Int.fdiv x1 (2 ^ (min (Int.toNat q10) (IntKind.bits .u64))) → (
                  ∀ q12 : Int, q12 = IntKind.wrap .u8 q11 → (
                    ∀ b13 : Nat, ∀ H14 : Heap, New H4 b13 [(.int .u8 q12)] 5 H14 → (
                      ∃ old15 new16 : List Value, SRow H14 1 l8 (.slice a7 l8 c9) old15 ∧ SRow H14 1 1 (.slice (some (⟨b13, 0, none⟩ : Addr)) 1 1) new16 ∧ (∀ u ∈ new16, Value.oneCell' u = true) ∧ (l8 + 1) * 1 ≤ 140737488355328 ∧ (l8 + 1 ≤ c9 → roomOf H14 a7 (l8 * 1) (1 * 1)) ∧ ∀ a17 : Option Addr, ∀ c18 : Nat, ∀ H19 : Heap, App H14 1 5 [(.int .u8 0)] a7 l8 c9 old15 new16 1 a17 c18 H19 → (
                        ∃ b20 o21 : Nat, (some (⟨pb0, 0, none⟩ : Addr)) = some (⟨b20, o21, none⟩ : Addr) ∧ (
                          Cells H19 b20 o21 1 ∧ ∀ H22 : Heap, Puts H19 b20 o21 [(.slice a17 (l8 + 1) c18)] H22 → (
                            (In64 (n3 - 1)) ∧
                            (I1 (n3 - 1) H22) ∧ μ2 (n3 - 1) H22 < μ2 n3 H4))))))))))) ∧ (¬ ((0 : Int) ≤ n3) → (
          R (.tuple #[]) H4))))) := by kernel_rfl


/-- (*pentimento/pentimentoref1.Writer).U16 -/
theorem vc_w1u16 (pb0 : Nat) (x1 : Int) (H : Heap) (R : Value → Heap → Prop) : Walk Try.prog 81 [] [(.pointer (some (⟨pb0, 0, none⟩ : Addr))), (.int .i64 x1)] H R = (
  ∀ q1 : Int, q1 = IntKind.wrap .u64 x1 → (
    Does Try.prog 96 [(.pointer (some (⟨pb0, 0, none⟩ : Addr))), (.int .u64 q1), (.int .i64 2)] H fun v2 H3 => v2 = (.tuple #[]) ∧ (
      R (.tuple #[]) H3))) := by kernel_rfl


/-- (*pentimento/pentimentoref1.Writer).U32 -/
theorem vc_w1u32 (pb0 : Nat) (x1 : Int) (H : Heap) (R : Value → Heap → Prop) : Walk Try.prog 82 [] [(.pointer (some (⟨pb0, 0, none⟩ : Addr))), (.int .i64 x1)] H R = (
  ∀ q1 : Int, q1 = IntKind.wrap .u64 x1 → (
    Does Try.prog 96 [(.pointer (some (⟨pb0, 0, none⟩ : Addr))), (.int .u64 q1), (.int .i64 4)] H fun v2 H3 => v2 = (.tuple #[]) ∧ (
      R (.tuple #[]) H3))) := by kernel_rfl


/-- (*pentimento/pentimentoref1.Writer).U8 -/
theorem vc_w1u8 (pb0 : Nat) (x1 : Int) (H : Heap) (R : Value → Heap → Prop) : Walk Try.prog 83 [] [(.pointer (some (⟨pb0, 0, none⟩ : Addr))), (.int .i64 x1)] H R = (
  ∀ q1 : Int, q1 = IntKind.wrap .u64 x1 → (
    Does Try.prog 96 [(.pointer (some (⟨pb0, 0, none⟩ : Addr))), (.int .u64 q1), (.int .i64 1)] H fun v2 H3 => v2 = (.tuple #[]) ∧ (
      R (.tuple #[]) H3))) := by kernel_rfl


/-- pentimento/pentimentoref9.LayGraph -/
theorem vc_laygraph (x0 : Option Addr) (x0l : Nat) (x0c : Nat) (H : Heap) (R : Value → Heap → Prop) : Walk Try.prog 39 [] [(.slice x0 x0l x0c)] H R = (
  Does Try.prog 40 [(.slice x0 x0l x0c)] H fun v1 H2 => ∃ t3 : Bool, v1 = (.bool t3) ∧ (
    (((t3 = false) → (
          R (.tuple #[(.slice none 0 0), (.int .i64 1)]) H2)) ∧ (¬ (t3 = false) → (
          ∀ b4 : Nat, ∀ H5 : Heap, New H2 b4 [(.slice none 0 0)] 92 H5 → (
            Does Try.prog 81 [(.pointer (some (⟨b4, 0, none⟩ : Addr))), (.int .i64 (x0l : Int))] H5 fun v6 H7 => v6 = (.tuple #[]) ∧ (
              ∃ I8 : Int → Heap → Prop, ∃ μ9 : Int → Heap → Nat, (I8 0 H7) ∧
              ∀ n10 : Int, ∀ H11 : Heap, I8 n10 H11 → (
                ((((n10 : Int) < (x0l : Int)) → (
                      (0 : Int) ≤ n10 ∧ (n10 : Int) < (x0l : Int) ∧ ∃ b12 o13 : Nat, x0 = some (⟨b12, o13, none⟩ : Addr) ∧ (
                        ∃ n14 : Int, hcell H11 b12 (o13 + (Int.toNat n10) * 4) = some (.int .i64 n14) ∧ (
                          Does Try.prog 82 [(.pointer (some (⟨b4, 0, none⟩ : Addr))), (.int .i64 n14)] H11 fun v15 H16 => v15 = (.tuple #[]) ∧ (
                            (0 : Int) ≤ n10 ∧ (n10 : Int) < (x0l : Int) ∧ ∃ b17 o18 : Nat, x0 = some (⟨b17, o18, none⟩ : Addr) ∧ (
                              ∃ n19 : Int, hcell H16 b17 ((o18 + (Int.toNat n10) * 4) + 1) = some (.int .i64 n19) ∧ (
                                Does Try.prog 82 [(.pointer (some (⟨b4, 0, none⟩ : Addr))), (.int .i64 n19)] H16 fun v20 H21 => v20 = (.tuple #[]) ∧ (
                                  (0 : Int) ≤ n10 ∧ (n10 : Int) < (x0l : Int) ∧ ∃ b22 o23 : Nat, x0 = some (⟨b22, o23, none⟩ : Addr) ∧ (
                                    ∃ n24 : Int, hcell H21 b22 ((o23 + (Int.toNat n10) * 4) + 2) = some (.int .i64 n24) ∧ (
                                      Does Try.prog 82 [(.pointer (some (⟨b4, 0, none⟩ : Addr))), (.int .i64 n24)] H21 fun v25 H26 => v25 = (.tuple #[]) ∧ (
                                        (0 : Int) ≤ n10 ∧ (n10 : Int) < (x0l : Int) ∧ ∃ b27 o28 : Nat, x0 = some (⟨b27, o28, none⟩ : Addr) ∧ (
                                          ∃ t29 : Bool, hcell H26 b27 ((o28 + (Int.toNat n10) * 4) + 3) = some (.bool t29) ∧ (
                                            ((t29 = true → (
                                                  Does Try.prog 83 [(.pointer (some (⟨b4, 0, none⟩ : Addr))), (.int .i64 1)] H26 fun v30 H31 => v30 = (.tuple #[]) ∧ (
                                                    (In64 (n10 + 1)) ∧
                                                    (I8 (n10 + 1) H31) ∧ μ9 (n10 + 1) H31 < μ9 n10 H11))) ∧ (t29 = false → (
                                                  Does Try.prog 83 [(.pointer (some (⟨b4, 0, none⟩ : Addr))), (.int .i64 0)] H26 fun v32 H33 => v32 = (.tuple #[]) ∧ (
                                                    (In64 (n10 + 1)) ∧
                                                    (I8 (n10 + 1) H33) ∧ μ9 (n10 + 1) H33 < μ9 n10 H11))))))))))))))))) ∧ (¬ ((n10 : Int) < (x0l : Int)) → (
                      ∃ b34 o35 : Nat, (some (⟨b4, 0, none⟩ : Addr)) = some (⟨b34, o35, none⟩ : Addr) ∧ (
                        ∃ a36 : Option Addr, ∃ l37 : Nat, ∃ c38 : Nat, hcell H11 b34 o35 = some (.slice a36 l37 c38) ∧ (
                          R (.tuple #[(.slice a36 l37 c38), (.int .i64 0)]) H11))))))))))))) := by kernel_rfl


/-- (*pentimento/pentimentoref1.Reader).Raw -/
theorem vc_raw1 (pb0 : Nat) (x1 : Int) (H : Heap) (R : Value → Heap → Prop) : Walk Try.prog 112 [] [(.pointer (some (⟨pb0, 0, none⟩ : Addr))), (.int .i64 x1)] H R = (
  ∃ b1 o2 : Nat, (some (⟨pb0, 0, none⟩ : Addr)) = some (⟨b1, o2, none⟩ : Addr) ∧ (
    ∃ t3 : Bool, hcell H b1 (o2 + 1) = some (.bool t3) ∧ (
      ((t3 = true → (
            ∃ b4 o5 : Nat, (some (⟨pb0, 0, none⟩ : Addr)) = some (⟨b4, o5, none⟩ : Addr) ∧ (
              Cells H b4 (o5 + 1) 1 ∧ ∀ H6 : Heap, Puts H b4 (o5 + 1) [(.bool true)] H6 → (
                ∃ b7 o8 : Nat, (some (⟨pb0, 0, none⟩ : Addr)) = some (⟨b7, o8, none⟩ : Addr) ∧ (
                  Cells H6 b7 o8 1 ∧ ∀ H9 : Heap, Puts H6 b7 o8 [(.slice none 0 0)] H9 → (
                    R (.slice none 0 0) H9)))))) ∧ (t3 = false → (
            ((((x1 : Int) < 0) → (
                  ∃ b10 o11 : Nat, (some (⟨pb0, 0, none⟩ : Addr)) = some (⟨b10, o11, none⟩ : Addr) ∧ (
                    Cells H b10 (o11 + 1) 1 ∧ ∀ H12 : Heap, Puts H b10 (o11 + 1) [(.bool true)] H12 → (
                      ∃ b13 o14 : Nat, (some (⟨pb0, 0, none⟩ : Addr)) = some (⟨b13, o14, none⟩ : Addr) ∧ (
                        Cells H12 b13 o14 1 ∧ ∀ H15 : Heap, Puts H12 b13 o14 [(.slice none 0 0)] H15 → (
                          R (.slice none 0 0) H15)))))) ∧ (¬ ((x1 : Int) < 0) → (
                  ∃ b16 o17 : Nat, (some (⟨pb0, 0, none⟩ : Addr)) = some (⟨b16, o17, none⟩ : Addr) ∧ (
                    ∃ a18 : Option Addr, ∃ l19 : Nat, ∃ c20 : Nat, hcell H b16 o17 = some (.slice a18 l19 c20) ∧ (
                      (((((l19 : Int) : Int) < x1) → (
                            ∃ b21 o22 : Nat, (some (⟨pb0, 0, none⟩ : Addr)) = some (⟨b21, o22, none⟩ : Addr) ∧ (
                              Cells H b21 (o22 + 1) 1 ∧ ∀ H23 : Heap, Puts H b21 (o22 + 1) [(.bool true)] H23 → (
                                ∃ b24 o25 : Nat, (some (⟨pb0, 0, none⟩ : Addr)) = some (⟨b24, o25, none⟩ : Addr) ∧ (
                                  Cells H23 b24 o25 1 ∧ ∀ H26 : Heap, Puts H23 b24 o25 [(.slice none 0 0)] H26 → (
                                    R (.slice none 0 0) H26)))))) ∧ (¬ (((l19 : Int) : Int) < x1) → (
                            ∀ b27 : Nat, ∀ H28 : Heap, New H b27 [] 5 H28 → (
                              ∃ b29 o30 : Nat, (some (⟨pb0, 0, none⟩ : Addr)) = some (⟨b29, o30, none⟩ : Addr) ∧ (
                                ∃ a31 : Option Addr, ∃ l32 : Nat, ∃ c33 : Nat, hcell H28 b29 o30 = some (.slice a31 l32 c33) ∧ (
                                  (0 : Int) ≤ x1 ∧ (x1 : Int) ≤ (c33 : Int) ∧ (
                                    ∃ old34 new35 : List Value, SRow H28 1 0 (.slice (some (⟨b27, 0, none⟩ : Addr)) 0 0) old34 ∧ SRow H28 1 (Int.toNat x1) (.slice a31 (Int.toNat x1) c33) new35 ∧ (∀ u ∈ new35, Value.oneCell' u = true) ∧ (0 + (Int.toNat x1)) * 1 ≤ 140737488355328 ∧ (0 + (Int.toNat x1) ≤ 0 → roomOf H28 (some (⟨b27, 0, none⟩ : Addr)) (0 * 1) ((Int.toNat x1) * 1)) ∧ ∀ a36 : Option Addr, ∀ c37 : Nat, ∀ H38 : Heap, App H28 1 5 [(.int .u8 0)] (some (⟨b27, 0, none⟩ : Addr)) 0 0 old34 new35 (Int.toNat x1) a36 c37 H38 → (
                                      ∃ b39 o40 : Nat, (some (⟨pb0, 0, none⟩ : Addr)) = some (⟨b39, o40, none⟩ : Addr) ∧ (
                                        ∃ a41 : Option Addr, ∃ l42 : Nat, ∃ c43 : Nat, hcell H38 b39 o40 = some (.slice a41 l42 c43) ∧ (
                                          (0 : Int) ≤ x1 ∧ (x1 : Int) ≤ (l42 : Int) ∧ ∀ a44 : Option Addr, a44 = (if c43 = (Int.toNat x1) then a41 else Option.map (fun x => Addr.add x ((Int.toNat x1) * 1)) a41) → (
                                            ∃ b45 o46 : Nat, (some (⟨pb0, 0, none⟩ : Addr)) = some (⟨b45, o46, none⟩ : Addr) ∧ (
                                              Cells H38 b45 o46 1 ∧ ∀ H47 : Heap, Puts H38 b45 o46 [(.slice a44 (l42 - (Int.toNat x1)) (c43 - (Int.toNat x1)))] H47 → (
                                                R (.slice a36 (0 + (Int.toNat x1)) c37) H47)))))))))))))))))))))))) := by kernel_rfl


/-- (*pentimento/pentimentoref1.Reader).u -/
theorem vc_get1 (pb0 : Nat) (x1 : Int) (H : Heap) (R : Value → Heap → Prop) : Walk Try.prog 97 [] [(.pointer (some (⟨pb0, 0, none⟩ : Addr))), (.int .i64 x1)] H R = (
  Does Try.prog 112 [(.pointer (some (⟨pb0, 0, none⟩ : Addr))), (.int .i64 x1)] H fun v1 H2 => ∃ a3 : Option Addr, ∃ l4 : Nat, ∃ c5 : Nat, v1 = (.slice a3 l4 c5) ∧ (
    ∃ I6 : Int → Int → Heap → Prop, ∃ μ7 : Int → Int → Heap → Nat, (I6 0 0 H2) ∧
    ∀ n8 : Int, ∀ n9 : Int, ∀ H10 : Heap, I6 n8 n9 H10 → (
      ((((n9 : Int) < (l4 : Int)) → (
            ((0 : Int) ≤ 8) ∧
            ∀ q11 : Int, q11 = IntKind.wrap .u64 (n8 * 2 ^ (min (Int.toNat 8) (IntKind.bits .u64))) → (
              (0 : Int) ≤ n9 ∧ (n9 : Int) < (l4 : Int) ∧ ∃ b12 o13 : Nat, a3 = some (⟨b12, o13, none⟩ : Addr) ∧ (
                ∃ n14 : Int, hcell H10 b12 (o13 + (Int.toNat n9)) = some (.int .u8 n14) ∧ (
                  ∀ q15 : Int, q15 = IntKind.wrap .u64 n14 → (
                    ∀ q16 : Int, q16 = IntKind.wrap .u64 (q11 + q15) → (
                      (In64 (n9 + 1)) ∧
                      (I6 q16 (n9 + 1) H10) ∧ μ7 q16 (n9 + 1) H10 < μ7 n8 n9 H10))))))) ∧ (¬ ((n9 : Int) < (l4 : Int)) → (
            R (.int .u64 n8) H10)))))) := by kernel_rfl


/-- (*pentimento/pentimentoref1.Reader).U16 -/
theorem vc_r1u16 (pb0 : Nat) (H : Heap) (R : Value → Heap → Prop) : Walk Try.prog 84 [] [(.pointer (some (⟨pb0, 0, none⟩ : Addr)))] H R = (
  Does Try.prog 97 [(.pointer (some (⟨pb0, 0, none⟩ : Addr))), (.int .i64 2)] H fun v1 H2 => ∃ n3 : Int, v1 = (.int .u64 n3) ∧ (
    ∀ q4 : Int, q4 = IntKind.wrap .i64 n3 → (
      R (.int .i64 q4) H2))) := by kernel_rfl


/-- (*pentimento/pentimentoref1.Reader).U32 -/
theorem vc_r1u32 (pb0 : Nat) (H : Heap) (R : Value → Heap → Prop) : Walk Try.prog 85 [] [(.pointer (some (⟨pb0, 0, none⟩ : Addr)))] H R = (
  Does Try.prog 97 [(.pointer (some (⟨pb0, 0, none⟩ : Addr))), (.int .i64 4)] H fun v1 H2 => ∃ n3 : Int, v1 = (.int .u64 n3) ∧ (
    ∀ q4 : Int, q4 = IntKind.wrap .i64 n3 → (
      R (.int .i64 q4) H2))) := by kernel_rfl


/-- (*pentimento/pentimentoref1.Reader).U8 -/
theorem vc_r1u8 (pb0 : Nat) (H : Heap) (R : Value → Heap → Prop) : Walk Try.prog 86 [] [(.pointer (some (⟨pb0, 0, none⟩ : Addr)))] H R = (
  Does Try.prog 97 [(.pointer (some (⟨pb0, 0, none⟩ : Addr))), (.int .i64 1)] H fun v1 H2 => ∃ n3 : Int, v1 = (.int .u64 n3) ∧ (
    ∀ q4 : Int, q4 = IntKind.wrap .i64 n3 → (
      R (.int .i64 q4) H2))) := by kernel_rfl


/-- pentimento/pentimentoref9.ReadGraph -/
theorem vc_readgraph (x0 : Option Addr) (x0l : Nat) (x0c : Nat) (H : Heap) (R : Value → Heap → Prop) : Walk Try.prog 42 [] [(.slice x0 x0l x0c)] H R = (
  ∀ b1 : Nat, ∀ H2 : Heap, New H b1 [(.slice x0 x0l x0c), (.bool false)] 96 H2 → (
    Does Try.prog 84 [(.pointer (some (⟨b1, 0, none⟩ : Addr)))] H2 fun v3 H4 => ∃ n5 : Int, v3 = (.int .i64 n5) ∧ (
      ∃ I6 : Option Addr → Nat → Nat → Int → Heap → Prop, ∃ μ7 : Option Addr → Nat → Nat → Int → Heap → Nat, (I6 none 0 0 n5 H4) ∧
      ∀ a8 : Option Addr, ∀ l9 : Nat, ∀ c10 : Nat, ∀ n11 : Int, ∀ H12 : Heap, I6 a8 l9 c10 n11 H12 → (
        ((((0 : Int) < n11) → (
              ∃ b13 o14 : Nat, (some (⟨b1, 0, none⟩ : Addr)) = some (⟨b13, o14, none⟩ : Addr) ∧ (
                ∃ t15 : Bool, hcell H12 b13 (o14 + 1) = some (.bool t15) ∧ (
                  (((t15 = false) → (
                        Does Try.prog 85 [(.pointer (some (⟨b1, 0, none⟩ : Addr)))] H12 fun v16 H17 => ∃ n18 : Int, v16 = (.int .i64 n18) ∧ (
                          ∀ b19 : Nat, ∀ H20 : Heap, New H17 b19 [(.int .i64 0), (.int .i64 0), (.int .i64 0), (.bool false)] 46 H20 → (
                            Cells H20 b19 0 4 ∧ ∀ H21 : Heap, Puts H20 b19 0 [(.int .i64 n18), (.int .i64 0), (.int .i64 0), (.bool false)] H21 → (
                              Does Try.prog 85 [(.pointer (some (⟨b1, 0, none⟩ : Addr)))] H21 fun v22 H23 => ∃ n24 : Int, v22 = (.int .i64 n24) ∧ (
                                Cells H23 b19 (0 + 1) 1 ∧ ∀ H25 : Heap, Puts H23 b19 (0 + 1) [(.int .i64 n24)] H25 → (
                                  Does Try.prog 85 [(.pointer (some (⟨b1, 0, none⟩ : Addr)))] H25 fun v26 H27 => ∃ n28 : Int, v26 = (.int .i64 n28) ∧ (
                                    Cells H27 b19 (0 + 2) 1 ∧ ∀ H29 : Heap, Puts H27 b19 (0 + 2) [(.int .i64 n28)] H29 → (
                                      Does Try.prog 86 [(.pointer (some (⟨b1, 0, none⟩ : Addr)))] H29 fun v30 H31 => ∃ n32 : Int, v30 = (.int .i64 n32) ∧ (
                                        Cells H31 b19 (0 + 3) 1 ∧ ∀ H33 : Heap, Puts H31 b19 (0 + 3) [(.bool (@decide ((n32 : Int) = 1) (Classical.propDecidable _)))] H33 → (
                                          ∃ n34 : Int, hcell H33 b19 0 = some (.int .i64 n34) ∧ (
                                            ∃ n35 : Int, hcell H33 b19 (0 + 1) = some (.int .i64 n35) ∧ (
                                              ∃ n36 : Int, hcell H33 b19 ((0 + 1) + 1) = some (.int .i64 n36) ∧ (
                                                ∃ t37 : Bool, hcell H33 b19 (((0 + 1) + 1) + 1) = some (.bool t37) ∧ (
                                                  ∀ b38 : Nat, ∀ H39 : Heap, New H33 b38 [(.int .i64 n34), (.int .i64 n35), (.int .i64 n36), (.bool t37)] 46 H39 → (
                                                    ∃ old40 new41 : List Value, SRow H39 4 l9 (.slice a8 l9 c10) old40 ∧ SRow H39 4 1 (.slice (some (⟨b38, 0, none⟩ : Addr)) 1 1) new41 ∧ (∀ u ∈ new41, Value.oneCell' u = true) ∧ (l9 + 1) * 32 ≤ 140737488355328 ∧ (l9 + 1 ≤ c10 → roomOf H39 a8 (l9 * 4) (1 * 4)) ∧ ∀ a42 : Option Addr, ∀ c43 : Nat, ∀ H44 : Heap, App H39 4 46 [(.int .i64 0), (.int .i64 0), (.int .i64 0), (.bool false)] a8 l9 c10 old40 new41 1 a42 c43 H44 → (
                                                      ((((40 : Int) < ((l9 + 1) : Int)) → (
                                                            R (.tuple #[(.slice none 0 0), (.int .i64 2)]) H44)) ∧ (¬ ((40 : Int) < ((l9 + 1) : Int)) → (
                                                            (In64 (n11 - 1)) ∧
                                                            (I6 a42 (l9 + 1) c43 (n11 - 1) H44) ∧ μ7 a42 (l9 + 1) c43 (n11 - 1) H44 < μ7 a8 l9 c10 n11 H12)))))))))))))))))))) ∧ (¬ (t15 = false) → (
                        Does Try.prog 39 [(.slice a8 l9 c10)] H12 fun v45 H46 => ∃ a47 : Option Addr, ∃ l48 : Nat, ∃ c49 : Nat, ∃ n50 : Int, v45 = (.tuple #[(.slice a47 l48 c49), (.int .i64 n50)]) ∧ (
                          ((((n50 : Int) ≠ 0) → (
                                R (.tuple #[(.slice none 0 0), (.int .i64 2)]) H46)) ∧ (¬ ((n50 : Int) ≠ 0) → (
                                ∃ b51 o52 : Nat, (some (⟨b1, 0, none⟩ : Addr)) = some (⟨b51, o52, none⟩ : Addr) ∧ (
                                  ∃ t53 : Bool, hcell H46 b51 (o52 + 1) = some (.bool t53) ∧ (
                                    ((t53 = true → (
                                          R (.tuple #[(.slice none 0 0), (.int .i64 2)]) H46)) ∧ (t53 = false → (
                                          ∃ l54 : List UInt8, SRow H46 1 l48 (.slice a47 l48 c49) (List.map (fun (b : UInt8) => Value.int .u8 b.toNat) l54) ∧ (
                                            ∃ l55 : List UInt8, SRow H46 1 x0l (.slice x0 x0l x0c) (List.map (fun (b : UInt8) => Value.int .u8 b.toNat) l55) ∧ (
                                              (((((ByteArray.mk (List.toArray l54)) : ByteArray) ≠ (ByteArray.mk (List.toArray l55))) → (
                                                    R (.tuple #[(.slice none 0 0), (.int .i64 2)]) H46)) ∧ (¬ (((ByteArray.mk (List.toArray l54)) : ByteArray) ≠ (ByteArray.mk (List.toArray l55))) → (
                                                    R (.tuple #[(.slice a8 l9 c10), (.int .i64 0)]) H46))))))))))))))))))))) ∧ (¬ ((0 : Int) < n11) → (
              Does Try.prog 39 [(.slice a8 l9 c10)] H12 fun v56 H57 => ∃ a58 : Option Addr, ∃ l59 : Nat, ∃ c60 : Nat, ∃ n61 : Int, v56 = (.tuple #[(.slice a58 l59 c60), (.int .i64 n61)]) ∧ (
                ((((n61 : Int) ≠ 0) → (
                      R (.tuple #[(.slice none 0 0), (.int .i64 2)]) H57)) ∧ (¬ ((n61 : Int) ≠ 0) → (
                      ∃ b62 o63 : Nat, (some (⟨b1, 0, none⟩ : Addr)) = some (⟨b62, o63, none⟩ : Addr) ∧ (
                        ∃ t64 : Bool, hcell H57 b62 (o63 + 1) = some (.bool t64) ∧ (
                          ((t64 = true → (
                                R (.tuple #[(.slice none 0 0), (.int .i64 2)]) H57)) ∧ (t64 = false → (
                                ∃ l65 : List UInt8, SRow H57 1 l59 (.slice a58 l59 c60) (List.map (fun (b : UInt8) => Value.int .u8 b.toNat) l65) ∧ (
                                  ∃ l66 : List UInt8, SRow H57 1 x0l (.slice x0 x0l x0c) (List.map (fun (b : UInt8) => Value.int .u8 b.toNat) l66) ∧ (
                                    (((((ByteArray.mk (List.toArray l65)) : ByteArray) ≠ (ByteArray.mk (List.toArray l66))) → (
                                          R (.tuple #[(.slice none 0 0), (.int .i64 2)]) H57)) ∧ (¬ (((ByteArray.mk (List.toArray l65)) : ByteArray) ≠ (ByteArray.mk (List.toArray l66))) → (
                                          R (.tuple #[(.slice a8 l9 c10), (.int .i64 0)]) H57))))))))))))))))))))) := by kernel_rfl


/-- pentimento/pentimentoref9.RightGraph -/
theorem vc_rightgraph (x0 : Option Addr) (x0l : Nat) (x0c : Nat) (H : Heap) (R : Value → Heap → Prop) : Walk Try.prog 40 [(7, [(4, (.pointer none))])] [(.slice x0 x0l x0c)] H R = (
  ∃ I1 : Int → Heap → Prop, ∃ μ2 : Int → Heap → Nat, (I1 0 H) ∧
  ∀ n3 : Int, ∀ H4 : Heap, I1 n3 H4 → (
    ((((n3 : Int) < (x0l : Int)) → (
          (0 : Int) ≤ n3 ∧ (n3 : Int) < (x0l : Int) ∧ ∃ b5 o6 : Nat, x0 = some (⟨b5, o6, none⟩ : Addr) ∧ (
            ∃ n7 : Int, hcell H4 b5 (o6 + (Int.toNat n3) * 4) = some (.int .i64 n7) ∧ (
              ∃ n8 : Int, hcell H4 b5 ((o6 + (Int.toNat n3) * 4) + 1) = some (.int .i64 n8) ∧ (
                ∃ n9 : Int, hcell H4 b5 (((o6 + (Int.toNat n3) * 4) + 1) + 1) = some (.int .i64 n9) ∧ (
                  ∃ t10 : Bool, hcell H4 b5 ((((o6 + (Int.toNat n3) * 4) + 1) + 1) + 1) = some (.bool t10) ∧ (
                    ∀ b11 : Nat, ∀ H12 : Heap, New H4 b11 [(.int .i64 0), (.int .i64 0), (.int .i64 0), (.bool false)] 46 H12 → (
                      Cells H12 b11 0 4 ∧ ∀ H13 : Heap, Puts H12 b11 0 [(.int .i64 n7), (.int .i64 n8), (.int .i64 n9), (.bool t10)] H13 → (
                        ∃ I14 : Option Addr → Heap → Prop, (
                          ∃ n15 : Int, hcell H13 b11 0 = some (.int .i64 n15) ∧ (
                            ((((n15 : Int) < 1) → (
                                  R (.bool false) H13)) ∧ (¬ ((n15 : Int) < 1) → (
                                  ∃ n16 : Int, hcell H13 b11 0 = some (.int .i64 n16) ∧ (
                                    ((((2147483647 : Int) < n16) → (
                                          R (.bool false) H13)) ∧ (¬ ((2147483647 : Int) < n16) → (
                                          ((((0 : Int) < n3) → (
                                                ∃ n17 : Int, hcell H13 b11 0 = some (.int .i64 n17) ∧ (
                                                  (In64 (n3 - 1)) ∧
                                                  (0 : Int) ≤ (n3 - 1) ∧ ((n3 - 1) : Int) < (x0l : Int) ∧ ∃ b18 o19 : Nat, x0 = some (⟨b18, o19, none⟩ : Addr) ∧ (
                                                    ∃ n20 : Int, hcell H13 b18 (o19 + (Int.toNat (n3 - 1)) * 4) = some (.int .i64 n20) ∧ (
                                                      ((((n17 : Int) ≤ n20) → (
                                                            R (.bool false) H13)) ∧ (¬ ((n17 : Int) ≤ n20) → (
                                                            ∃ n21 : Int, hcell H13 b11 (0 + 1) = some (.int .i64 n21) ∧ (
                                                            ((((n21 : Int) = 0) → (
                                                            ∃ n22 : Int, hcell H13 b11 (0 + 2) = some (.int .i64 n22) ∧ (
                                                            ((((n22 : Int) ≠ 0) → (
                                                            R (.bool false) H13)) ∧ (¬ ((n22 : Int) ≠ 0) → (
                                                            ∃ n23 : Int, hcell H13 b11 (0 + 1) = some (.int .i64 n23) ∧ (
                                                            ((((n23 : Int) ≠ 0) → (
                                                            ∃ n24 : Int, hcell H13 b11 (0 + 1) = some (.int .i64 n24) ∧ (
                                                            ∃ n25 : Int, hcell H13 b11 (0 + 2) = some (.int .i64 n25) ∧ (
                                                            ((((n24 : Int) = n25) → (
                                                            R (.bool false) H13)) ∧ (¬ ((n24 : Int) = n25) → (
                                                            I14 (some (⟨b11, 0, none⟩ : Addr)) H13))))))) ∧ (¬ ((n23 : Int) ≠ 0) → (
                                                            I14 (some (⟨b11, 0, none⟩ : Addr)) H13)))))))))) ∧ (¬ ((n21 : Int) = 0) → (
                                                            ∃ n26 : Int, hcell H13 b11 (0 + 1) = some (.int .i64 n26) ∧ (
                                                            ((((n26 : Int) ≠ 0) → (
                                                            ∃ n27 : Int, hcell H13 b11 (0 + 1) = some (.int .i64 n27) ∧ (
                                                            ∃ n28 : Int, hcell H13 b11 (0 + 2) = some (.int .i64 n28) ∧ (
                                                            ((((n27 : Int) = n28) → (
                                                            R (.bool false) H13)) ∧ (¬ ((n27 : Int) = n28) → (
                                                            I14 (some (⟨b11, 0, none⟩ : Addr)) H13))))))) ∧ (¬ ((n26 : Int) ≠ 0) → (
                                                            I14 (some (⟨b11, 0, none⟩ : Addr)) H13)))))))))))))))) ∧ (¬ ((0 : Int) < n3) → (
                                                ∃ n29 : Int, hcell H13 b11 (0 + 1) = some (.int .i64 n29) ∧ (
                                                  ((((n29 : Int) = 0) → (
                                                        ∃ n30 : Int, hcell H13 b11 (0 + 2) = some (.int .i64 n30) ∧ (
                                                          ((((n30 : Int) ≠ 0) → (
                                                            R (.bool false) H13)) ∧ (¬ ((n30 : Int) ≠ 0) → (
                                                            ∃ n31 : Int, hcell H13 b11 (0 + 1) = some (.int .i64 n31) ∧ (
                                                            ((((n31 : Int) ≠ 0) → (
                                                            ∃ n32 : Int, hcell H13 b11 (0 + 1) = some (.int .i64 n32) ∧ (
                                                            ∃ n33 : Int, hcell H13 b11 (0 + 2) = some (.int .i64 n33) ∧ (
                                                            ((((n32 : Int) = n33) → (
                                                            R (.bool false) H13)) ∧ (¬ ((n32 : Int) = n33) → (
                                                            I14 (some (⟨b11, 0, none⟩ : Addr)) H13))))))) ∧ (¬ ((n31 : Int) ≠ 0) → (
                                                            I14 (some (⟨b11, 0, none⟩ : Addr)) H13)))))))))) ∧ (¬ ((n29 : Int) = 0) → (
                                                        ∃ n34 : Int, hcell H13 b11 (0 + 1) = some (.int .i64 n34) ∧ (
                                                          ((((n34 : Int) ≠ 0) → (
                                                            ∃ n35 : Int, hcell H13 b11 (0 + 1) = some (.int .i64 n35) ∧ (
                                                            ∃ n36 : Int, hcell H13 b11 (0 + 2) = some (.int .i64 n36) ∧ (
                                                            ((((n35 : Int) = n36) → (
                                                            R (.bool false) H13)) ∧ (¬ ((n35 : Int) = n36) → (
                                                            I14 (some (⟨b11, 0, none⟩ : Addr)) H13))))))) ∧ (¬ ((n34 : Int) ≠ 0) → (
                                                            I14 (some (⟨b11, 0, none⟩ : Addr)) H13)))))))))))))))))))) ∧
                        ∀ p37 : Option Addr, ∀ H38 : Heap, I14 p37 H38 → (
                          ∃ I39 : Int → Heap → Prop, ∃ μ40 : Int → Heap → Nat, (I39 0 H38) ∧
                          ∀ n41 : Int, ∀ H42 : Heap, I39 n41 H42 → (
                            ((((n41 : Int) < 2) → (
                                  withA p37 (fun (b43 : Nat) (o44 : Nat) => (
                                      ∃ n45 : Int, hcell H42 b43 (o44 + 1) = some (.int .i64 n45) ∧ (
                                        withA p37 (fun (b46 : Nat) (o47 : Nat) => (
                                            ∃ n48 : Int, hcell H42 b46 (o47 + 2) = some (.int .i64 n48) ∧ (
                                              (0 : Int) ≤ n41 ∧ (n41 : Int) < (2 : Nat) ∧ (n41 : Int) < (2 : Nat) ∧ ∀ q49 : Int, q49 = (List.getD [n45, n48] (Int.toNat n41) 0) → (
                                                (0 : Int) ≤ n3 ∧ (n3 : Int) ≤ (x0c : Int) ∧ (
                                                  Does Try.prog 44 [(.slice x0 (Int.toNat n3) x0c), (.int .i64 q49)] H42 fun v50 H51 => ∃ n52 : Int, ∃ n53 : Int, ∃ n54 : Int, ∃ t55 : Bool, ∃ t56 : Bool, v50 = (.tuple #[(.agg #[(.int .i64 n52), (.int .i64 n53), (.int .i64 n54), (.bool t55)]), (.bool t56)]) ∧ (
                                                    ∀ b57 : Nat, ∀ H58 : Heap, New H51 b57 [(.int .i64 0), (.int .i64 0), (.int .i64 0), (.bool false)] 46 H58 → (
                                                      Cells H58 b57 0 4 ∧ ∀ H59 : Heap, Puts H58 b57 0 [(.int .i64 n52), (.int .i64 n53), (.int .i64 n54), (.bool t55)] H59 → (
                                                        ((((q49 : Int) ≠ 0) → (
                                                            (((t56 = false) → (
                                                            R (.bool false) H59)) ∧ (¬ (t56 = false) → (
                                                            ∃ t60 : Bool, hcell H59 b57 (0 + 3) = some (.bool t60) ∧ (
                                                            (((t60 = false) → (
                                                            R (.bool false) H59)) ∧ (¬ (t60 = false) → (
                                                            (In64 (n41 + 1)) ∧
                                                            (I39 (n41 + 1) H59) ∧ μ40 (n41 + 1) H59 < μ40 n41 H42))))))))) ∧ (¬ ((q49 : Int) ≠ 0) → (
                                                            (In64 (n41 + 1)) ∧
                                                            (I39 (n41 + 1) H59) ∧ μ40 (n41 + 1) H59 < μ40 n41 H42)))))))))))))))) ∧ (¬ ((n41 : Int) < 2) → (
                                  withA p37 (fun (b61 : Nat) (o62 : Nat) => (
                                      ∃ n63 : Int, hcell H42 b61 o62 = some (.int .i64 n63) ∧ (
                                        Does Try.prog 45 [(.slice x0 x0l x0c), (.int .i64 n63)] H42 fun v64 H65 => ∃ a66 : Option Addr, ∃ l67 : Nat, ∃ c68 : Nat, v64 = (.slice a66 l67 c68) ∧ (
                                          ((((12 : Int) < (l67 : Int)) → (
                                                R (.bool false) H65)) ∧ (¬ ((12 : Int) < (l67 : Int)) → (
                                                (In64 (n3 + 1)) ∧
                                                (I1 (n3 + 1) H65) ∧ μ2 (n3 + 1) H65 < μ2 n3 H4))))))))))))))))))))) ∧ (¬ ((n3 : Int) < (x0l : Int)) → (
          R (.bool (@decide (((x0l : Int) : Int) ≤ 40) (Classical.propDecidable _))) H4))))) := by kernel_rfl


/-- pentimento/pentimentohand.Few -/
theorem vc_few (x0 : Option Addr) (x0l : Nat) (x0c : Nat) (x1 : Int) (H : Heap) (R : Value → Heap → Prop) : Walk Try.prog 41 [] [(.slice x0 x0l x0c), (.int .i64 x1)] H R = (
  ∀ b1 : Nat, ∀ H2 : Heap, New H b1 [] 5 H2 → (
    (0 : Int) ≤ (min (x0l : Int) x1) ∧ ((min (x0l : Int) x1) : Int) ≤ (x0c : Int) ∧ (
      ∃ old3 new4 : List Value, SRow H2 1 0 (.slice (some (⟨b1, 0, none⟩ : Addr)) 0 0) old3 ∧ SRow H2 1 (Int.toNat (min (x0l : Int) x1)) (.slice x0 (Int.toNat (min (x0l : Int) x1)) x0c) new4 ∧ (∀ u ∈ new4, Value.oneCell' u = true) ∧ (0 + (Int.toNat (min (x0l : Int) x1))) * 1 ≤ 140737488355328 ∧ (0 + (Int.toNat (min (x0l : Int) x1)) ≤ 0 → roomOf H2 (some (⟨b1, 0, none⟩ : Addr)) (0 * 1) ((Int.toNat (min (x0l : Int) x1)) * 1)) ∧ ∀ a5 : Option Addr, ∀ c6 : Nat, ∀ H7 : Heap, App H2 1 5 [(.int .u8 0)] (some (⟨b1, 0, none⟩ : Addr)) 0 0 old3 new4 (Int.toNat (min (x0l : Int) x1)) a5 c6 H7 → (
        R (.slice a5 (0 + (Int.toNat (min (x0l : Int) x1))) c6) H7)))) := by kernel_rfl


/-- pentimento/pentimentoref9.SameGraph -/
theorem vc_samegraph (x0 : Option Addr) (x0l : Nat) (x0c : Nat) (x1 : Option Addr) (x1l : Nat) (x1c : Nat) (H : Heap) (R : Value → Heap → Prop) : Walk Try.prog 43 [] [(.slice x0 x0l x0c), (.slice x1 x1l x1c)] H R = (
  (((((x0l : Int) : Int) ≠ (x1l : Int)) → (
        R (.bool false) H)) ∧ (¬ (((x0l : Int) : Int) ≠ (x1l : Int)) → (
        ∃ I1 : Int → Heap → Prop, ∃ μ2 : Int → Heap → Nat, (I1 0 H) ∧
        ∀ n3 : Int, ∀ H4 : Heap, I1 n3 H4 → (
          ((((n3 : Int) < (x0l : Int)) → (
                (0 : Int) ≤ n3 ∧ (n3 : Int) < (x0l : Int) ∧ ∃ b5 o6 : Nat, x0 = some (⟨b5, o6, none⟩ : Addr) ∧ (
                  ∃ n7 : Int, hcell H4 b5 (o6 + (Int.toNat n3) * 4) = some (.int .i64 n7) ∧ (
                    ∃ n8 : Int, hcell H4 b5 ((o6 + (Int.toNat n3) * 4) + 1) = some (.int .i64 n8) ∧ (
                      ∃ n9 : Int, hcell H4 b5 (((o6 + (Int.toNat n3) * 4) + 1) + 1) = some (.int .i64 n9) ∧ (
                        ∃ t10 : Bool, hcell H4 b5 ((((o6 + (Int.toNat n3) * 4) + 1) + 1) + 1) = some (.bool t10) ∧ (
                          (0 : Int) ≤ n3 ∧ (n3 : Int) < (x1l : Int) ∧ ∃ b11 o12 : Nat, x1 = some (⟨b11, o12, none⟩ : Addr) ∧ (
                            ∃ n13 : Int, hcell H4 b11 (o12 + (Int.toNat n3) * 4) = some (.int .i64 n13) ∧ (
                              ∃ n14 : Int, hcell H4 b11 ((o12 + (Int.toNat n3) * 4) + 1) = some (.int .i64 n14) ∧ (
                                ∃ n15 : Int, hcell H4 b11 (((o12 + (Int.toNat n3) * 4) + 1) + 1) = some (.int .i64 n15) ∧ (
                                  ∃ t16 : Bool, hcell H4 b11 ((((o12 + (Int.toNat n3) * 4) + 1) + 1) + 1) = some (.bool t16) ∧ (
                                    (((¬ (((n7 : Int) = n13) ∧ ((n8 : Int) = n14) ∧ ((n9 : Int) = n15) ∧ ((t10 : Bool) = t16))) → (
                                          R (.bool false) H4)) ∧ (¬ (¬ (((n7 : Int) = n13) ∧ ((n8 : Int) = n14) ∧ ((n9 : Int) = n15) ∧ ((t10 : Bool) = t16))) → (
                                          (In64 (n3 + 1)) ∧
                                          (I1 (n3 + 1) H4) ∧ μ2 (n3 + 1) H4 < μ2 n3 H4))))))))))))))) ∧ (¬ ((n3 : Int) < (x0l : Int)) → (
                R (.bool true) H4)))))))) := by kernel_rfl


/-- pentimento/pentimentoref9.FindLayer -/
theorem vc_findlayer (x0 : Option Addr) (x0l : Nat) (x0c : Nat) (x1 : Int) (H : Heap) (R : Value → Heap → Prop) : Walk Try.prog 44 [] [(.slice x0 x0l x0c), (.int .i64 x1)] H R = (
  ∀ b1 : Nat, ∀ H2 : Heap, New H b1 [(.int .i64 0), (.int .i64 0), (.int .i64 0), (.bool false)] 46 H2 → (
    ∃ I3 : Int → Heap → Prop, ∃ μ4 : Int → Heap → Nat, (I3 0 H2) ∧
    ∀ n5 : Int, ∀ H6 : Heap, I3 n5 H6 → (
      ((((n5 : Int) < (x0l : Int)) → (
            (0 : Int) ≤ n5 ∧ (n5 : Int) < (x0l : Int) ∧ ∃ b7 o8 : Nat, x0 = some (⟨b7, o8, none⟩ : Addr) ∧ (
              ∃ n9 : Int, hcell H6 b7 (o8 + (Int.toNat n5) * 4) = some (.int .i64 n9) ∧ (
                ((((n9 : Int) = x1) → (
                      (0 : Int) ≤ n5 ∧ (n5 : Int) < (x0l : Int) ∧ ∃ b10 o11 : Nat, x0 = some (⟨b10, o11, none⟩ : Addr) ∧ (
                        ∃ n12 : Int, hcell H6 b10 (o11 + (Int.toNat n5) * 4) = some (.int .i64 n12) ∧ (
                          ∃ n13 : Int, hcell H6 b10 ((o11 + (Int.toNat n5) * 4) + 1) = some (.int .i64 n13) ∧ (
                            ∃ n14 : Int, hcell H6 b10 (((o11 + (Int.toNat n5) * 4) + 1) + 1) = some (.int .i64 n14) ∧ (
                              ∃ t15 : Bool, hcell H6 b10 ((((o11 + (Int.toNat n5) * 4) + 1) + 1) + 1) = some (.bool t15) ∧ (
                                Cells H6 b1 0 4 ∧ ∀ H16 : Heap, Puts H6 b1 0 [(.int .i64 n12), (.int .i64 n13), (.int .i64 n14), (.bool t15)] H16 → (
                                  ∃ n17 : Int, hcell H16 b1 0 = some (.int .i64 n17) ∧ (
                                    ∃ n18 : Int, hcell H16 b1 (0 + 1) = some (.int .i64 n18) ∧ (
                                      ∃ n19 : Int, hcell H16 b1 ((0 + 1) + 1) = some (.int .i64 n19) ∧ (
                                        ∃ t20 : Bool, hcell H16 b1 (((0 + 1) + 1) + 1) = some (.bool t20) ∧ (
                                          R (.tuple #[(.agg #[(.int .i64 n17), (.int .i64 n18), (.int .i64 n19), (.bool t20)]), (.bool true)]) H16)))))))))))) ∧ (¬ ((n9 : Int) = x1) → (
                      (In64 (n5 + 1)) ∧
                      (I3 (n5 + 1) H6) ∧ μ4 (n5 + 1) H6 < μ4 n5 H6))))))) ∧ (¬ ((n5 : Int) < (x0l : Int)) → (
            Cells H6 b1 0 4 ∧ ∀ H21 : Heap, Puts H6 b1 0 [(.int .i64 0), (.int .i64 0), (.int .i64 0), (.bool false)] H21 → (
              ∃ n22 : Int, hcell H21 b1 0 = some (.int .i64 n22) ∧ (
                ∃ n23 : Int, hcell H21 b1 (0 + 1) = some (.int .i64 n23) ∧ (
                  ∃ n24 : Int, hcell H21 b1 ((0 + 1) + 1) = some (.int .i64 n24) ∧ (
                    ∃ t25 : Bool, hcell H21 b1 (((0 + 1) + 1) + 1) = some (.bool t25) ∧ (
                      R (.tuple #[(.agg #[(.int .i64 n22), (.int .i64 n23), (.int .i64 n24), (.bool t25)]), (.bool false)]) H21))))))))))) := by kernel_rfl


/-- pentimento/pentimentoref9.Chain -/
theorem vc_rchain (x0 : Option Addr) (x0l : Nat) (x0c : Nat) (x1 : Int) (H : Heap) (R : Value → Heap → Prop) : Walk Try.prog 45 [] [(.slice x0 x0l x0c), (.int .i64 x1)] H R = (
  ∃ I1 : Option Addr → Nat → Nat → Int → Int → Heap → Prop, ∃ μ2 : Option Addr → Nat → Nat → Int → Int → Heap → Nat, (I1 none 0 0 x1 0 H) ∧
  ∀ a3 : Option Addr, ∀ l4 : Nat, ∀ c5 : Nat, ∀ n6 : Int, ∀ n7 : Int, ∀ H8 : Heap, I1 a3 l4 c5 n6 n7 H8 → (
    ((((n7 : Int) ≤ (x0l : Int)) → (
          Does Try.prog 44 [(.slice x0 x0l x0c), (.int .i64 n6)] H8 fun v9 H10 => ∃ n11 : Int, ∃ n12 : Int, ∃ n13 : Int, ∃ t14 : Bool, ∃ t15 : Bool, v9 = (.tuple #[(.agg #[(.int .i64 n11), (.int .i64 n12), (.int .i64 n13), (.bool t14)]), (.bool t15)]) ∧ (
            ∀ b16 : Nat, ∀ H17 : Heap, New H10 b16 [(.int .i64 0), (.int .i64 0), (.int .i64 0), (.bool false)] 46 H17 → (
              Cells H17 b16 0 4 ∧ ∀ H18 : Heap, Puts H17 b16 0 [(.int .i64 n11), (.int .i64 n12), (.int .i64 n13), (.bool t14)] H18 → (
                (((t15 = false) → (
                      R (.slice a3 l4 c5) H18)) ∧ (¬ (t15 = false) → (
                      ∀ b19 : Nat, ∀ H20 : Heap, New H18 b19 [(.int .i64 n6)] 3 H20 → (
                        ∃ old21 new22 : List Value, SRow H20 1 1 (.slice (some (⟨b19, 0, none⟩ : Addr)) 1 1) old21 ∧ SRow H20 1 l4 (.slice a3 l4 c5) new22 ∧ (∀ u ∈ new22, Value.oneCell' u = true) ∧ (1 + l4) * 8 ≤ 140737488355328 ∧ (1 + l4 ≤ 1 → roomOf H20 (some (⟨b19, 0, none⟩ : Addr)) (1 * 1) (l4 * 1)) ∧ ∀ a23 : Option Addr, ∀ c24 : Nat, ∀ H25 : Heap, App H20 1 3 [(.int .i64 0)] (some (⟨b19, 0, none⟩ : Addr)) 1 1 old21 new22 l4 a23 c24 H25 → (
                          ∃ n26 : Int, hcell H25 b16 (0 + 1) = some (.int .i64 n26) ∧ (
                            (In64 (n7 + 1)) ∧
                            (I1 a23 (1 + l4) c24 n26 (n7 + 1) H25) ∧ μ2 a23 (1 + l4) c24 n26 (n7 + 1) H25 < μ2 a3 l4 c5 n6 n7 H8))))))))))) ∧ (¬ ((n7 : Int) ≤ (x0l : Int)) → (
          R (.slice a3 l4 c5) H8))))) := by kernel_rfl


/-- pentimento/pentimentoref9.Ancestors -/
theorem vc_ranc (x0 : Option Addr) (x0l : Nat) (x0c : Nat) (x1 : Int) (H : Heap) (R : Value → Heap → Prop) : Walk Try.prog 46 [(7, [])] [(.slice x0 x0l x0c), (.int .i64 x1)] H R = (
  (0 : Int) ≤ (x0l : Int) ∧ ((x0l : Int) : Int) ≤ (x0l : Int) ∧ (1 : Int) * (x0l : Int) ≤ 281474976710656 ∧ ∀ b1 : Nat, ∀ H2 : Heap, New H b1 (List.replicate (Int.toNat (x0l : Int)) (.bool false)) 4 H2 → (
    (In64 ((x0l : Int) - 1)) ∧
    ∃ I3 : Int → Heap → Prop, ∃ μ4 : Int → Heap → Nat, (I3 ((x0l : Int) - 1) H2) ∧
    ∀ n5 : Int, ∀ H6 : Heap, I3 n5 H6 → (
      ((((0 : Int) ≤ n5) → (
            ∃ I7 : Heap → Prop, (
              (0 : Int) ≤ n5 ∧ (n5 : Int) < (x0l : Int) ∧ ∃ b8 o9 : Nat, x0 = some (⟨b8, o9, none⟩ : Addr) ∧ (
                ∃ n10 : Int, hcell H6 b8 (o9 + (Int.toNat n5) * 4) = some (.int .i64 n10) ∧ (
                  ((((n10 : Int) = x1) → (
                        (0 : Int) ≤ n5 ∧ (n5 : Int) < ((Int.toNat (x0l : Int)) : Int) ∧ ∃ b11 o12 : Nat, (some (⟨b1, 0, none⟩ : Addr)) = some (⟨b11, o12, none⟩ : Addr) ∧ (
                          Cells H6 b11 (o12 + (Int.toNat n5)) 1 ∧ ∀ H13 : Heap, Puts H6 b11 (o12 + (Int.toNat n5)) [(.bool true)] H13 → (
                            I7 H13)))) ∧ (¬ ((n10 : Int) = x1) → (
                        I7 H6)))))) ∧
            ∀ H14 : Heap, I7 H14 → (
              (0 : Int) ≤ n5 ∧ (n5 : Int) < ((Int.toNat (x0l : Int)) : Int) ∧ ∃ b15 o16 : Nat, (some (⟨b1, 0, none⟩ : Addr)) = some (⟨b15, o16, none⟩ : Addr) ∧ (
                ∃ t17 : Bool, hcell H14 b15 (o16 + (Int.toNat n5)) = some (.bool t17) ∧ (
                  (((t17 = false) → (
                        (In64 (n5 - 1)) ∧
                        (I3 (n5 - 1) H14) ∧ μ4 (n5 - 1) H14 < μ4 n5 H6)) ∧ (¬ (t17 = false) → (
                        ∃ I18 : Int → Heap → Prop, ∃ μ19 : Int → Heap → Nat, (I18 0 H14) ∧
                        ∀ n20 : Int, ∀ H21 : Heap, I18 n20 H21 → (
                          ((((n20 : Int) < n5) → (
                                (0 : Int) ≤ n20 ∧ (n20 : Int) < (x0l : Int) ∧ ∃ b22 o23 : Nat, x0 = some (⟨b22, o23, none⟩ : Addr) ∧ (
                                  ∃ n24 : Int, hcell H21 b22 (o23 + (Int.toNat n20) * 4) = some (.int .i64 n24) ∧ (
                                    (0 : Int) ≤ n5 ∧ (n5 : Int) < (x0l : Int) ∧ ∃ b25 o26 : Nat, x0 = some (⟨b25, o26, none⟩ : Addr) ∧ (
                                      ∃ n27 : Int, hcell H21 b25 ((o26 + (Int.toNat n5) * 4) + 1) = some (.int .i64 n27) ∧ (
                                        ((((n24 : Int) = n27) → (
                                              (0 : Int) ≤ n20 ∧ (n20 : Int) < ((Int.toNat (x0l : Int)) : Int) ∧ ∃ b28 o29 : Nat, (some (⟨b1, 0, none⟩ : Addr)) = some (⟨b28, o29, none⟩ : Addr) ∧ (
                                                Cells H21 b28 (o29 + (Int.toNat n20)) 1 ∧ ∀ H30 : Heap, Puts H21 b28 (o29 + (Int.toNat n20)) [(.bool true)] H30 → (
                                                  (In64 (n20 + 1)) ∧
                                                  (I18 (n20 + 1) H30) ∧ μ19 (n20 + 1) H30 < μ19 n20 H21)))) ∧ (¬ ((n24 : Int) = n27) → (
                                              (0 : Int) ≤ n20 ∧ (n20 : Int) < (x0l : Int) ∧ ∃ b31 o32 : Nat, x0 = some (⟨b31, o32, none⟩ : Addr) ∧ (
                                                ∃ n33 : Int, hcell H21 b31 (o32 + (Int.toNat n20) * 4) = some (.int .i64 n33) ∧ (
                                                  (0 : Int) ≤ n5 ∧ (n5 : Int) < (x0l : Int) ∧ ∃ b34 o35 : Nat, x0 = some (⟨b34, o35, none⟩ : Addr) ∧ (
                                                    ∃ n36 : Int, hcell H21 b34 ((o35 + (Int.toNat n5) * 4) + 2) = some (.int .i64 n36) ∧ (
                                                      ((((n33 : Int) = n36) → (
                                                            (0 : Int) ≤ n20 ∧ (n20 : Int) < ((Int.toNat (x0l : Int)) : Int) ∧ ∃ b37 o38 : Nat, (some (⟨b1, 0, none⟩ : Addr)) = some (⟨b37, o38, none⟩ : Addr) ∧ (
                                                            Cells H21 b37 (o38 + (Int.toNat n20)) 1 ∧ ∀ H39 : Heap, Puts H21 b37 (o38 + (Int.toNat n20)) [(.bool true)] H39 → (
                                                            (In64 (n20 + 1)) ∧
                                                            (I18 (n20 + 1) H39) ∧ μ19 (n20 + 1) H39 < μ19 n20 H21)))) ∧ (¬ ((n33 : Int) = n36) → (
                                                            (In64 (n20 + 1)) ∧
                                                            (I18 (n20 + 1) H21) ∧ μ19 (n20 + 1) H21 < μ19 n20 H21)))))))))))))))) ∧ (¬ ((n20 : Int) < n5) → (
                                (In64 (n5 - 1)) ∧
                                (I3 (n5 - 1) H21) ∧ μ4 (n5 - 1) H21 < μ4 n5 H6)))))))))))) ∧ (¬ ((0 : Int) ≤ n5) → (
            ∃ I40 : Option Addr → Nat → Nat → Int → Heap → Prop, ∃ μ41 : Option Addr → Nat → Nat → Int → Heap → Nat, (I40 none 0 0 0 H6) ∧
            ∀ a42 : Option Addr, ∀ l43 : Nat, ∀ c44 : Nat, ∀ n45 : Int, ∀ H46 : Heap, I40 a42 l43 c44 n45 H46 → (
              ((((n45 : Int) < (x0l : Int)) → (
                    (0 : Int) ≤ n45 ∧ (n45 : Int) < ((Int.toNat (x0l : Int)) : Int) ∧ ∃ b47 o48 : Nat, (some (⟨b1, 0, none⟩ : Addr)) = some (⟨b47, o48, none⟩ : Addr) ∧ (
                      ∃ t49 : Bool, hcell H46 b47 (o48 + (Int.toNat n45)) = some (.bool t49) ∧ (
                        ((t49 = true → (
                              (0 : Int) ≤ n45 ∧ (n45 : Int) < (x0l : Int) ∧ ∃ b50 o51 : Nat, x0 = some (⟨b50, o51, none⟩ : Addr) ∧ (
                                ∃ n52 : Int, hcell H46 b50 (o51 + (Int.toNat n45) * 4) = some (.int .i64 n52) ∧ (
                                  ∀ b53 : Nat, ∀ H54 : Heap, New H46 b53 [(.int .i64 n52)] 3 H54 → (
                                    ∃ old55 new56 : List Value, SRow H54 1 l43 (.slice a42 l43 c44) old55 ∧ SRow H54 1 1 (.slice (some (⟨b53, 0, none⟩ : Addr)) 1 1) new56 ∧ (∀ u ∈ new56, Value.oneCell' u = true) ∧ (l43 + 1) * 8 ≤ 140737488355328 ∧ (l43 + 1 ≤ c44 → roomOf H54 a42 (l43 * 1) (1 * 1)) ∧ ∀ a57 : Option Addr, ∀ c58 : Nat, ∀ H59 : Heap, App H54 1 3 [(.int .i64 0)] a42 l43 c44 old55 new56 1 a57 c58 H59 → (
                                      (In64 (n45 + 1)) ∧
                                      (I40 a57 (l43 + 1) c58 (n45 + 1) H59) ∧ μ41 a57 (l43 + 1) c58 (n45 + 1) H59 < μ41 a42 l43 c44 n45 H46)))))) ∧ (t49 = false → (
                              (In64 (n45 + 1)) ∧
                              (I40 a42 l43 c44 (n45 + 1) H46) ∧ μ41 a42 l43 c44 (n45 + 1) H46 < μ41 a42 l43 c44 n45 H46))))))) ∧ (¬ ((n45 : Int) < (x0l : Int)) → (
                    R (.slice a42 l43 c44) H46)))))))))) := by kernel_rfl


/-- pentimento/pentimentoref9.Base -/
theorem vc_rbase (x0 : Option Addr) (x0l : Nat) (x0c : Nat) (x1 : Int) (x2 : Int) (H : Heap) (R : Value → Heap → Prop) : Walk Try.prog 47 [] [(.slice x0 x0l x0c), (.int .i64 x1), (.int .i64 x2)] H R = (
  Does Try.prog 46 [(.slice x0 x0l x0c), (.int .i64 x1)] H fun v1 H2 => ∃ a3 : Option Addr, ∃ l4 : Nat, ∃ c5 : Nat, v1 = (.slice a3 l4 c5) ∧ (
    Does Try.prog 46 [(.slice x0 x0l x0c), (.int .i64 x2)] H2 fun v6 H7 => ∃ a8 : Option Addr, ∃ l9 : Nat, ∃ c10 : Nat, v6 = (.slice a8 l9 c10) ∧ (
      ∃ I11 : Int → Int → Heap → Prop, ∃ μ12 : Int → Int → Heap → Nat, (I11 0 0 H7) ∧
      ∀ n13 : Int, ∀ n14 : Int, ∀ H15 : Heap, I11 n13 n14 H15 → (
        ((((n14 : Int) < (l4 : Int)) → (
              ∃ I16 : Int → Int → Heap → Prop, ∃ μ17 : Int → Int → Heap → Nat, (I16 n13 0 H15) ∧
              ∀ n18 : Int, ∀ n19 : Int, ∀ H20 : Heap, I16 n18 n19 H20 → (
                ((((n19 : Int) < (l9 : Int)) → (
                      (0 : Int) ≤ n14 ∧ (n14 : Int) < (l4 : Int) ∧ ∃ b21 o22 : Nat, a3 = some (⟨b21, o22, none⟩ : Addr) ∧ (
                        ∃ n23 : Int, hcell H20 b21 (o22 + (Int.toNat n14)) = some (.int .i64 n23) ∧ (
                          (0 : Int) ≤ n19 ∧ (n19 : Int) < (l9 : Int) ∧ ∃ b24 o25 : Nat, a8 = some (⟨b24, o25, none⟩ : Addr) ∧ (
                            ∃ n26 : Int, hcell H20 b24 (o25 + (Int.toNat n19)) = some (.int .i64 n26) ∧ (
                              ((((n23 : Int) = n26) → (
                                    (0 : Int) ≤ n14 ∧ (n14 : Int) < (l4 : Int) ∧ ∃ b27 o28 : Nat, a3 = some (⟨b27, o28, none⟩ : Addr) ∧ (
                                      ∃ n29 : Int, hcell H20 b27 (o28 + (Int.toNat n14)) = some (.int .i64 n29) ∧ (
                                        (In64 (n19 + 1)) ∧
                                        (I16 (max n18 n29) (n19 + 1) H20) ∧ μ17 (max n18 n29) (n19 + 1) H20 < μ17 n18 n19 H20)))) ∧ (¬ ((n23 : Int) = n26) → (
                                    (In64 (n19 + 1)) ∧
                                    (I16 n18 (n19 + 1) H20) ∧ μ17 n18 (n19 + 1) H20 < μ17 n18 n19 H20))))))))) ∧ (¬ ((n19 : Int) < (l9 : Int)) → (
                      (In64 (n14 + 1)) ∧
                      (I11 n18 (n14 + 1) H20) ∧ μ12 n18 (n14 + 1) H20 < μ12 n13 n14 H15)))))) ∧ (¬ ((n14 : Int) < (l4 : Int)) → (
              R (.int .i64 n13) H15))))))) := by kernel_rfl


/-- pentimento/pentimentoref9.Keep -/
theorem vc_rkeep (x0 : Option Addr) (x0l : Nat) (x0c : Nat) (x1 : Option Addr) (x1l : Nat) (x1c : Nat) (H : Heap) (R : Value → Heap → Prop) : Walk Try.prog 48 [] [(.slice x0 x0l x0c), (.slice x1 x1l x1c)] H R = (
  ∃ I1 : Option Addr → Nat → Nat → Int → Heap → Prop, ∃ μ2 : Option Addr → Nat → Nat → Int → Heap → Nat, (I1 none 0 0 0 H) ∧
  ∀ a3 : Option Addr, ∀ l4 : Nat, ∀ c5 : Nat, ∀ n6 : Int, ∀ H7 : Heap, I1 a3 l4 c5 n6 H7 → (
    ((((n6 : Int) < (x0l : Int)) → (
          ∃ I8 : Bool → Int → Heap → Prop, ∃ μ9 : Bool → Int → Heap → Nat, (I8 false 0 H7) ∧
          ∀ t10 : Bool, ∀ n11 : Int, ∀ H12 : Heap, I8 t10 n11 H12 → (
            ((((n11 : Int) < (x1l : Int)) → (
                  (0 : Int) ≤ n11 ∧ (n11 : Int) < (x1l : Int) ∧ ∃ b13 o14 : Nat, x1 = some (⟨b13, o14, none⟩ : Addr) ∧ (
                    ∃ n15 : Int, hcell H12 b13 (o14 + (Int.toNat n11)) = some (.int .i64 n15) ∧ (
                      Does Try.prog 46 [(.slice x0 x0l x0c), (.int .i64 n15)] H12 fun v16 H17 => ∃ a18 : Option Addr, ∃ l19 : Nat, ∃ c20 : Nat, v16 = (.slice a18 l19 c20) ∧ (
                        ∃ I21 : Bool → Int → Heap → Prop, ∃ μ22 : Bool → Int → Heap → Nat, (I21 t10 0 H17) ∧
                        ∀ t23 : Bool, ∀ n24 : Int, ∀ H25 : Heap, I21 t23 n24 H25 → (
                          ((((n24 : Int) < (l19 : Int)) → (
                                ((t23 = true → (
                                      (In64 (n24 + 1)) ∧
                                      (I21 true (n24 + 1) H25) ∧ μ22 true (n24 + 1) H25 < μ22 t23 n24 H25)) ∧ (t23 = false → (
                                      (0 : Int) ≤ n24 ∧ (n24 : Int) < (l19 : Int) ∧ ∃ b26 o27 : Nat, a18 = some (⟨b26, o27, none⟩ : Addr) ∧ (
                                        ∃ n28 : Int, hcell H25 b26 (o27 + (Int.toNat n24)) = some (.int .i64 n28) ∧ (
                                          (0 : Int) ≤ n6 ∧ (n6 : Int) < (x0l : Int) ∧ ∃ b29 o30 : Nat, x0 = some (⟨b29, o30, none⟩ : Addr) ∧ (
                                            ∃ n31 : Int, hcell H25 b29 (o30 + (Int.toNat n6) * 4) = some (.int .i64 n31) ∧ (
                                              (In64 (n24 + 1)) ∧
                                              (I21 (@decide ((n28 : Int) = n31) (Classical.propDecidable _)) (n24 + 1) H25) ∧ μ22 (@decide ((n28 : Int) = n31) (Classical.propDecidable _)) (n24 + 1) H25 < μ22 t23 n24 H25))))))))) ∧ (¬ ((n24 : Int) < (l19 : Int)) → (
                                (In64 (n11 + 1)) ∧
                                (I8 t23 (n11 + 1) H25) ∧ μ9 t23 (n11 + 1) H25 < μ9 t10 n11 H12))))))))) ∧ (¬ ((n11 : Int) < (x1l : Int)) → (
                  ((t10 = true → (
                        (0 : Int) ≤ n6 ∧ (n6 : Int) < (x0l : Int) ∧ ∃ b32 o33 : Nat, x0 = some (⟨b32, o33, none⟩ : Addr) ∧ (
                          ∃ n34 : Int, hcell H12 b32 (o33 + (Int.toNat n6) * 4) = some (.int .i64 n34) ∧ (
                            ∃ n35 : Int, hcell H12 b32 ((o33 + (Int.toNat n6) * 4) + 1) = some (.int .i64 n35) ∧ (
                              ∃ n36 : Int, hcell H12 b32 (((o33 + (Int.toNat n6) * 4) + 1) + 1) = some (.int .i64 n36) ∧ (
                                ∃ t37 : Bool, hcell H12 b32 ((((o33 + (Int.toNat n6) * 4) + 1) + 1) + 1) = some (.bool t37) ∧ (
                                  ∀ b38 : Nat, ∀ H39 : Heap, New H12 b38 [(.int .i64 n34), (.int .i64 n35), (.int .i64 n36), (.bool t37)] 46 H39 → (
                                    ∃ old40 new41 : List Value, SRow H39 4 l4 (.slice a3 l4 c5) old40 ∧ SRow H39 4 1 (.slice (some (⟨b38, 0, none⟩ : Addr)) 1 1) new41 ∧ (∀ u ∈ new41, Value.oneCell' u = true) ∧ (l4 + 1) * 32 ≤ 140737488355328 ∧ (l4 + 1 ≤ c5 → roomOf H39 a3 (l4 * 4) (1 * 4)) ∧ ∀ a42 : Option Addr, ∀ c43 : Nat, ∀ H44 : Heap, App H39 4 46 [(.int .i64 0), (.int .i64 0), (.int .i64 0), (.bool false)] a3 l4 c5 old40 new41 1 a42 c43 H44 → (
                                      (In64 (n6 + 1)) ∧
                                      (I1 a42 (l4 + 1) c43 (n6 + 1) H44) ∧ μ2 a42 (l4 + 1) c43 (n6 + 1) H44 < μ2 a3 l4 c5 n6 H7))))))))) ∧ (t10 = false → (
                        (In64 (n6 + 1)) ∧
                        (I1 a3 l4 c5 (n6 + 1) H12) ∧ μ2 a3 l4 c5 (n6 + 1) H12 < μ2 a3 l4 c5 n6 H7))))))))) ∧ (¬ ((n6 : Int) < (x0l : Int)) → (
          R (.slice a3 l4 c5) H7))))) := by kernel_rfl


end Go.Proofs
end

section
open Go Go.Vc
namespace Go.Proofs

theorem put1_ok {G : Nat → Prop} {b : Nat} {bs : List Int} {x : Int} {n : Nat} {H : Heap} (hG : ∀ k, H.size ≤ k → G k) (hn : n ≤ 8) (hl : bs.length ≤ 1000000) (h : WIs G H b bs) :
    Does Try.prog 96 [.pointer (some ⟨b, 0, none⟩), .int .u64 x, .int .i64 n] H fun v H' => v = .tuple #[] ∧ WIs G H' b (bs ++ beL n x) ∧ ExtP G H H' := by
  refine Fn_of_vc Try.mixed (vc_put1 _ _ _ _ _) ?_
  refine ⟨⟨by omega, by omega⟩, fun i H' => ∃ (j : Nat) (d : List Int), i = (j : Int) - 1 ∧ j ≤ n ∧ WIs G H' b d ∧ d ++ beL j x = bs ++ beL n x ∧ ExtP G H H', fun i _ => (i + 1).toNat, ⟨n, bs, rfl, Nat.le_refl _, h, rfl, ExtP.refl _ _⟩, ?_⟩
  rintro _ H4 ⟨j, d, rfl, hj, hw, hd, hx4⟩
  refine ⟨fun h0 => ?_, fun h0 => ?_⟩
  · obtain ⟨k, rfl⟩ : ∃ k, j = k + 1 := ⟨j - 1, by omega⟩
    have hdl : d.length ≤ 1000008 := by
      have := congrArg List.length hd
      simp only [List.length_append, beL_length] at this
      omega
    have hblt := hw.lt
    obtain ⟨g0, a, c, hb, ho, hnb, hg⟩ := hw
    have ek : (8 * (((k + 1 : Nat) : Int) - 1)) = ((8 * k : Nat) : Int) := by omega
    refine ⟨b, 0, rfl, a, _, c, by rw [hb.cell]; rfl, ⟨by omega, by omega⟩, ?_⟩
    rintro _ rfl
    have ew : IntKind.wrap .u64 (8 * (((k + 1 : Nat) : Int) - 1)) = 8 * (((k + 1 : Nat) : Int) - 1) := by rw [wrap_u64]; omega
    rw [ew]
    refine ⟨by omega, ?_⟩
    rintro _ rfl _ rfl b12 H13 hn13
    have hq : IntKind.wrap .u8 (Int.fdiv x (2 ^ (min (Int.toNat (8 * (((k + 1 : Nat) : Int) - 1))) (IntKind.bits .u64)))) = x / 256 ^ k % 256 := by
      rw [ek, Int.toNat_natCast, show min (8 * k) (IntKind.bits .u64) = 8 * k from Nat.min_eq_left (by show 8 * k ≤ 64; omega), pow8, wrap_u8, Int.fdiv_eq_ediv_of_nonneg _ (Int.pow_nonneg (by decide))]
    rw [hq] at hn13
    have ho13 := ho.ext hn13.ext (by simp)
    have hb13 := hb.ext hn13.ext (by simp)
    refine ⟨u8s d, [.int .u8 (x / 256 ^ k % 256)], ho13.row _ _, ⟨rfl, .inr rfl, fun i u hi => ?_⟩, u8s_one [x / 256 ^ k % 256], by omega, fun hle => by simpa using ho13.room (n := 1) hle, ?_⟩
    · show hcell H13 b12 (0 + i) = some u
      rw [Nat.zero_add, hn13.blk.cell]; exact hi
    intro a16 c17 H18 happ
    obtain ⟨ho18, hx18, hfr18⟩ := happ.own ho13 (ho13.row _ _) rfl rfl
    have hb18 := hb13.ext hx18 hnb
    refine ⟨b, 0, rfl, hb18.cells _ _ (by simp), fun H21 hp => ?_⟩
    have hb21 := hp.blk hb18 (by simp)
    have hs13 := hn13.size
    have hs18 := hx18.size
    have hnb16 : b ∉ blkOf a16 := by
      intro hm
      rcases hfr18 b hm with h' | h'
      · exact hnb h'
      · omega
    have ho21 := ho18.ext hp.ext (fun k hk hm => by simp only [List.mem_singleton] at hm; subst hm; exact hnb16 hk)
    have hx21 : ExtP G H4 H21 := (hn13.ext.anyP.trans (hx18.lift (fun k _ hk => hg k hk))).trans (hp.ext.lift (fun k _ hk => by simp only [List.mem_singleton] at hk; subst hk; exact g0))
    have hs4 := hx4.size
    refine ⟨⟨by omega, by omega⟩, ⟨k, d ++ [x / 256 ^ k % 256], by omega, by omega, ⟨g0, a16, c17, ?_, ?_, hnb16, ?_⟩, ?_, hx4.trans hx21⟩, by simp only []; omega⟩
    · simpa [splice] using hb21
    · rw [u8s_append, List.length_append]; exact ho21
    · intro k' hk'
      rcases hfr18 k' hk' with h' | h'
      · exact hg k' h'
      · exact hG k' (by omega)
    · rw [← hd, List.append_assoc]; rfl
  · have : j = 0 := by omega
    subst this
    have e : d = bs ++ beL n x := by rw [← hd]; simp [beL]
    subst e
    exact ⟨rfl, hw, hx4⟩

theorem wu1_ok {G : Nat → Prop} {f n : Nat} {b : Nat} {bs : List Int} {x : Int} {H : Heap} (hf : (f = 81 ∧ n = 2) ∨ (f = 82 ∧ n = 4) ∨ (f = 83 ∧ n = 1)) (hG : ∀ k, H.size ≤ k → G k) (hl : bs.length ≤ 1000000) (h : WIs G H b bs) :
    Does Try.prog f [.pointer (some ⟨b, 0, none⟩), .int .i64 x] H fun v H' => v = .tuple #[] ∧ WIs G H' b (bs ++ beL n (IntKind.wrap .u64 x)) ∧ ExtP G H H' := by
  rcases hf with ⟨rfl, rfl⟩ | ⟨rfl, rfl⟩ | ⟨rfl, rfl⟩
  · refine Fn_of_vc Try.mixed (vc_w1u16 _ _ _ _) ?_
    rintro _ rfl
    refine (put1_ok (n := 2) hG (by omega) hl h).mono ?_
    rintro _ _ ⟨rfl, h1, h2⟩
    exact ⟨rfl, rfl, h1, h2⟩
  · refine Fn_of_vc Try.mixed (vc_w1u32 _ _ _ _) ?_
    rintro _ rfl
    refine (put1_ok (n := 4) hG (by omega) hl h).mono ?_
    rintro _ _ ⟨rfl, h1, h2⟩
    exact ⟨rfl, rfl, h1, h2⟩
  · refine Fn_of_vc Try.mixed (vc_w1u8 _ _ _ _) ?_
    rintro _ rfl
    refine (put1_ok (n := 1) hG (by omega) hl h).mono ?_
    rintro _ _ ⟨rfl, h1, h2⟩
    exact ⟨rfl, rfl, h1, h2⟩

theorem fails1 {G : Nat → Prop} {b : Nat} {H H6 H9 : Heap} {s : List Int × Bool} (h : RIs G H b s) (h6 : Puts H b (0 + 1) [.bool true] H6) (h9 : Puts H6 b 0 [.slice none 0 0] H9) : RIs G H9 b ([], true) ∧ Ext [b] H H9 := by
  obtain ⟨g0, hB, a, c, hb, ho, hnb, hg⟩ := h
  have hb6 := h6.blk hb (by simp)
  have hb9 := h9.blk hb6 (by simp [splice])
  exact ⟨⟨g0, (fun z hz => by cases hz), none, 0, by simpa [splice] using hb9, ⟨rfl, Nat.le_refl _, .inl ⟨rfl, rfl⟩⟩, by simp [blkOf], by simp [blkOf]⟩, h6.ext.trans h9.ext⟩

theorem raw1_ok {G : Nat → Prop} {b : Nat} {s : List Int × Bool} {n : Nat} {H : Heap} (hn : n ≤ 1000000) (h : RIs G H b s) :
    Does Try.prog 112 [.pointer (some ⟨b, 0, none⟩), .int .i64 n] H fun v H' => ∃ a c, v = .slice a (rd s n).1.length c ∧ SRow H' 1 (rd s n).1.length (.slice a (rd s n).1.length c) (u8s (rd s n).1) ∧ RIs G H' b (rd s n).2 ∧ Ext [b] H H' := by
  refine Fn_of_vc Try.mixed (vc_raw1 _ _ _ _) ?_
  have h0 := h
  obtain ⟨bs, lk⟩ := s
  obtain ⟨g0, hB, a, c, hb, ho, hnb, hg⟩ := h
  simp only at hb ho hB
  have bad : ∀ {H6 H9 : Heap}, Puts H b (0 + 1) [.bool true] H6 → Puts H6 b 0 [.slice none 0 0] H9 → rd (bs, lk) n = ([], ([], true)) →
      ∃ a c, Value.slice none 0 0 = .slice a (rd (bs, lk) n).1.length c ∧ SRow H9 1 (rd (bs, lk) n).1.length (.slice a (rd (bs, lk) n).1.length c) (u8s (rd (bs, lk) n).1) ∧ RIs G H9 b (rd (bs, lk) n).2 ∧ Ext [b] H H9 := by
    intro H6 H9 h6 h9 e
    obtain ⟨h1, h2⟩ := fails1 h0 h6 h9
    rw [e]
    exact ⟨none, 0, rfl, ⟨rfl, rfl⟩, h1, h2⟩
  have cl : Cells H b (0 + 1) 1 := hb.cells _ _ (by simp)
  have cl2 : ∀ {H6 : Heap}, Puts H b (0 + 1) [.bool true] H6 → Cells H6 b 0 1 := fun h6 => (h6.blk hb (by simp)).cells _ _ (by simp [splice])
  refine ⟨b, 0, rfl, lk, by rw [hb.cell]; rfl, fun e => ⟨b, 0, rfl, cl, fun H6 h6 => ⟨b, 0, rfl, cl2 h6, fun H9 h9 => bad h6 h9 ?_⟩⟩, fun e => ⟨fun e0 => absurd e0 (by omega), fun _ => ⟨b, 0, rfl, a, _, c, by rw [hb.cell]; rfl, fun e1 => ⟨b, 0, rfl, cl, fun H6 h6 => ⟨b, 0, rfl, cl2 h6, fun H9 h9 => bad h6 h9 ?_⟩⟩, fun e1 b27 H28 hn28 => ?_⟩⟩⟩
  · unfold rd; rw [if_neg (by simp [e])]
  · unfold rd; rw [if_neg (by simp only []; omega)]
  subst e
  have e2 : rd (bs, false) n = (bs.take n, (bs.drop n, false)) := by unfold rd; rw [if_pos ⟨rfl, by simp only []; omega⟩]
  rw [e2]
  have hle : n ≤ bs.length := by omega
  have hb28 := hb.ext hn28.ext (by simp)
  have ho28 := ho.ext hn28.ext (by simp)
  have hoe : Own H28 1 (some ⟨b27, 0, none⟩) 0 0 ([] : List Value) := Own.of_new (size := 1) (len := 0) (cap := 0) hn28.blk rfl (Nat.le_refl _) (by decide)
  have hlen : (bs.take n).length = n := by rw [List.length_take]; omega
  refine ⟨b, 0, rfl, a, _, c, by rw [hb28.cell]; rfl, by omega, by have := ho.2.1; omega, [], u8s (bs.take n), hoe.row _ _, ?_, u8s_one _, by simp; omega, fun hle => hoe.room (n := (n : Int).toNat) hle, ?_⟩
  · rw [Int.toNat_natCast, u8s_take]
    exact SRow.take1 (ho28.row bs.length c) hle
  intro a36 c37 H38 happ
  rw [Int.toNat_natCast] at happ
  obtain ⟨h1, h2, h3⟩ := fresh_copy hn28 hlen happ
  have hb38 := hb.ext h2 (by simp)
  have ho38 := ho.ext h2 (by simp)
  refine ⟨b, 0, rfl, a, _, c, by rw [hb38.cell]; rfl, by omega, by omega, ?_⟩
  rintro _ rfl
  refine ⟨b, 0, rfl, hb38.cells _ _ (by simp), fun H47 hp47 => ?_⟩
  have hb47 := hp47.blk hb38 (by simp)
  rw [Int.toNat_natCast, Nat.zero_add] at *
  have hd := ho38.drop hle
  have hblk : ∀ k ∈ blkOf (if c = n then a else Option.map (fun x => Addr.add x (n * 1)) a), k ∈ blkOf a := by
    intro k hk
    split at hk
    · exact hk
    · obtain ⟨_, _, ⟨rfl, _⟩ | ⟨bb, oo, cs, rfl, _⟩⟩ := ho
      · cases hk
      · simp only [Option.map_some, add_none] at hk; exact hk
  have hblt := hb.lt
  refine ⟨a36, c37, by rw [hlen], ?_, ⟨g0, hB.drop n, _, _, by simpa [splice] using hb47, ?_, fun hm => hnb (hblk _ hm), fun k hk => hg k (hblk k hk)⟩, h2.any.trans hp47.ext⟩
  · rw [hlen]
    refine (h1.row n c37).ext hp47.ext (fun k hk hm => ?_)
    simp only [List.mem_singleton] at hm; subst hm
    have := h3 _ hk
    omega
  · rw [u8s_drop, List.length_drop]
    refine hd.ext hp47.ext (fun k hk hm => ?_)
    simp only [List.mem_singleton] at hm; subst hm
    exact hnb (hblk _ hk)

theorem get1_ok {G : Nat → Prop} {b : Nat} {s : List Int × Bool} {n : Nat} {H : Heap} (hn : n ≤ 7) (h : RIs G H b s) :
    Does Try.prog 97 [.pointer (some ⟨b, 0, none⟩), .int .i64 n] H fun v H' => v = .int .u64 (be (rd s n).1) ∧ RIs G H' b (rd s n).2 ∧ Ext [b] H H' := by
  have hB : Byt (rd s n).1 := rd_byt h.2.1 n
  have hl := rd_len s n
  refine Fn_of_vc Try.mixed (vc_get1 _ _ _ _) ?_
  refine (raw1_ok (by omega) h).mono ?_
  rintro _ H2 ⟨a, c, rfl, hrow, hr, hx⟩
  generalize (rd s n).1 = t at *
  refine ⟨_, _, _, rfl, fun v i H' => H' = H2 ∧ ∃ j : Nat, i = j ∧ j ≤ t.length ∧ v = be (t.take j), fun _ i _ => t.length - i.toNat, ⟨rfl, 0, rfl, by omega, rfl⟩, ?_⟩
  rintro _ _ _ ⟨rfl, j, rfl, hj, rfl⟩
  refine ⟨fun hlt => ?_, fun hge => ?_⟩
  · have hi : t[j]? = some t[j] := List.getElem?_eq_getElem (by omega)
    have htk : t.take (j + 1) = t.take j ++ [t[j]] := by rw [List.take_add_one, hi]; rfl
    obtain ⟨z0, z1⟩ := hB t[j] (List.getElem_mem _)
    obtain ⟨b11, o12, e, hc⟩ := SRow.at hrow (u8s_at hi)
    generalize t[j] = z at *
    obtain ⟨v0, v1⟩ := be_lt (hB.take j)
    have hv : be (t.take j) < 256 ^ 6 := by
      refine Int.lt_of_lt_of_le v1 ?_
      rw [List.length_take, Nat.min_eq_left hj]
      exact pow256 (by omega)
    refine ⟨by decide, ?_⟩
    rintro _ rfl
    refine ⟨by omega, hlt, b11, o12, e, z, by rw [Int.toNat_natCast]; exact hc, ?_⟩
    rintro _ rfl _ rfl
    have e8 : min (Int.toNat 8) (IntKind.bits .u64) = 8 := by decide
    have e6 : (256 : Int) ^ 6 = 281474976710656 := by decide
    rw [e6] at hv
    have eq : IntKind.wrap .u64 (IntKind.wrap .u64 (be (t.take j) * 2 ^ (min (Int.toNat 8) (IntKind.bits .u64))) + IntKind.wrap .u64 z) = be (t.take (j + 1)) := by
      rw [e8, htk, be_snoc, wrap_u64, wrap_u64, wrap_u64, show (2 : Int) ^ 8 = 256 by decide]
      omega
    exact ⟨⟨by omega, by omega⟩, ⟨rfl, j + 1, by omega, by omega, eq⟩, by simp only []; omega⟩
  · have : j = t.length := by omega
    subst this
    exact ⟨by rw [List.take_length], hr, hx⟩

theorem ru1_ok {G : Nat → Prop} {f n : Nat} {b : Nat} {s : List Int × Bool} {H : Heap} (hf : (f = 84 ∧ n = 2) ∨ (f = 85 ∧ n = 4) ∨ (f = 86 ∧ n = 1)) (h : RIs G H b s) :
    Does Try.prog f [.pointer (some ⟨b, 0, none⟩)] H fun v H' => v = .int .i64 (num s n) ∧ RIs G H' b (rd s n).2 ∧ Ext [b] H H' := by
  have w : n ≤ 4 → IntKind.wrap .i64 (num s n) = num s n := fun hn => by
    obtain ⟨h1, h2⟩ := num_lt h.2.1 hn
    exact wrap_of_in64 ⟨by omega, by omega⟩
  rcases hf with ⟨rfl, rfl⟩ | ⟨rfl, rfl⟩ | ⟨rfl, rfl⟩
  · refine Fn_of_vc Try.mixed (vc_r1u16 _ _ _) ?_
    refine (get1_ok (n := 2) (by omega) h).mono ?_
    rintro _ _ ⟨rfl, h1, h2⟩
    refine ⟨_, rfl, ?_⟩
    rintro _ rfl
    exact ⟨congrArg _ (w (by omega)), h1, h2⟩
  · refine Fn_of_vc Try.mixed (vc_r1u32 _ _ _) ?_
    refine (get1_ok (n := 4) (by omega) h).mono ?_
    rintro _ _ ⟨rfl, h1, h2⟩
    refine ⟨_, rfl, ?_⟩
    rintro _ rfl
    exact ⟨congrArg _ (w (by omega)), h1, h2⟩
  · refine Fn_of_vc Try.mixed (vc_r1u8 _ _ _) ?_
    refine (get1_ok (n := 1) (by omega) h).mono ?_
    rintro _ _ ⟨rfl, h1, h2⟩
    refine ⟨_, rfl, ?_⟩
    rintro _ rfl
    exact ⟨congrArg _ (w (by omega)), h1, h2⟩

end Go.Proofs
end

section
open Go Go.Vc
namespace Go.Proofs

theorem findlayer_ok {L : List Ly} {a : Option Addr} {c : Nat} (id : Int) {H : Heap} (hl : L.length ≤ 1000000) (h : LRow H a L) :
    Does Try.prog 44 [.slice a L.length c, .int .i64 id] H fun v H' => v = .tuple #[(getL L id).v, .bool (find L id).isSome] ∧ Ext [] H H' := by
  refine Fn_of_vc Try.mixed (vc_findlayer _ _ _ _ _ _) ?_
  intro b1 H2 hn
  refine ⟨fun i H' => H' = H2 ∧ ∃ j : Nat, i = j ∧ j ≤ L.length ∧ ∀ k y, k < j → L[k]? = some y → y.id ≠ id, fun i _ => L.length - i.toNat, ⟨rfl, 0, rfl, by omega, by omega⟩, ?_⟩
  rintro _ H6 ⟨e6, j, rfl, hj, hall⟩
  obtain rfl : H2 = H6 := e6.symm
  have last : ∀ {vs : List Value} {H' : Heap}, Puts H2 b1 0 vs H' → Ext [] H H' := fun hp => ext_new hn.ext hp.ext (by have := hn.eq; simp; omega)
  refine ⟨fun hlt => ?_, fun hge => ⟨hn.blk.cells _ _ (by simp), fun H21 hp => ?_⟩⟩
  · have hi : L[j]? = some L[j] := List.getElem?_eq_getElem (by omega)
    obtain ⟨b7, o8, e7, c0, c1, c2, c3⟩ := (h.ext hn.ext (by simp)).at hi
    generalize L[j] = x at *
    refine ⟨by omega, hlt, b7, o8, e7, _, by rw [Int.toNat_natCast]; exact c0, fun he => ⟨by omega, hlt, b7, o8, e7, _, by rw [Int.toNat_natCast]; exact c0, _, by rw [Int.toNat_natCast]; exact c1, _, by rw [Int.toNat_natCast]; exact c2, _, by rw [Int.toNat_natCast]; exact c3, hn.blk.cells _ _ (by simp), fun H16 hp => ?_⟩, fun hne => ⟨⟨by omega, by omega⟩, ⟨rfl, j + 1, by omega, by omega, ?_⟩, by simp only []; omega⟩⟩
    · have hb := hp.blk hn.blk (by simp)
      have hf := find_at hi he hall
      refine ⟨x.id, by rw [hb.cell]; rfl, x.par, by rw [hb.cell]; rfl, x.sec, by rw [hb.cell]; rfl, x.fr, by rw [hb.cell]; rfl, ?_, last hp⟩
      simp [getL, hf, Ly.v]
    · intro k y hk hy
      rcases Nat.lt_or_ge k j with h' | h'
      · exact hall k y h' hy
      · have : k = j := by omega
        subst this
        rw [hi] at hy
        simp only [Option.some.injEq] at hy
        subst hy
        exact hne
  · have hf : find L id = none := find_none.2 (fun y hy => by
      obtain ⟨k, hk, rfl⟩ := List.mem_iff_getElem.1 hy
      exact hall k _ (by omega) (List.getElem?_eq_getElem hk))
    have hb := hp.blk hn.blk (by simp)
    refine ⟨0, by rw [hb.cell]; rfl, 0, by rw [hb.cell]; rfl, 0, by rw [hb.cell]; rfl, false, by rw [hb.cell]; rfl, ?_, last hp⟩
    simp [getL, hf, Ly.v, Ly.zero]

theorem rchain_ok {L : List Ly} {a : Option Addr} {c : Nat} (id : Int) {H : Heap} (hl : L.length ≤ 100000) (h : LRow H a L) :
    Does Try.prog 45 [.slice a L.length c, .int .i64 id] H fun v H' => ∃ a' c', v = .slice a' (chain L id).length c' ∧ Own H' 1 a' (chain L id).length c' (ints (chain L id)) ∧ Ext [] H H' ∧ ∀ k ∈ blkOf a', H.size ≤ k := by
  refine Fn_of_vc Try.mixed (vc_rchain _ _ _ _ _ _) ?_
  refine ⟨fun a3 l4 c5 id' n H' => ∃ (j m : Nat) (d : List Int), n = j ∧ j + m = L.length + 1 ∧ d.length = l4 ∧ l4 ≤ j ∧ chain L id = (chainR L m id').reverse ++ d ∧ Own H' 1 a3 l4 c5 (ints d) ∧ (∀ k ∈ blkOf a3, H.size ≤ k) ∧ Ext [] H H', fun _ _ _ _ n _ => L.length + 1 - n.toNat,
    ⟨0, L.length + 1, [], rfl, by omega, rfl, Nat.le_refl _, by simp [chain], Own.nil _ _, by simp [blkOf], Ext.refl _ _⟩, ?_⟩
  rintro a3 l4 c5 id' _ H8 ⟨j, m, d, rfl, hjm, hdl, hlj, hch, ho8, hfr8, hx8⟩
  have out : ∀ {H' : Heap}, Ext [] H8 H' → (chainR L m id') = [] → ∃ a' c', Value.slice a3 l4 c5 = .slice a' (chain L id).length c' ∧ Own H' 1 a' (chain L id).length c' (ints (chain L id)) ∧ Ext [] H H' ∧ ∀ k ∈ blkOf a', H.size ≤ k := by
    intro H' he e
    rw [hch, e, List.reverse_nil, List.nil_append]
    subst hdl
    exact ⟨a3, c5, rfl, ho8.ext he (by simp), hx8.trans he, hfr8⟩
  refine ⟨fun hlt => ?_, fun hge => out (Ext.refl _ _) (by rw [show m = 0 by omega]; rfl)⟩
  obtain ⟨m, rfl⟩ : ∃ k, m = k + 1 := ⟨m - 1, by omega⟩
  refine (findlayer_ok id' (by omega) (h.ext hx8 (by simp))).mono ?_
  rintro _ H10 ⟨rfl, hx10⟩
  refine ⟨_, _, _, _, _, rfl, fun b16 H17 hn17 => ⟨hn17.blk.cells _ _ (by simp), fun H18 hp18 => ?_⟩⟩
  have hb18 := hp18.blk hn17.blk (by simp)
  have hx18 : Ext [] H8 H18 := ext_new (hx10.trans hn17.ext) hp18.ext (by have := hn17.eq; have := hx10.size; simp; omega)
  refine ⟨fun e => out hx18 ?_, fun e b19 H20 hn20 => ?_⟩
  · simp only [chainR, none_of e]
  cases hf : find L id' with
  | none => rw [hf] at e; exact absurd rfl e
  | some x =>
    have hx := (find_some hf).1
    have hg : getL L id' = x := by simp [getL, hf]
    rw [hg] at hb18
    have e20 := hn20.eq
    have hs20 := hn20.size
    have hs18 := hx18.size
    have hs8 := hx8.size
    have hnew : Own H20 1 (some ⟨b19, 0, none⟩) 1 1 (ints [id']) := Own.of_new (size := 1) (len := 1) (cap := 1) hn20.blk rfl (Nat.le_refl _) (by decide)
    have ho20 := (ho8.ext hx18 (by simp)).ext hn20.ext (by simp)
    refine ⟨ints [id'], ints d, hnew.row _ _, ho20.row _ _, ints_one _, by omega, fun hle => by simpa using hnew.room (n := l4) (by omega), fun a23 c24 H25 happ => ?_⟩
    obtain ⟨ho25, hx25, hfr25⟩ := happ.own hnew (hnew.row _ _) (by rw [ints_length]; omega) rfl
    have hb25 := (hb18.ext hn20.ext (by simp)).ext hx25 (by have := hb18.lt; simp [blkOf]; omega)
    refine ⟨x.par, by rw [hb25.cell]; rfl, ⟨by omega, by omega⟩, ⟨j + 1, m, id' :: d, by omega, by omega, by simp; omega, by omega, ?_, ?_, ?_, ?_⟩, by simp only []; omega⟩
    · rw [hch]; simp only [chainR, hf, List.reverse_cons, List.append_assoc, List.singleton_append, hx]
    · have : ints (id' :: d) = ints [id'] ++ ints d := by simp [ints]
      rw [this]; exact ho25
    · intro k hk
      rcases hfr25 k hk with h' | h'
      · simp only [blkOf, List.mem_singleton] at h'; omega
      · omega
    · exact ext_new ((hx8.trans hx18).trans hn20.ext) hx25 (fun k hk => by simp only [blkOf, List.mem_singleton] at hk; omega)

theorem samegraph_ok {L K : List Ly} {a a' : Option Addr} {c c' : Nat} {H : Heap} (hl : L.length ≤ 1000000) (h : LRow H a L) (k : LRow H a' K) :
    Does Try.prog 43 [.slice a L.length c, .slice a' K.length c'] H fun v H' => (L = K → v = .bool true) ∧ H = H' := by
  refine Fn_of_vc Try.mixed (vc_samegraph _ _ _ _ _ _ _ _) ?_
  refine ⟨fun e => ⟨fun e' => absurd (by rw [e']) e, rfl⟩, fun e => ?_⟩
  refine ⟨fun i H' => H' = H ∧ ∃ j : Nat, i = j ∧ j ≤ L.length, fun i _ => L.length - i.toNat, ⟨rfl, 0, rfl, by omega⟩, ?_⟩
  rintro _ _ ⟨rfl, j, rfl, hj⟩
  refine ⟨fun hlt => ?_, fun hge => ⟨fun _ => rfl, rfl⟩⟩
  have hi : L[j]? = some L[j] := List.getElem?_eq_getElem (by omega)
  have hi' : K[j]? = some (K[j]'(by omega)) := List.getElem?_eq_getElem (by omega)
  obtain ⟨b5, o6, e5, c0, c1, c2, c3⟩ := h.at hi
  obtain ⟨b8, o9, e8, d0, d1, d2, d3⟩ := k.at hi'
  refine ⟨by omega, hlt, b5, o6, e5, _, by rw [Int.toNat_natCast]; exact c0, _, by rw [Int.toNat_natCast]; exact c1, _, by rw [Int.toNat_natCast]; exact c2, _, by rw [Int.toNat_natCast]; exact c3, by omega, by omega, b8, o9, e8, _, by rw [Int.toNat_natCast]; exact d0, _, by rw [Int.toNat_natCast]; exact d1, _, by rw [Int.toNat_natCast]; exact d2, _, by rw [Int.toNat_natCast]; exact d3, fun hne => ⟨fun e' => ?_, rfl⟩, fun _ => ⟨⟨by omega, by omega⟩, ⟨rfl, j + 1, by omega, by omega⟩, by simp only []; omega⟩⟩
  subst e'
  exact absurd ⟨rfl, rfl, rfl, rfl⟩ hne

theorem few_ok {bs : List Int} {a : Option Addr} {c n : Nat} {H : Heap} (hn : n = bs.length) (hc : bs.length ≤ c) (hl : bs.length ≤ 140737488355328) (h : SRow H 1 bs.length (.slice a bs.length c) (u8s bs)) :
    Does Try.prog 41 [.slice a bs.length c, .int .i64 (n : Int)] H fun v H' => Told H H' v bs ∧ Ext [] H H' := by
  refine Fn_of_vc Try.mixed (vc_few _ _ _ _ _ _) ?_
  intro b1 H2 hn1
  subst hn
  have e : Int.toNat (min (bs.length : Int) (bs.length : Int)) = bs.length := by rw [Int.min_self]; rfl
  have hoe : Own H2 1 (some ⟨b1, 0, none⟩) 0 0 ([] : List Value) := Own.of_new (size := 1) (len := 0) (cap := 0) hn1.blk rfl (Nat.le_refl _) (by decide)
  rw [e]
  refine ⟨by omega, by omega, [], u8s bs, hoe.row _ _, h.ext hn1.ext (by simp), u8s_one _, by omega, fun hle => hoe.room (n := bs.length) hle, fun a5 c6 H7 happ => ?_⟩
  obtain ⟨h1, h2, h3⟩ := fresh_copy hn1 rfl happ
  rw [Nat.zero_add] at h1 ⊢
  exact ⟨⟨_, _, rfl, h1, h3⟩, h2⟩
end Go.Proofs
end

section
open Go Go.Vc
namespace Go.Proofs

structure OkG (L : List Ly) (i : Nat) (x : Ly) : Prop where
  lo : 1 ≤ x.id
  hi : x.id ≤ 2147483647
  asc : ascB L i x = true
  two : x.sec = 0 ∨ (x.par ≠ 0 ∧ x.par ≠ x.sec)
  par : mayStand (L.take i) x.par = true
  sec : mayStand (L.take i) x.sec = true
  len : (chain L x.id).length ≤ 12

theorem rightG_iff {L : List Ly} : rightB L = true ↔ (∀ i x, L[i]? = some x → OkG L i x) ∧ L.length ≤ 40 := by
  have el : ∀ x : Ly, (chain L x.id).length = (chainR L (L.length + 1) x.id).length := fun x => by unfold chain; rw [List.length_reverse]
  rw [right_iff]
  constructor
  · rintro ⟨ha, hf, hl⟩
    refine ⟨fun i x hi => ?_, hl⟩
    have h := hf x (List.mem_of_getElem? hi)
    exact ⟨h.lo, h.hi, asc_iff.2 ha i x hi, h.two, (stand_iff ha hi _).2 h.par, (stand_iff ha hi _).2 h.sec, by rw [el]; exact h.len⟩
  · rintro ⟨h, hl⟩
    have ha : Asc L := asc_iff.1 fun i x hi => (h i x hi).asc
    refine ⟨ha, fun x hx => ?_, hl⟩
    obtain ⟨i, hi, rfl⟩ := List.mem_iff_getElem.1 hx
    have hi' := List.getElem?_eq_getElem hi
    have h' := h i _ hi'
    exact ⟨h'.lo, h'.hi, (stand_iff ha hi' _).1 h'.par, (stand_iff ha hi' _).1 h'.sec, h'.two, by rw [← el]; exact h'.len⟩

set_option maxHeartbeats 1000000 in
theorem rightgraph_ok {L : List Ly} {a : Option Addr} {c : Nat} {H : Heap} (hl : L.length ≤ 100000) (hc : L.length ≤ c) (h : LRow H a L) :
    Does Try.prog 40 [.slice a L.length c] H fun v H' => v = .bool (rightB L) ∧ Ext [] H H' := by
  refine Fn_of_vc Try.mixed (vc_rightgraph _ _ _ _ _) ?_
  refine ⟨fun i H' => ∃ j : Nat, i = j ∧ j ≤ L.length ∧ (∀ k x, k < j → L[k]? = some x → OkG L k x) ∧ Ext [] H H', fun i _ => L.length - i.toNat, ⟨0, rfl, by omega, by omega, Ext.refl _ _⟩, ?_⟩
  rintro _ H4 ⟨j, rfl, hj, hall, hx4⟩
  refine ⟨fun hlt => ?_, fun hge => ⟨?_, hx4⟩⟩
  rotate_left
  · refine congrArg Value.bool (dec_bool ?_)
    have : j = L.length := by omega
    subst this
    rw [rightG_iff]
    constructor
    · intro hl40
      refine ⟨fun i x hi => hall i x (List.getElem?_eq_some_iff.1 hi).1 hi, by omega⟩
    · rintro ⟨_, hl40⟩; omega
  have hi : L[j]? = some L[j] := List.getElem?_eq_getElem (by omega)
  have hprev : ∀ k, j = k + 1 → ∃ y, L[k]? = some y := fun k e => ⟨_, List.getElem?_eq_getElem (by omega)⟩
  obtain ⟨b5, o6, e5, c0, c1, c2, c3⟩ := (h.ext hx4 (by simp)).at hi
  generalize L[j] = x at *
  have bad : ∀ {H' : Heap}, ¬ OkG L j x → Ext [] H H' → Value.bool false = .bool (rightB L) ∧ Ext [] H H' := by
    intro H' hn he
    refine ⟨?_, he⟩
    cases hr : rightB L with
    | false => rfl
    | true => exact absurd ((rightG_iff.1 hr).1 j x hi) hn
  refine ⟨by omega, hlt, b5, o6, e5, _, by rw [Int.toNat_natCast]; exact c0, _, by rw [Int.toNat_natCast]; exact c1, _, by rw [Int.toNat_natCast]; exact c2, _, by rw [Int.toNat_natCast]; exact c3, fun b11 H12 hn12 => ⟨hn12.blk.cells _ _ (by simp), fun H13 hp13 => ?_⟩⟩
  have hb13 : Blk H13 b11 x.cells := by simpa [splice, Ly.cells] using hp13.blk hn12.blk (by simp)
  have hx13 : Ext [] H H13 := hx4.trans (ext_new hn12.ext hp13.ext (by have := hn12.eq; simp; omega))
  have q0 : hcell H13 b11 0 = some (.int .i64 x.id) := by rw [hb13.cell]; rfl
  have q1 : hcell H13 b11 (0 + 1) = some (.int .i64 x.par) := by rw [hb13.cell]; rfl
  have q2 : hcell H13 b11 (0 + 2) = some (.int .i64 x.sec) := by rw [hb13.cell]; rfl
  refine ⟨fun p H' => p = some ⟨b11, 0, none⟩ ∧ H' = H13 ∧ 1 ≤ x.id ∧ x.id ≤ 2147483647 ∧ ascB L j x = true ∧ (x.sec = 0 ∨ (x.par ≠ 0 ∧ x.par ≠ x.sec)), ?_, ?_⟩
  · refine ⟨_, q0, fun e => bad (fun o => by have := o.lo; omega) hx13, fun h1 => ⟨_, q0, fun e => bad (fun o => by have := o.hi; omega) hx13, fun h2 => ⟨fun hp => ?_, fun hz => ?_⟩⟩⟩
    · obtain ⟨k, rfl⟩ : ∃ k, j = k + 1 := ⟨j - 1, by omega⟩
      obtain ⟨y, hy⟩ := hprev k rfl
      obtain ⟨b18, o19, e18, d0, _⟩ := (h.ext hx13 (by simp)).at hy
      have ek : (((k + 1 : Nat) : Int) - 1).toNat = k := by omega
      refine ⟨_, q0, ⟨by omega, by omega⟩, by omega, by omega, b18, o19, e18, _, by rw [ek]; exact d0, fun e => bad (fun o => by have := o.asc; simp [ascB, hy] at this; omega) hx13, fun h3 => ?_⟩
      have hasc : ascB L (k + 1) x = true := by simp [ascB, hy]; omega
      exact ⟨_, q1, fun e0 => ⟨_, q2, fun e1 => bad (fun o => by have := o.two; omega) hx13, fun e1 => ⟨_, q1, fun e2 => absurd e0 e2, fun _ => ⟨rfl, rfl, by omega, by omega, hasc, by omega⟩⟩⟩,
        fun e0 => ⟨_, q1, fun _ => ⟨_, q1, _, q2, fun e1 => bad (fun o => by have := o.two; omega) hx13, fun e1 => ⟨rfl, rfl, by omega, by omega, hasc, .inr ⟨e0, e1⟩⟩⟩, fun e1 => absurd e1 (by simpa using e0)⟩⟩
    · have : j = 0 := by omega
      subst this
      have hasc : ascB L 0 x = true := rfl
      exact ⟨_, q1, fun e0 => ⟨_, q2, fun e1 => bad (fun o => by have := o.two; omega) hx13, fun e1 => ⟨_, q1, fun e2 => absurd e0 e2, fun _ => ⟨rfl, rfl, by omega, by omega, hasc, by omega⟩⟩⟩,
        fun e0 => ⟨_, q1, fun _ => ⟨_, q1, _, q2, fun e1 => bad (fun o => by have := o.two; omega) hx13, fun e1 => ⟨rfl, rfl, by omega, by omega, hasc, .inr ⟨e0, e1⟩⟩⟩, fun e1 => absurd e1 (by simpa using e0)⟩⟩
  rintro _ H38 ⟨rfl, e38, g1, g2, g3, g4⟩
  obtain rfl : H13 = H38 := e38.symm
  have htl : (L.take j).length = j := by rw [List.length_take]; omega
  refine ⟨fun i H' => ∃ k : Nat, i = k ∧ k ≤ 2 ∧ (0 < k → mayStand (L.take j) x.par = true) ∧ (1 < k → mayStand (L.take j) x.sec = true) ∧ Ext [] H13 H', fun i _ => 2 - i.toNat, ⟨0, rfl, by omega, by omega, by omega, Ext.refl _ _⟩, ?_⟩
  rintro _ H42 ⟨k, rfl, hk, hk0, hk1, hx42⟩
  have hb42 := hb13.ext hx42 (by simp)
  have r0 : hcell H42 b11 0 = some (.int .i64 x.id) := by rw [hb42.cell]; rfl
  have r1 : hcell H42 b11 (0 + 1) = some (.int .i64 x.par) := by rw [hb42.cell]; rfl
  have r2 : hcell H42 b11 (0 + 2) = some (.int .i64 x.sec) := by rw [hb42.cell]; rfl
  refine ⟨fun hlt2 => ⟨_, r1, _, r2, by omega, by omega, by omega, ?_⟩, fun hge2 => ⟨_, r0, ?_⟩⟩
  · rintro q rfl
    refine ⟨by omega, by omega, ?_⟩
    rw [Int.toNat_natCast, Int.toNat_natCast]
    have hf := findlayer_ok (c := c) (([x.par, x.sec] : List Int).getD k 0) (by omega) ((h.take j).ext (hx13.trans hx42) (by simp))
    rw [htl] at hf
    refine hf.mono ?_
    generalize hq : ([x.par, x.sec] : List Int).getD k 0 = q
    rintro _ H51 ⟨rfl, hx51⟩
    have next : ∀ {H' : Heap}, mayStand (L.take j) q = true → Ext [] H13 H' → In64 ((k : Int) + 1) ∧ (∃ k' : Nat, (k : Int) + 1 = k' ∧ k' ≤ 2 ∧ (0 < k' → mayStand (L.take j) x.par = true) ∧ (1 < k' → mayStand (L.take j) x.sec = true) ∧ Ext [] H13 H') ∧ 2 - ((k : Int) + 1).toNat < 2 - (k : Int).toNat := by
      intro H' hm he
      refine ⟨⟨by omega, by omega⟩, ⟨k + 1, by omega, by omega, fun _ => ?_, fun h1 => ?_, he⟩, by omega⟩
      · rcases Nat.eq_zero_or_pos k with rfl | hp
        · rw [← hq] at hm; exact hm
        · exact hk0 hp
      · have : k = 1 := by omega
        subst this
        rw [← hq] at hm; exact hm
    have wrongq : ∀ {H' : Heap}, mayStand (L.take j) q = false → Ext [] H H' → Value.bool false = .bool (rightB L) ∧ Ext [] H H' := by
      intro H' hm he
      refine bad (fun o => ?_) he
      have h1 := o.par
      have h2 := o.sec
      have : k = 0 ∨ k = 1 := by omega
      rcases this with rfl | rfl
      · rw [← hq] at hm; rw [show ([x.par, x.sec] : List Int).getD 0 0 = x.par from rfl, h1] at hm; cases hm
      · rw [← hq] at hm; rw [show ([x.par, x.sec] : List Int).getD 1 0 = x.sec from rfl, h2] at hm; cases hm
    refine ⟨_, _, _, _, _, rfl, fun b57 H58 hn58 => ⟨hn58.blk.cells _ _ (by simp), fun H59 hp59 => ?_⟩⟩
    have hb59 := hp59.blk hn58.blk (by simp)
    have hx59 : Ext [] H13 H59 := hx42.trans (ext_new (hx51.trans hn58.ext) hp59.ext (by have := hn58.eq; have := hx51.size; simp; omega))
    have hX59 := hx13.trans hx59
    refine ⟨fun hq0 => ⟨fun hs => wrongq (by simp [mayStand, hq0, hs]) hX59, fun hs => ⟨_, by rw [hb59.cell]; rfl, fun hf => wrongq (by simp [mayStand, hq0, hf]) hX59, fun hf => next (by
      have h1 : (find (L.take j) q).isSome = true := by
        cases hh : (find (L.take j) q).isSome with
        | true => rfl
        | false => exact absurd hh hs
      have h2 : (getL (L.take j) q).fr = true := by simpa using hf
      simp [mayStand, h1, h2]) hx59⟩⟩, fun hq0 => next (by have : q = 0 := by omega
                                                           simp [mayStand, this]) hx59⟩
  · have : k = 2 := by omega
    subst this
    refine (rchain_ok x.id hl (h.ext (hx13.trans hx42) (by simp))).mono ?_
    rintro _ H65 ⟨a66, c68, rfl, _, hx65, _⟩
    have hX65 := (hx13.trans hx42).trans hx65
    refine ⟨_, _, _, rfl, fun e => bad (fun o => by have := o.len; omega) hX65, fun e => ⟨⟨by omega, by omega⟩, ⟨j + 1, by omega, by omega, fun k' y hk' hy => ?_, hX65⟩, by simp only []; omega⟩⟩
    rcases Nat.lt_or_ge k' j with h' | h'
    · exact hall k' y h' hy
    · have : k' = j := by omega
      subst this
      rw [hi] at hy
      simp only [Option.some.injEq] at hy
      subst hy
      exact ⟨g1, g2, g3, g4, hk0 (by omega), hk1 (by omega), by omega⟩
end Go.Proofs
end

section
open Go Go.Vc
namespace Go.Proofs

set_option maxHeartbeats 1000000 in
theorem laygraph_ok {L : List Ly} {a : Option Addr} {c : Nat} {H : Heap} (hl : L.length ≤ 100000) (hc : L.length ≤ c) (h : LRow H a L) :
    Does Try.prog 39 [.slice a L.length c] H fun v H' => Laid L H v H' ∧ Ext [] H H' := by
  refine Fn_of_vc Try.mixed (vc_laygraph _ _ _ _ _) ?_
  refine (rightgraph_ok hl hc h).mono ?_
  rintro _ H2 ⟨rfl, hx2⟩
  refine ⟨_, rfl, fun e => ⟨.inl ⟨e, rfl⟩, hx2⟩, fun e b4 H5 hn5 => ?_⟩
  have hr : rightB L = true := by simpa using e
  have hl40 := (right_iff.1 hr).2.2
  have e4 := hn5.eq
  have hx5 := hn5.ext
  have hw5 : WIs (fun k => H2.size ≤ k) H5 b4 [] := ⟨by omega, none, 0, hn5.blk, Own.nil _ _, by simp [blkOf], by simp [blkOf]⟩
  refine (wu1_ok (n := 2) (.inl ⟨rfl, rfl⟩) (fun k hk => by have := hx5.size; show H2.size ≤ k; omega) (by simp) hw5).mono ?_
  rintro _ H8 ⟨rfl, hw8, hx8⟩
  have hX8 : Ext [] H H8 := hx2.trans (hx5.transP hx8 (fun i hi => hi))
  have hs2 := hx2.size
  refine ⟨rfl, fun i H' => ∃ j : Nat, i = j ∧ j ≤ L.length ∧ Ext [] H H' ∧ H2.size ≤ H'.size ∧ WIs (fun k => H2.size ≤ k) H' b4 (beL 2 (IntKind.wrap .u64 L.length) ++ ((L.take j).map recB).flatten), fun i _ => L.length - i.toNat, ⟨0, rfl, by omega, hX8, by have := hx5.size; have := hx8.size; omega, by simpa using hw8⟩, ?_⟩
  rintro _ H12 ⟨j, rfl, hj, hx12, hs12, hw12⟩
  refine ⟨fun hlt => ?_, fun hge => ?_⟩
  · have hi : L[j]? = some L[j] := List.getElem?_eq_getElem (by omega)
    have htk : L.take (j + 1) = L.take j ++ [L[j]] := by rw [List.take_add_one, hi]; rfl
    have rdx : ∀ {H' : Heap}, Ext [] H H' → _ := fun he => (h.ext he (by simp)).at hi
    generalize L[j] = x at *
    have hblen : (beL 2 (IntKind.wrap .u64 L.length) ++ ((L.take j).map recB).flatten).length ≤ 600 := by
      rw [List.length_append, beL_length, recs_length, List.length_take]; omega
    generalize hbs : (beL 2 (IntKind.wrap .u64 L.length) ++ ((L.take j).map recB).flatten) = bs at *
    have far : ∀ {H3 H4 : Heap}, ExtP (fun k => H2.size ≤ k) H3 H4 → Ext [] H H3 → Ext [] H H4 := fun he hx => hx.transP he (fun i hi => by have : H2.size ≤ i := hi; omega)
    obtain ⟨b13, o14, ea, g0, _⟩ := rdx hx12
    refine ⟨by omega, hlt, b13, o14, ea, _, by rw [Int.toNat_natCast]; exact g0, (wu1_ok (n := 4) (.inr (.inl ⟨rfl, rfl⟩)) (fun k hk => by show H2.size ≤ k; omega) (by omega) hw12).mono ?_⟩
    rintro _ H24 ⟨rfl, hw24, hx24⟩
    have hs24 := hx24.size
    have hX24 := far hx24 hx12
    obtain ⟨b13, o14, ea, _, g0, _⟩ := rdx hX24
    refine ⟨rfl, by omega, hlt, b13, o14, ea, _, by rw [Int.toNat_natCast]; exact g0, (wu1_ok (n := 4) (.inr (.inl ⟨rfl, rfl⟩)) (fun k hk => by show H2.size ≤ k; omega) (by simp only [List.length_append, beL_length]; omega) hw24).mono ?_⟩
    rintro _ H27 ⟨rfl, hw27, hx27⟩
    have hs27 := hx27.size
    have hX27 := far hx27 hX24
    obtain ⟨b13, o14, ea, _, _, g0, _⟩ := rdx hX27
    refine ⟨rfl, by omega, hlt, b13, o14, ea, _, by rw [Int.toNat_natCast]; exact g0, (wu1_ok (n := 4) (.inr (.inl ⟨rfl, rfl⟩)) (fun k hk => by show H2.size ≤ k; omega) (by simp only [List.length_append, beL_length]; omega) hw27).mono ?_⟩
    rintro _ H30 ⟨rfl, hw30, hx30⟩
    have hs30 := hx30.size
    have hX30 := far hx30 hX27
    have fin : ∀ {H' : Heap}, WIs (fun k => H2.size ≤ k) H' b4 (bs ++ beL 4 (IntKind.wrap .u64 x.id) ++ beL 4 (IntKind.wrap .u64 x.par) ++ beL 4 (IntKind.wrap .u64 x.sec) ++ beL 1 (IntKind.wrap .u64 (frI x.fr))) → ExtP (fun k => H2.size ≤ k) H30 H' →
        In64 ((j : Int) + 1) ∧ (∃ j' : Nat, (j : Int) + 1 = j' ∧ j' ≤ L.length ∧ Ext [] H H' ∧ H2.size ≤ H'.size ∧ WIs (fun k => H2.size ≤ k) H' b4 (beL 2 (IntKind.wrap .u64 L.length) ++ ((L.take j').map recB).flatten)) ∧ L.length - ((j : Int) + 1).toNat < L.length - (j : Int).toNat := by
      intro H' hw he
      refine ⟨⟨by omega, by omega⟩, ⟨j + 1, by omega, by omega, far he hX30, by have := he.size; omega, ?_⟩, by omega⟩
      rw [htk]
      rw [List.map_append, List.flatten_append, ← List.append_assoc, show (List.map recB [x]).flatten = recB x by simp, hbs]
      simpa [recB, List.append_assoc] using hw
    obtain ⟨b13, o14, ea, _, _, _, g0⟩ := rdx hX30
    refine ⟨rfl, by omega, hlt, b13, o14, ea, x.fr, by rw [Int.toNat_natCast]; exact g0, fun ef => ?_, fun ef => ?_⟩
    · refine (wu1_ok (n := 1) (.inr (.inr ⟨rfl, rfl⟩)) (fun k hk => by show H2.size ≤ k; omega) (by simp only [List.length_append, beL_length]; omega) hw30).mono ?_
      rintro _ H33 ⟨rfl, hw33, hx33⟩
      refine ⟨rfl, fin ?_ hx33⟩
      rw [ef]; exact hw33
    · refine (wu1_ok (n := 1) (.inr (.inr ⟨rfl, rfl⟩)) (fun k hk => by show H2.size ≤ k; omega) (by simp only [List.length_append, beL_length]; omega) hw30).mono ?_
      rintro _ H35 ⟨rfl, hw35, hx35⟩
      refine ⟨rfl, fin ?_ hx35⟩
      rw [ef]; exact hw35
  · have : j = L.length := by omega
    subst this
    rw [List.take_length] at hw12
    obtain ⟨g0, a', c', hb, ho, hnb, hg⟩ : WIs (fun k => H2.size ≤ k) H12 b4 (layB L) := hw12
    exact ⟨b4, 0, rfl, a', _, c', by rw [hb.cell]; rfl, .inr ⟨hr, a', c', rfl, ho, fun k hk => by have : H2.size ≤ k := hg k hk; omega⟩, hx12⟩

/-! ### Bytes as bytes -/
def toU (l : List Int) : List UInt8 := l.map fun z => UInt8.ofNat z.toNat
theorem u8s_toU {l : List Int} (h : Byt l) : u8s l = (toU l).map fun b => .int .u8 b.toNat := by
  unfold u8s toU
  rw [List.map_map]
  refine List.map_congr_left fun z hz => ?_
  obtain ⟨h0, h1⟩ := h z hz
  have : (UInt8.ofNat z.toNat).toNat = z.toNat := by rw [UInt8.toNat_ofNat']; omega
  simp only [Function.comp_apply, this, Value.int.injEq, true_and]
  omega
theorem u8s_inj : ∀ {l m : List Int}, u8s l = u8s m → l = m
  | [], [], _ => rfl
  | [], _ :: _, h => by cases h
  | _ :: _, [], h => by cases h
  | x :: l, y :: m, h => by
    simp only [u8s, List.map_cons, List.cons.injEq, Value.int.injEq, true_and] at h
    rw [h.1, u8s_inj (l := l) (m := m) h.2]
theorem toU_inj {l m : List Int} (hl : Byt l) (hm : Byt m) (h : (ByteArray.mk (List.toArray (toU l))) = (ByteArray.mk (List.toArray (toU m)))) : l = m := by
  refine u8s_inj ?_
  rw [u8s_toU hl, u8s_toU hm]
  injection h with h
  rw [show toU l = toU m by simpa using h]

def isOne (d : Int) : Bool := decide (d = 1)

theorem parse_app2 {f : Int → Bool} (f1 : f 1 = true) (f0 : f 0 = false) : ∀ (L : List Ly) (rest : List Int), (∀ x ∈ L, InR x) → (parse f L.length ((L.map recB).flatten ++ rest, false)).2 = (rest, false)
  | [], _, _ => rfl
  | x :: r, rest, h => by
    have e : ((x :: r).map recB).flatten ++ rest = recB x ++ ((r.map recB).flatten ++ rest) := by simp
    rw [e, List.length_cons, parse, if_neg (by simp), rec1_app f1 f0 (h x (by simp))]
    simp only []
    rw [parse_app2 f1 f0 r rest (fun y hy => h y (by simp [hy]))]

theorem read_lack {f : Int → Bool} (f1 : f 1 = true) (f0 : f 0 = false) {L : List Ly} (hr : rightB L = true) : (parse f (num (layB L, false) 2).toNat (rd (layB L, false) 2).2).2 = ([], false) := by
  have hl := (right_iff.1 hr).2.2
  unfold layB num
  rw [rd_app (beL_length 2 _)]
  simp only []
  rw [wr (by omega) (by omega), be_two (by omega) (by omega), Int.toNat_natCast]
  have := parse_app2 f1 f0 L [] (right_in hr)
  rwa [List.append_nil] at this
theorem parse_lack2 (f : Int → Bool) (n : Nat) {s : List Int × Bool} (h : s.2 = true) : (parse f n s).2 = s := by
  cases n with
  | zero => rfl
  | succ n => simp only [parse, if_pos h]
end Go.Proofs
end

section
open Go Go.Vc
namespace Go.Proofs

theorem rgraph_fin {bs : List Int} {a0 : Option Addr} {c0 : Nat} {H H1 : Heap} (hB : Byt bs) (h0 : SRow H 1 bs.length (.slice a0 bs.length c0) (u8s bs)) (hx : Ext [] H H1)
    {L : List Ly} {a : Option Addr} {c b : Nat} {s : List Int × Bool} {G : Nat → Prop} (hl : L.length ≤ 100000) (ho : Own H1 4 a L.length c (rowsOf L)) (hfr : ∀ k ∈ blkOf a, H.size ≤ k) (hr : RIs G H1 b s)
    (hP : ∀ L0, rightB L0 = true → layB L0 = bs → L = L0 ∧ s.2 = false) :
              Does Try.prog 39 [(.slice a L.length c)] H1 fun v56 H57 => ∃ a58 : Option Addr, ∃ l59 : Nat, ∃ c60 : Nat, ∃ n61 : Int, v56 = (.tuple #[(.slice a58 l59 c60), (.int .i64 n61)]) ∧ (
                ((((n61 : Int) ≠ 0) → (
                      ReadS bs H (.tuple #[(.slice none 0 0), (.int .i64 2)]) H57 ∧ Ext [] H H57)) ∧ (¬ ((n61 : Int) ≠ 0) → (
                      ∃ b62 o63 : Nat, (some (⟨b, 0, none⟩ : Addr)) = some (⟨b62, o63, none⟩ : Addr) ∧ (
                        ∃ t64 : Bool, hcell H57 b62 (o63 + 1) = some (.bool t64) ∧ (
                          ((t64 = true → (
                                ReadS bs H (.tuple #[(.slice none 0 0), (.int .i64 2)]) H57 ∧ Ext [] H H57)) ∧ (t64 = false → (
                                ∃ l65 : List UInt8, SRow H57 1 l59 (.slice a58 l59 c60) (List.map (fun (b : UInt8) => Value.int .u8 b.toNat) l65) ∧ (
                                  ∃ l66 : List UInt8, SRow H57 1 bs.length (.slice a0 bs.length c0) (List.map (fun (b : UInt8) => Value.int .u8 b.toNat) l66) ∧ (
                                    (((((ByteArray.mk (List.toArray l65)) : ByteArray) ≠ (ByteArray.mk (List.toArray l66))) → (
                                          ReadS bs H (.tuple #[(.slice none 0 0), (.int .i64 2)]) H57 ∧ Ext [] H H57)) ∧ (¬ (((ByteArray.mk (List.toArray l65)) : ByteArray) ≠ (ByteArray.mk (List.toArray l66))) → (
                                          ReadS bs H (.tuple #[(.slice a L.length c), (.int .i64 0)]) H57 ∧ Ext [] H H57)))))))))))))) := by
  obtain ⟨hrow, _⟩ := own_lrow ho
  refine (laygraph_ok hl ho.2.1 hrow).mono ?_
  rintro _ H37 ⟨hL, hx37⟩
  have hX := hx.trans hx37
  rcases hL with ⟨hw, rfl⟩ | ⟨hw, a38, c40, rfl, ho38, hfr38⟩
  · refine ⟨none, 0, 0, 1, rfl, fun _ => ⟨.inr ⟨fun L0 g0 g1 => ?_, rfl⟩, hX⟩, fun e => absurd (by decide) e⟩
    rw [(hP L0 g0 g1).1] at hw
    rw [hw] at g0; cases g0
  · refine ⟨a38, _, c40, 0, rfl, fun e => absurd rfl e, fun _ => ?_⟩
    obtain ⟨_, _, a', c', hb, _⟩ := hr.ext hx37
    refine ⟨b, 0, rfl, s.2, by rw [hb.cell]; rfl, fun e => ⟨.inr ⟨fun L0 g0 g1 => ?_, rfl⟩, hX⟩, fun e => ?_⟩
    · rw [(hP L0 g0 g1).2] at e; cases e
    have hBL := layB_byt L
    refine ⟨toU (layB L), by rw [← u8s_toU hBL]; exact ho38.row _ _, toU bs, by rw [← u8s_toU hB]; exact SRow.ext h0 hX (by simp), fun hne => ⟨.inr ⟨fun L0 g0 g1 => hne ?_, rfl⟩, hX⟩, fun heq => ⟨.inl ⟨L, a, c, hw, ?_, rfl, ho.ext hx37 (by simp), hfr⟩, hX⟩⟩
    · rw [(hP L0 g0 g1).1, g1]
    · exact toU_inj hBL hB (Classical.byContradiction fun hn => heq hn)

set_option maxHeartbeats 1000000 in
theorem readgraph_ok {bs : List Int} {a : Option Addr} {c : Nat} {H : Heap} (hB : Byt bs) (h : OwnO H a bs.length c (u8s bs)) :
    Does Try.prog 42 [.slice a bs.length c] H fun v H' => ReadS bs H v H' ∧ Ext [] H H' := by
  refine Fn_of_vc Try.mixed (vc_readgraph _ _ _ _ _) ?_
  intro b1 H2 hn2
  have e1 := hn2.eq
  have hs2 := hn2.size
  have hlt := h.lt
  have hr2 : RIs (fun k => k < H2.size) H2 b1 (bs, false) := ⟨by omega, hB, a, c, hn2.blk, h.ext hn2.ext (by simp), fun hm => by have := hlt _ hm; omega, fun k hk => by have := hlt k hk; omega⟩
  refine (ru1_ok (n := 2) (.inl ⟨rfl, rfl⟩) hr2).mono ?_
  rintro _ H5 ⟨rfl, hr5, hx5⟩
  have far : ∀ {A B : Heap}, Ext [b1] A B → Ext [] H A → Ext [] H B := fun he hx => ext_new hx he (by simp; omega)
  have hX5 : Ext [] H H5 := far hx5 hn2.ext
  obtain ⟨n0, n1⟩ := num_lt2 (s := (bs, false)) hB
  have hP : ∀ L0, rightB L0 = true → layB L0 = bs → (parse isOne (num (bs, false) 2).toNat (rd (bs, false) 2).2).1 = L0 ∧ (parse isOne (num (bs, false) 2).toNat (rd (bs, false) 2).2).2.2 = false := fun L0 h0 h1 => by
    rw [← h1]
    exact ⟨readL_lay (f := isOne) rfl rfl h0, by rw [read_lack (f := isOne) rfl rfl h0]⟩
  generalize hn0 : num (bs, false) 2 = n at *
  generalize (rd (bs, false) 2).2 = s0 at *
  have h0row : SRow H 1 bs.length (.slice a bs.length c) (u8s bs) := h.row _ _
  refine ⟨_, rfl, fun a9 l10 c11 n12 H13 => ∃ (L : List Ly) (s : List Int × Bool) (m : Nat), n12 = m ∧ m + L.length ≤ 65535 ∧ L.length = l10 ∧ Own H13 4 a9 l10 c11 (rowsOf L) ∧ (∀ k ∈ blkOf a9, H2.size ≤ k) ∧ RIs (fun k => k < H2.size) H13 b1 s ∧ L ++ (parse isOne m s).1 = (parse isOne n.toNat s0).1 ∧ (parse isOne m s).2 = (parse isOne n.toNat s0).2 ∧ Ext [] H H13 ∧ H2.size ≤ H13.size, fun _ _ _ n _ => n.toNat,
    ⟨[], s0, n.toNat, by omega, by simp; omega, rfl, Own.nil _ _, by simp [blkOf], hr5, rfl, rfl, hX5, hx5.size⟩, ?_⟩
  rintro a9 l10 c11 _ H13 ⟨L, s, m, rfl, hmL, e10, ho13, hfr13, hr13, hL, hS, hx13, hs13⟩
  subst e10
  refine ⟨fun hlt => ?_, fun hge => ?_⟩
  · obtain ⟨m, rfl⟩ : ∃ k, m = k + 1 := ⟨m - 1, by omega⟩
    have hlk : hcell H13 b1 (0 + 1) = some (.bool s.2) := by
      obtain ⟨_, _, a', c', hb, _⟩ := hr13
      rw [hb.cell]; rfl
    refine ⟨b1, 0, rfl, s.2, hlk, fun el => ?_, fun el => ?_⟩
    · rw [parse, if_neg (by rw [el]; simp)] at hL hS
      refine (ru1_ok (n := 4) (.inr (.inl ⟨rfl, rfl⟩)) hr13).mono ?_
      rintro _ H17 ⟨rfl, hr17, hx17⟩
      have hs17 := hx17.size
      refine ⟨_, rfl, fun b19 H20 hn20 => ⟨hn20.blk.cells _ _ (by simp), fun H21 hp21 => ?_⟩⟩
      have e19 := hn20.eq
      have hs20 := hn20.size
      have hb21 := hp21.blk hn20.blk (by simp)
      have new21 : Ext [] H17 H21 := ext_new hn20.ext hp21.ext (by simp; omega)
      have hs21 := hp21.size
      have ne : b19 ∉ ([b1] : List Nat) := by simp; omega
      refine (ru1_ok (n := 4) (.inr (.inl ⟨rfl, rfl⟩)) (hr17.ext new21)).mono ?_
      rintro _ H23 ⟨rfl, hr23, hx23⟩
      have hb23 := hb21.ext hx23 ne
      refine ⟨_, rfl, hb23.cells _ _ (by simp [splice]), fun H25 hp25 => ?_⟩
      have hb25 := hp25.blk hb23 (by simp [splice])
      have hs23 := hx23.size
      have rkeep : ∀ {A B : Heap} {s' : List Int × Bool}, Ext [b19] A B → RIs (fun k => k < H2.size) A b1 s' → RIs (fun k => k < H2.size) B b1 s' := fun he hr => hr.extP he.toP (fun k hk hm => by
        have : k < H2.size := hk
        simp only [List.mem_singleton] at hm
        omega)
      refine (ru1_ok (n := 4) (.inr (.inl ⟨rfl, rfl⟩)) (rkeep hp25.ext hr23)).mono ?_
      rintro _ H27 ⟨rfl, hr27, hx27⟩
      have hb27 := hb25.ext hx27 ne
      refine ⟨_, rfl, hb27.cells _ _ (by simp [splice]), fun H29 hp29 => ?_⟩
      have hb29 := hp29.blk hb27 (by simp [splice])
      refine (ru1_ok (n := 1) (.inr (.inr ⟨rfl, rfl⟩)) (rkeep hp29.ext hr27)).mono ?_
      rintro _ H31 ⟨rfl, hr31, hx31⟩
      have hb31 := hb29.ext hx31 ne
      refine ⟨_, rfl, hb31.cells _ _ (by simp [splice]), fun H33 hp33 => ?_⟩
      have hb33 := hp33.blk hb31 (by simp [splice])
      have hr33 := rkeep hp33.ext hr31
      have one' : @decide ((num (rd (rd (rd s 4).2 4).2 4).2 1 : Int) = 1) (Classical.propDecidable _) = isOne (num (rd (rd (rd s 4).2 4).2 4).2 1) := dec_eq Iff.rfl
      have hb33' : Blk H33 b19 (rec1 isOne s).1.cells := by
        simp only [splice] at hb33
        rw [one'] at hb33
        exact hb33
      have e1' : (rec1 isOne s).2 = (rd (rd (rd (rd s 4).2 4).2 4).2 1).2 := rfl
      rw [← e1'] at hr33
      -- what is new
      have old : Ext [b1, b19] H13 H33 := by
        have w : ∀ {A B : Heap}, Ext [b1] A B → Ext [b1, b19] A B := fun he => he.mono (fun k _ hk => by simp only [List.mem_singleton] at hk; simp [hk])
        have w' : ∀ {A B : Heap}, Ext [b19] A B → Ext [b1, b19] A B := fun he => he.mono (fun k _ hk => by simp only [List.mem_singleton] at hk; simp [hk])
        exact ((((((w hx17).trans new21.any).trans (w hx23)).trans (w' hp25.ext)).trans (w hx27)).trans (w' hp29.ext)).trans ((w hx31).trans (w' hp33.ext))
      have hx33 : Ext [] H H33 := ext_new hx13 old (by simp; omega)
      have hs33 := old.size
      have ho33 := ho13.ext old (fun k hk hm => by
        have := hfr13 k hk
        have := ho13.lt k hk
        simp only [List.mem_cons, List.not_mem_nil, or_false] at hm
        omega)
      generalize (rec1 isOne s).1 = x at *
      generalize (rec1 isOne s).2 = s' at *
      refine ⟨x.id, by rw [hb33'.cell]; rfl, x.par, by rw [hb33'.cell]; rfl, x.sec, by rw [hb33'.cell]; rfl, x.fr, by rw [hb33'.cell]; rfl, fun b38 H39 hn39 => ?_⟩
      have ho39 := ho33.ext hn39.ext (by simp)
      have hr39 := hr33.ext hn39.ext
      have hs39 := hn39.size
      refine ⟨rowsOf L, x.cells, ho39.row _ _, ⟨rfl, .inr rfl, fun i u hi => ?_⟩, ?_, by omega, fun hle => ho39.room (n := 1) hle, fun a42 c43 H44 happ => ?_⟩
      · show hcell H39 b38 (0 + i) = some u
        rw [Nat.zero_add, hn39.blk.cell]; exact hi
      · intro u hu
        simp only [Ly.cells, List.mem_cons, List.not_mem_nil, or_false] at hu
        rcases hu with rfl | rfl | rfl | rfl <;> rfl
      obtain ⟨ho44, hx44, hfr44⟩ := happ.own ho39 (ho39.row _ _) rfl rfl
      have hs44 := hx44.size
      have hX44 : Ext [] H H44 := ext_new (hx33.trans hn39.ext) hx44 (fun i hi => by have := hfr13 i hi; omega)
      have hL' : (L ++ [x]) ++ (parse isOne m s').1 = (parse isOne n.toNat s0).1 := by rw [← hL]; simp
      refine ⟨fun h40 => ⟨.inr ⟨fun L0 g0 g1 => ?_, rfl⟩, hX44⟩, fun h40 => ⟨⟨by omega, by omega⟩, ⟨L ++ [x], s', m, by omega, by simp; omega, by simp, ?_, ?_, ?_, hL', hS, hX44, by omega⟩, by simp only []; omega⟩⟩
      · have h1 := (hP L0 g0 g1).1
        have h2 := (right_iff.1 g0).2.2
        rw [← hL'] at h1
        have h3 := congrArg List.length h1
        simp only [List.length_append, List.length_singleton] at h3
        omega
      · rw [rowsOf_append]; exact ho44
      · intro k hk
        rcases hfr44 k hk with h' | h'
        · exact hfr13 k h'
        · omega
      · exact hr39.extP hx44.toP (fun k hk hm => by have := hfr13 k hm; have : k < H2.size := hk; omega)
    · have el' : s.2 = true := by simpa using el
      rw [parse_lack isOne _ el', List.append_nil] at hL
      rw [parse_lack2 isOne _ el'] at hS
      exact rgraph_fin hB h0row hx13 (by omega) ho13 (fun k hk => by have := hfr13 k hk; omega) hr13 (fun L0 g0 g1 => ⟨by rw [hL]; exact (hP L0 g0 g1).1, by rw [hS]; exact (hP L0 g0 g1).2⟩)
  · have : m = 0 := by omega
    subst this
    rw [parse, List.append_nil] at hL
    rw [parse] at hS
    exact rgraph_fin hB h0row hx13 (by omega) ho13 (fun k hk => by have := hfr13 k hk; omega) hr13 (fun L0 g0 g1 => ⟨by rw [hL]; exact (hP L0 g0 g1).1, by
      have : s = (parse isOne n.toNat s0).2 := hS
      rw [this]; exact (hP L0 g0 g1).2⟩)
end Go.Proofs
end

section
open Go Go.Vc
namespace Go.Proofs

/-- Bools in a block. -/
def BMap (H : Heap) (b n : Nat) (M : Nat → Prop) : Prop := ∃ cs, Blk H b cs ∧ cs.length = n ∧ ∀ k, k < n → ∃ t : Bool, cs[k]? = some (.bool t) ∧ (t = true ↔ M k)

theorem BMap.ext {N : List Nat} {H H' : Heap} {b n : Nat} {M : Nat → Prop} (h : BMap H b n M) (he : Ext N H H') (hm : b ∉ N) : BMap H' b n M := by
  obtain ⟨cs, h1, h2, h3⟩ := h
  exact ⟨cs, h1.ext he hm, h2, h3⟩
theorem BMap.cells {H : Heap} {b n : Nat} {M : Nat → Prop} (h : BMap H b n M) {k : Nat} (hk : k < n) : Cells H b (0 + k) 1 := by
  obtain ⟨cs, h1, h2, _⟩ := h
  exact h1.cells _ _ (by omega)
theorem BMap.get {H : Heap} {b n : Nat} {M : Nat → Prop} (h : BMap H b n M) {k : Nat} (hk : k < n) : ∃ t : Bool, hcell H b (0 + k) = some (.bool t) ∧ (t = true ↔ M k) := by
  obtain ⟨cs, h1, h2, h3⟩ := h
  obtain ⟨t, ht, hM⟩ := h3 k hk
  exact ⟨t, by rw [Nat.zero_add, h1.cell]; exact ht, hM⟩
theorem BMap.put {H H' : Heap} {b n j : Nat} {M : Nat → Prop} (h : BMap H b n M) (hj : j < n) (hp : Puts H b (0 + j) [.bool true] H') : BMap H' b n (fun k => M k ∨ k = j) := by
  obtain ⟨cs, h1, h2, h3⟩ := h
  have hb := hp.blk h1 (by simp; omega)
  rw [Nat.zero_add, splice_one _ _ _ (by omega)] at hb
  refine ⟨_, hb, by rw [List.length_set]; exact h2, fun k hk => ?_⟩
  by_cases e : j = k
  · subst e
    exact ⟨true, by rw [List.getElem?_set_self (by omega)], by simp⟩
  · obtain ⟨t, ht, hM⟩ := h3 k hk
    refine ⟨t, by rw [List.getElem?_set_ne e]; exact ht, hM.trans ⟨.inl, fun h' => ?_⟩⟩
    rcases h' with h' | h'
    · exact h'
    · exact absurd h'.symm e
theorem BMap.new {H H' : Heap} {b n : Nat} {e : TypeId} (hn : New H b (List.replicate n (.bool false)) e H') : BMap H' b n (fun _ => False) :=
  ⟨_, hn.blk, by simp, fun k hk => ⟨false, by simp [hk], by simp⟩⟩

theorem Up.last {L : List Ly} {a c : Int} (h : Up L a c) : a = c ∨ ∃ m x, Up L a m ∧ find L m = Option.some x ∧ (c = x.par ∨ c = x.sec) := by
  induction h with
  | refl _ => exact .inl rfl
  | step hf hb hu ih =>
    rename_i a b c x
    right
    rcases ih with rfl | ⟨m, y, h1, h2, h3⟩
    · exact ⟨a, x, .refl (by rw [hf]; rfl), hf, hb⟩
    · exact ⟨m, y, .step hf hb h1, h2, h3⟩

section
variable {L : List Ly} (hr : rightB L = true)
include hr

theorem at_find {k : Nat} {x : Ly} (h : L[k]? = some x) : find L x.id = some x := (find_iff (right_iff.1 hr).1).2 ⟨List.mem_of_getElem? h, rfl⟩
omit hr in
theorem find_idx {id : Int} {x : Ly} (h : find L id = some x) : ∃ k : Nat, L[k]? = some x ∧ x.id = id := by
  obtain ⟨h1, h2⟩ := find_some h
  obtain ⟨k, hk, rfl⟩ := List.mem_iff_getElem.1 h2
  exact ⟨k, List.getElem?_eq_getElem hk, h1⟩
/-- What one stands on lies ahead of it. -/
theorem below_lt {m k : Nat} {y x : Ly} (hy : L[m]? = some y) (hx : L[k]? = some x) (h : x.id = y.par ∨ x.id = y.sec) : k < m := by
  obtain ⟨ha, hf, _⟩ := right_iff.1 hr
  have fy := hf y (List.mem_of_getElem? hy)
  have fx := (hf x (List.mem_of_getElem? hx)).lo
  refine (asc_get ha hx hy).2 ?_
  have key : ∀ b, stands L y b → b = x.id → x.id < y.id := by
    rintro b (h0 | ⟨z, hz, e, _, hlt⟩) eb
    · omega
    · omega
  rcases h with h | h
  · exact key _ fy.par h.symm
  · exact key _ fy.sec h.symm

set_option maxHeartbeats 1000000 in
theorem ranc_ok {a : Option Addr} {c : Nat} (id : Int) {H : Heap} (h : LRow H a L) :
    Does Try.prog 46 [.slice a L.length c, .int .i64 id] H fun v H' => ∃ a' c', v = .slice a' (anc L id).length c' ∧ Own H' 1 a' (anc L id).length c' (ints (anc L id)) ∧ Ext [] H H' ∧ ∀ k ∈ blkOf a', H.size ≤ k := by
  obtain ⟨hasc, _, hl40⟩ := right_iff.1 hr
  refine Fn_of_vc Try.mixed (vc_ranc _ _ _ _ _ _) ?_
  refine ⟨by omega, by omega, by omega, fun b1 H2 hn2 => ⟨⟨by omega, by omega⟩, ?_⟩⟩
  have e1 := hn2.eq
  have hs2 := hn2.size
  have hB2 := BMap.new hn2
  rw [Int.toNat_natCast] at hB2
  have wr1 : ∀ {A B : Heap} {j : Nat}, Puts A b1 (0 + j) [.bool true] B → Ext [] H A → Ext [] H B := fun hp hx => ext_new hx hp.ext (by simp; omega)
  refine ⟨fun i H' => ∃ (p : Nat) (M : Nat → Prop), i = (p : Int) - 1 ∧ p ≤ L.length ∧ BMap H' b1 L.length M ∧ (∀ k x, M k → L[k]? = some x → Up L id x.id) ∧ (∀ k x, p ≤ k → L[k]? = some x → Up L id x.id → M k) ∧
      (∀ m y k x, p ≤ m → M m → L[m]? = some y → L[k]? = some x → (x.id = y.par ∨ x.id = y.sec) → M k) ∧ Ext [] H H', fun i _ => (i + 1).toNat,
    ⟨L.length, fun _ => False, rfl, Nat.le_refl _, hB2, (fun k x hk => hk.elim), (fun k x hk hx => by have := (List.getElem?_eq_some_iff.1 hx).1; omega), (fun m y k x hm hM => hM.elim), hn2.ext⟩, ?_⟩
  rintro _ H6 ⟨p, M, rfl, hp, hB6, hS, hC1, hC2, hx6⟩
  refine ⟨fun h0 => ?_, fun h0 => ?_⟩
  · obtain ⟨i, rfl⟩ : ∃ k, p = k + 1 := ⟨p - 1, by omega⟩
    have ei : ((i + 1 : Nat) : Int) - 1 = (i : Int) := by omega
    rw [ei] at h0 ⊢
    have hi : L[i]? = some L[i] := List.getElem?_eq_getElem (by omega)
    have rdx : ∀ {H' : Heap}, Ext [] H H' → _ := fun he => (h.ext he (by simp)).at hi
    generalize L[i] = x at *
    have hfx := at_find hr hi
    -- one that stands under a marked one is marked
    have hup : Up L id x.id → id = x.id ∨ M i := fun hu => by
      rcases hu.last with e | ⟨m, y, h1, h2, h3⟩
      · exact .inl e
      · obtain ⟨m', hm', e'⟩ := find_idx h2
        have hlt := below_lt hr hm' hi h3
        have hM := hC1 m' y (by omega) hm' (by rw [e']; exact h1)
        exact .inr (hC2 m' y i x (by omega) hM hm' hi h3)
    refine ⟨fun H' => ∃ M1 : Nat → Prop, BMap H' b1 L.length M1 ∧ (∀ k x, M1 k → L[k]? = some x → Up L id x.id) ∧ (∀ k, M k → M1 k) ∧ (∀ k, M1 k → M k ∨ k = i) ∧ (Up L id x.id → M1 i) ∧ Ext [] H H', ?_, ?_⟩
    · obtain ⟨b8, o9, e8, c0, _⟩ := rdx hx6
      refine ⟨by omega, by omega, b8, o9, e8, _, by rw [Int.toNat_natCast]; exact c0, fun he => ⟨by omega, by rw [Int.toNat_natCast]; omega, b1, 0, rfl, by rw [Int.toNat_natCast]; exact hB6.cells (by omega), fun H13 hp13 => ?_⟩, fun hne => ?_⟩
      · rw [Int.toNat_natCast] at hp13
        refine ⟨_, hB6.put (by omega) hp13, fun k y hk hy => ?_, fun k hk => .inl hk, fun k hk => hk, fun _ => .inr rfl, wr1 hp13 hx6⟩
        rcases hk with hk | rfl
        · exact hS k y hk hy
        · rw [hi] at hy
          simp only [Option.some.injEq] at hy
          subst hy
          rw [← he]
          exact .refl (by rw [hfx]; rfl)
      · refine ⟨M, hB6, hS, fun k hk => hk, fun k hk => .inl hk, fun hu => ?_, hx6⟩
        rcases hup hu with e | e
        · exact absurd e.symm hne
        · exact e
    rintro H14 ⟨M1, hB14, hS1, hMM, hMi, hU, hx14⟩
    obtain ⟨t, ht, htM⟩ := hB14.get (k := i) (by omega)
    have keep1 : ∀ {M2 : Nat → Prop}, (∀ k, M1 k → M2 k) → (∀ k, M2 k → M1 k ∨ k < i) → ∀ m, i + 1 ≤ m → (M2 m ↔ M m) := fun h1 h2 m hm => ⟨fun h' => by
      rcases h2 m h' with h' | h'
      · rcases hMi m h' with h' | h'
        · exact h'
        · omega
      · omega, fun h' => h1 m (hMM m h')⟩
    refine ⟨by omega, by rw [Int.toNat_natCast]; omega, b1, 0, rfl, t, by rw [Int.toNat_natCast]; exact ht, fun ef => ⟨⟨by omega, by omega⟩, ⟨i, M1, rfl, by omega, hB14, hS1, fun k y hk hy hu => ?_, fun m y k z hm hM hy hz hb => ?_, hx14⟩, by simp only []; omega⟩, fun et => ?_⟩
    · rcases Nat.lt_or_ge k (i + 1) with h' | h'
      · have : k = i := by omega
        subst this
        rw [hi] at hy
        simp only [Option.some.injEq] at hy
        subst hy
        exact hU hu
      · exact hMM k (hC1 k y h' hy hu)
    · rcases Nat.lt_or_ge m (i + 1) with h' | h'
      · have : m = i := by omega
        subst this
        have := htM.2 hM
        rw [ef] at this; cases this
      · have := (keep1 (M2 := M1) (fun _ h => h) (fun _ h => .inl h) m h').1 hM
        exact hMM k (hC2 m y k z h' this hy hz hb)
    have hMi1 : M1 i := htM.1 (by simpa using et)
    have hUx : Up L id x.id := hS1 i x hMi1 hi
    refine ⟨fun q H' => ∃ (j : Nat) (M2 : Nat → Prop), q = j ∧ j ≤ i ∧ BMap H' b1 L.length M2 ∧ (∀ k x, M2 k → L[k]? = some x → Up L id x.id) ∧ (∀ k, M1 k → M2 k) ∧ (∀ k, M2 k → M1 k ∨ k < i) ∧ (∀ k y, k < j → L[k]? = some y → (y.id = x.par ∨ y.id = x.sec) → M2 k) ∧ Ext [] H H', fun q _ => i - q.toNat,
      ⟨0, M1, rfl, by omega, hB14, hS1, fun _ h => h, fun _ h => .inl h, fun k y hk => by omega, hx14⟩, ?_⟩
    rintro _ H21 ⟨j, M2, rfl, hj, hB21, hS2, h12, h21, hD, hx21⟩
    refine ⟨fun hlt => ?_, fun hge => ?_⟩
    · have hjj : L[j]? = some L[j] := List.getElem?_eq_getElem (by omega)
      obtain ⟨b22, o23, e22, d0, _⟩ := (h.ext hx21 (by simp)).at hjj
      obtain ⟨b25, o26, e25, _, d1, d2, _⟩ := rdx hx21
      have hfj := at_find hr hjj
      generalize L[j] = y at *
      have mark : ∀ {H' : Heap}, (y.id = x.par ∨ y.id = x.sec) → Puts H21 b1 (0 + j) [.bool true] H' → In64 ((j : Int) + 1) ∧ (∃ (j' : Nat) (M2 : Nat → Prop), (j : Int) + 1 = j' ∧ j' ≤ i ∧ BMap H' b1 L.length M2 ∧ (∀ k x, M2 k → L[k]? = some x → Up L id x.id) ∧ (∀ k, M1 k → M2 k) ∧ (∀ k, M2 k → M1 k ∨ k < i) ∧ (∀ k y, k < j' → L[k]? = some y → (y.id = x.par ∨ y.id = x.sec) → M2 k) ∧ Ext [] H H') ∧ i - ((j : Int) + 1).toNat < i - (j : Int).toNat := by
        intro H' hb hp
        refine ⟨⟨by omega, by omega⟩, ⟨j + 1, _, by omega, by omega, hB21.put (by omega) hp, fun k z hk hz => ?_, fun k hk => .inl (h12 k hk), fun k hk => ?_, fun k z hk hz hb' => ?_, wr1 hp hx21⟩, by omega⟩
        · rcases hk with hk | rfl
          · exact hS2 k z hk hz
          · rw [hjj] at hz
            simp only [Option.some.injEq] at hz
            subst hz
            exact hUx.one hfx hb (by rw [hfj]; rfl)
        · rcases hk with hk | rfl
          · exact h21 k hk
          · right; omega
        · rcases Nat.lt_or_ge k j with h' | h'
          · exact .inl (hD k z h' hz hb')
          · right; omega
      refine ⟨by omega, by omega, b22, o23, e22, _, by rw [Int.toNat_natCast]; exact d0, by omega, by omega, b25, o26, e25, _, by rw [Int.toNat_natCast]; exact d1, fun he => ⟨by omega, by rw [Int.toNat_natCast]; omega, b1, 0, rfl, by rw [Int.toNat_natCast]; exact hB21.cells (by omega), fun H30 hp30 => mark (.inl he) (by rw [Int.toNat_natCast] at hp30; exact hp30)⟩, fun hne => ⟨by omega, by omega, b22, o23, e22, _, by rw [Int.toNat_natCast]; exact d0, by omega, by omega, b25, o26, e25, _, by rw [Int.toNat_natCast]; exact d2, fun he => ⟨by omega, by rw [Int.toNat_natCast]; omega, b1, 0, rfl, by rw [Int.toNat_natCast]; exact hB21.cells (by omega), fun H30 hp30 => mark (.inr he) (by rw [Int.toNat_natCast] at hp30; exact hp30)⟩, fun hne' => ⟨⟨by omega, by omega⟩, ⟨j + 1, M2, by omega, by omega, hB21, hS2, h12, h21, fun k z hk hz hb' => ?_, hx21⟩, by simp only []; omega⟩⟩⟩
      rcases Nat.lt_or_ge k j with h' | h'
      · exact hD k z h' hz hb'
      · have : k = j := by omega
        subst this
        rw [hjj] at hz
        simp only [Option.some.injEq] at hz
        subst hz
        rcases hb' with h' | h'
        · exact absurd h' hne
        · exact absurd h' hne'
    · refine ⟨⟨by omega, by omega⟩, ⟨i, M2, rfl, by omega, hB21, hS2, fun k y hk hy hu => ?_, fun m y k z hm hM hy hz hb => ?_, hx21⟩, by simp only []; omega⟩
      · rcases Nat.lt_or_ge k (i + 1) with h' | h'
        · have : k = i := by omega
          subst this
          exact h12 _ hMi1
        · exact h12 k (hMM k (hC1 k y h' hy hu))
      · rcases Nat.lt_or_ge m (i + 1) with h' | h'
        · have : m = i := by omega
          subst this
          rw [hi] at hy
          simp only [Option.some.injEq] at hy
          subst hy
          have := below_lt hr hi hz hb
          exact hD k z (by omega) hz hb
        · exact h12 k (hMM k (hC2 m y k z h' ((keep1 h12 h21 m h').1 hM) hy hz hb))
  · have : p = 0 := by omega
    subst this
    have hM : ∀ k x, L[k]? = some x → (M k ↔ Up L id x.id) := fun k x hx => ⟨fun hk => hS k x hk hx, fun hu => hC1 k x (by omega) hx hu⟩
    refine ⟨fun a42 l43 c44 n H' => ∃ (j : Nat) (out : List Int), n = j ∧ j ≤ L.length ∧ out.length = l43 ∧ l43 ≤ j ∧ Own H' 1 a42 l43 c44 (ints out) ∧ (∀ k ∈ blkOf a42, H2.size ≤ k) ∧ out.Pairwise (· < ·) ∧ (∀ z, z ∈ out ↔ ∃ k x, k < j ∧ L[k]? = some x ∧ M k ∧ z = x.id) ∧ BMap H' b1 L.length M ∧ Ext [] H H' ∧ H2.size ≤ H'.size, fun _ _ _ n _ => L.length - n.toNat,
      ⟨0, [], rfl, by omega, rfl, Nat.le_refl _, Own.nil _ _, by simp [blkOf], .nil, fun z => ⟨fun hz => by (cases hz), fun ⟨k, x, hk, _⟩ => by omega⟩, hB6, hx6, ?_⟩, ?_⟩
    · obtain ⟨cs, hb, _⟩ := hB6
      have := hb.lt; omega
    rintro a42 l43 c44 _ H46 ⟨j, out, rfl, hj, hol, hlj, ho46, hfr46, hpw, hmem, hB46, hx46, hs46⟩
    refine ⟨fun hlt => ?_, fun hge => ?_⟩
    · have hi : L[j]? = some L[j] := List.getElem?_eq_getElem (by omega)
      obtain ⟨b50, o51, e50, d0, _⟩ := (h.ext hx46 (by simp)).at hi
      generalize L[j] = x at *
      obtain ⟨t, ht, htM⟩ := hB46.get (k := j) (by omega)
      refine ⟨by omega, by rw [Int.toNat_natCast]; omega, b1, 0, rfl, t, by rw [Int.toNat_natCast]; exact ht, fun et => ⟨by omega, by omega, b50, o51, e50, _, by rw [Int.toNat_natCast]; exact d0, fun b53 H54 hn54 => ?_⟩, fun ef => ⟨⟨by omega, by omega⟩, ⟨j + 1, out, by omega, by omega, hol, by omega, ho46, hfr46, hpw, fun z => (hmem z).trans ⟨fun ⟨k, y, hk, hy, hM, e⟩ => ⟨k, y, by omega, hy, hM, e⟩, fun ⟨k, y, hk, hy, hM', e⟩ => ?_⟩, hB46, hx46, hs46⟩, by simp only []; omega⟩⟩
      · have ho54 := ho46.ext hn54.ext (by simp)
        have e53 := hn54.eq
        have hs54 := hn54.size
        refine ⟨ints out, ints [x.id], ho54.row _ _, ⟨rfl, .inr rfl, fun k u hk => ?_⟩, ints_one _, by omega, fun hle => by simpa using ho54.room (n := 1) hle, fun a57 c58 H59 happ => ?_⟩
        · show hcell H54 b53 (0 + k) = some u
          rw [Nat.zero_add, hn54.blk.cell]; exact hk
        obtain ⟨ho59, hx59, hfr59⟩ := happ.own ho54 (ho54.row _ _) (by rw [ints_length]; rfl) rfl
        have hs59 := hx59.size
        refine ⟨⟨by omega, by omega⟩, ⟨j + 1, out ++ [x.id], by omega, by omega, by simp [hol], by omega, ?_, ?_, ?_, ?_, ?_, ?_, by omega⟩, by simp only []; omega⟩
        · have : ints (out ++ [x.id]) = ints out ++ ints [x.id] := by simp [ints]
          rw [this]; exact ho59
        · intro k hk
          rcases hfr59 k hk with h' | h'
          · exact hfr46 k h'
          · omega
        · rw [List.pairwise_append]
          refine ⟨hpw, by simp, fun z hz w hw => ?_⟩
          simp only [List.mem_singleton] at hw
          subst hw
          obtain ⟨k, y, hk, hy, _, rfl⟩ := (hmem z).1 hz
          exact (asc_get hasc hy hi).1 hk
        · intro z
          rw [List.mem_append, hmem z, List.mem_singleton]
          constructor
          · rintro (⟨k, y, hk, hy, hM', e⟩ | rfl)
            · exact ⟨k, y, by omega, hy, hM', e⟩
            · exact ⟨j, x, by omega, hi, htM.1 et, rfl⟩
          · rintro ⟨k, y, hk, hy, hM', rfl⟩
            rcases Nat.lt_or_ge k j with h' | h'
            · exact .inl ⟨k, y, h', hy, hM', rfl⟩
            · have : k = j := by omega
              subst this
              rw [hi] at hy
              simp only [Option.some.injEq] at hy
              subst hy
              exact .inr rfl
        · exact (hB46.ext hn54.ext (by simp)).ext hx59 (fun hm => by have := hfr46 b1 hm; omega)
        · exact ext_new (hx46.trans hn54.ext) hx59 (fun k hk => by have := hfr46 k hk; omega)
      · rcases Nat.lt_or_ge k j with h' | h'
        · exact ⟨k, y, h', hy, hM', e⟩
        · have : k = j := by omega
          subst this
          have := htM.2 hM'
          rw [ef] at this; cases this
    · have : j = L.length := by omega
      subst this
      have hout : out = anc L id := asc_ext hpw (anc_asc _ _) fun z => by
        rw [hmem z, anc_iff]
        constructor
        · rintro ⟨k, y, _, hy, hM', rfl⟩
          exact (hM k y hy).1 hM'
        · intro hu
          obtain ⟨y, hy⟩ := Option.isSome_iff_exists.1 hu.some
          obtain ⟨k, hk, e⟩ := find_idx hy
          exact ⟨k, y, (List.getElem?_eq_some_iff.1 hk).1, hk, (hM k y hk).2 (by rw [e]; exact hu), e.symm⟩
      subst hout
      subst hol
      exact ⟨a42, c44, rfl, ho46, hx46, fun k hk => by have := hfr46 k hk; omega⟩
end
end Go.Proofs
end

section
open Go Go.Vc
namespace Go.Proofs

section
variable {L : List Ly} (hr : rightB L = true)
include hr

omit hr in
theorem base_is {X Y : List Int} (hX : X.Pairwise (· < ·)) (h1 : ∀ z ∈ X, 1 ≤ z) {b : Int} (hb : b = 0 ∨ (b ∈ X ∧ b ∈ Y)) (hall : ∀ z ∈ X, z ∈ Y → z ≤ b) : b = baseOf X Y := by
  rcases hb with rfl | ⟨hbX, hbY⟩
  · by_cases e : baseOf X Y = 0
    · exact e.symm
    · obtain ⟨h2, h3⟩ := base_none e
      have := hall _ h2 h3
      have := h1 _ h2
      omega
  · obtain ⟨h2, h3, h4⟩ := base_in hX hbX hbY
    have := hall _ h2 h3
    omega

theorem rbase_ok {a : Option Addr} {c : Nat} (x y : Int) {H : Heap} (h : LRow H a L) :
    Does Try.prog 47 [.slice a L.length c, .int .i64 x, .int .i64 y] H fun v H' => v = .int .i64 (baseOf (anc L x) (anc L y)) ∧ Ext [] H H' := by
  refine Fn_of_vc Try.mixed (vc_rbase _ _ _ _ _ _ _) ?_
  have hX := anc_asc L x
  have h1 : ∀ z ∈ anc L x, 1 ≤ z := fun z hz => (anc_le hr hz).2
  have lx := anc_len L x
  have ly := anc_len L y
  have hl40 := (right_iff.1 hr).2.2
  refine (ranc_ok hr x h).mono ?_
  rintro _ H2 ⟨a3, c5, rfl, ho2, hx2, _⟩
  refine ⟨_, _, _, rfl, (ranc_ok hr y (h.ext hx2 (by simp))).mono ?_⟩
  rintro _ H7 ⟨a8, c10, rfl, ho7, hx7, _⟩
  have hA := (Own.irow ho2).1.ext hx7 (by simp)
  have hB := (Own.irow ho7).1
  have hX7 := hx2.trans hx7
  refine ⟨_, _, _, rfl, ?_⟩
  generalize anc L x = X at *
  generalize anc L y = Y at *
  refine ⟨fun b i H' => H' = H7 ∧ ∃ j : Nat, i = j ∧ j ≤ X.length ∧ (b = 0 ∨ (b ∈ X ∧ b ∈ Y)) ∧ 0 ≤ b ∧ ∀ z ∈ X.take j, z ∈ Y → z ≤ b, fun _ i _ => X.length - i.toNat, ⟨rfl, 0, rfl, by omega, .inl rfl, by omega, by simp⟩, ?_⟩
  rintro b _ _ ⟨rfl, j, rfl, hj, hb, hb0, hall⟩
  refine ⟨fun hlt => ?_, fun hge => ⟨?_, hX7⟩⟩
  · have hi : X[j]? = some X[j] := List.getElem?_eq_getElem (by omega)
    have htk : X.take (j + 1) = X.take j ++ [X[j]] := by rw [List.take_add_one, hi]; rfl
    have hxm : X[j] ∈ X := List.getElem_mem _
    obtain ⟨b21, o22, e21, d0⟩ := hA.at hi
    generalize X[j] = u at *
    have hu := h1 u hxm
    refine ⟨fun b' i H' => H' = _ ∧ ∃ k : Nat, i = k ∧ k ≤ Y.length ∧ (b' = 0 ∨ (b' ∈ X ∧ b' ∈ Y)) ∧ b ≤ b' ∧ ∀ z ∈ Y.take k, z = u → z ≤ b', fun _ i _ => Y.length - i.toNat, ⟨rfl, 0, rfl, by omega, hb, by omega, by simp⟩, ?_⟩
    rintro b' _ _ ⟨rfl, k, rfl, hk, hb', hbb, hall'⟩
    refine ⟨fun hlt' => ?_, fun hge' => ⟨⟨by omega, by omega⟩, ⟨rfl, j + 1, by omega, by omega, hb', by omega, fun z hz hzY => ?_⟩, by simp only []; omega⟩⟩
    · have hik : Y[k]? = some Y[k] := List.getElem?_eq_getElem (by omega)
      have htk' : Y.take (k + 1) = Y.take k ++ [Y[k]] := by rw [List.take_add_one, hik]; rfl
      have hym : Y[k] ∈ Y := List.getElem_mem _
      obtain ⟨b24, o25, e24, d1⟩ := hB.at hik
      generalize Y[k] = w at *
      refine ⟨by omega, hlt, b21, o22, e21, _, by rw [Int.toNat_natCast]; exact d0, by omega, hlt', b24, o25, e24, _, by rw [Int.toNat_natCast]; exact d1, fun he => ⟨by omega, hlt, b21, o22, e21, _, by rw [Int.toNat_natCast]; exact d0, ⟨by omega, by omega⟩, ⟨rfl, k + 1, by omega, by omega, ?_, by omega, fun z hz ez => by omega⟩, by simp only []; omega⟩, fun hne => ⟨⟨by omega, by omega⟩, ⟨rfl, k + 1, by omega, by omega, hb', hbb, fun z hz ez => ?_⟩, by simp only []; omega⟩⟩
      · subst he
        rcases Int.le_total b' u with h' | h'
        · rw [Int.max_eq_right h']; exact .inr ⟨hxm, hym⟩
        · rw [Int.max_eq_left h']; exact hb'
      · rw [htk', List.mem_append] at hz
        rcases hz with hz | hz
        · exact hall' z hz ez
        · simp only [List.mem_singleton] at hz
          omega
    · rw [htk, List.mem_append] at hz
      rcases hz with hz | hz
      · have := hall z hz hzY; omega
      · simp only [List.mem_singleton] at hz
        have : k = Y.length := by omega
        subst this
        rw [List.take_length] at hall'
        exact hall' z hzY hz
  · have : j = X.length := by omega
    subst this
    rw [List.take_length] at hall
    exact congrArg _ (base_is hX h1 hb hall)

theorem rkeep_ok {a : Option Addr} {c : Nat} {ids : List Int} {a1 : Option Addr} {c1 : Nat} {H : Heap} (h : LRow H a L) (hi : ids.length ≤ 100) (hI : IRow H a1 ids) :
    Does Try.prog 48 [.slice a L.length c, .slice a1 ids.length c1] H fun v H' => ∃ a' c', v = .slice a' (keepL L (keptOf L ids)).length c' ∧ LRow H' a' (keepL L (keptOf L ids)) ∧ Ext [] H H' := by
  have hl40 := (right_iff.1 hr).2.2
  refine Fn_of_vc Try.mixed (vc_rkeep _ _ _ _ _ _ _ _) ?_
  refine ⟨fun a3 l4 c5 n H' => ∃ j : Nat, n = j ∧ j ≤ L.length ∧ (keepL (L.take j) (keptOf L ids)).length = l4 ∧ Own H' 4 a3 l4 c5 (rowsOf (keepL (L.take j) (keptOf L ids))) ∧ (∀ k ∈ blkOf a3, H.size ≤ k) ∧ Ext [] H H', fun _ _ _ n _ => L.length - n.toNat,
    ⟨0, rfl, by omega, rfl, Own.nil _ _, by simp [blkOf], Ext.refl _ _⟩, ?_⟩
  rintro a3 _ c5 _ H7 ⟨j, rfl, hj, rfl, ho7, hfr7, hx7⟩
  refine ⟨fun hlt => ?_, fun hge => ?_⟩
  · have hij : L[j]? = some L[j] := List.getElem?_eq_getElem (by omega)
    have htk : L.take (j + 1) = L.take j ++ [L[j]] := by rw [List.take_add_one, hij]; rfl
    have hkl : (keepL (L.take j) (keptOf L ids)).length ≤ 40 := Nat.le_trans (List.length_filter_le _ _) (by rw [List.length_take]; omega)
    have rdx : ∀ {H' : Heap}, Ext [] H H' → _ := fun he => (h.ext he (by simp)).at hij
    generalize L[j] = x at *
    refine ⟨fun t i H' => ∃ k : Nat, i = k ∧ k ≤ ids.length ∧ (t = true ↔ x.id ∈ keptOf L (ids.take k)) ∧ Ext [] H7 H', fun _ i _ => ids.length - i.toNat, ⟨0, rfl, by omega, by simp [keptOf], Ext.refl _ _⟩, ?_⟩
    rintro t _ H12 ⟨k, rfl, hk, ht, hx12⟩
    have hX12 := hx7.trans hx12
    refine ⟨fun hltk => ?_, fun hgek => ?_⟩
    · have hik : ids[k]? = some ids[k] := List.getElem?_eq_getElem (by omega)
      have htki : ids.take (k + 1) = ids.take k ++ [ids[k]] := by rw [List.take_add_one, hik]; rfl
      obtain ⟨b13, o14, e13, d0⟩ := (hI.ext hX12 (by simp)).at hik
      generalize ids[k] = z at *
      have hks : ∀ w, w ∈ keptOf L (ids.take (k + 1)) ↔ w ∈ keptOf L (ids.take k) ∨ w ∈ anc L z := fun w => by
        rw [htki, kept_mem, kept_mem]
        constructor
        · rintro ⟨id, hid, hw⟩
          rcases List.mem_append.1 hid with h' | h'
          · exact .inl ⟨id, h', hw⟩
          · simp only [List.mem_singleton] at h'; subst h'; exact .inr hw
        · rintro (⟨id, hid, hw⟩ | hw)
          · exact ⟨id, List.mem_append_left _ hid, hw⟩
          · exact ⟨z, by simp, hw⟩
      refine ⟨by omega, hltk, b13, o14, e13, _, by rw [Int.toNat_natCast]; exact d0, (ranc_ok hr z (h.ext hX12 (by simp))).mono ?_⟩
      rintro _ H17 ⟨a18, c20, rfl, ho17, hx17, _⟩
      have hA := (Own.irow ho17).1
      have lz := anc_len L z
      refine ⟨_, _, _, rfl, ?_⟩
      generalize anc L z = A at *
      refine ⟨fun t i H' => H' = H17 ∧ ∃ q : Nat, i = q ∧ q ≤ A.length ∧ (t = true ↔ (x.id ∈ keptOf L (ids.take k) ∨ x.id ∈ A.take q)), fun _ i _ => A.length - i.toNat, ⟨rfl, 0, rfl, by omega, by simp [ht]⟩, ?_⟩
      rintro t' _ _ ⟨rfl, q, rfl, hq, ht'⟩
      refine ⟨fun hltq => ⟨fun e => ⟨⟨by omega, by omega⟩, ⟨rfl, q + 1, by omega, by omega, ?_⟩, by simp only []; omega⟩, fun e => ?_⟩, fun hgeq => ⟨⟨by omega, by omega⟩, ⟨k + 1, by omega, by omega, ?_, hx12.trans hx17⟩, by simp only []; omega⟩⟩
      · refine ⟨fun _ => ?_, fun _ => rfl⟩
        rcases ht'.1 e with h' | h'
        · exact .inl h'
        · exact .inr (List.take_subset_take_left A (by omega) h')
      · have hiq : A[q]? = some A[q] := List.getElem?_eq_getElem (by omega)
        have htq : A.take (q + 1) = A.take q ++ [A[q]] := by rw [List.take_add_one, hiq]; rfl
        obtain ⟨b26, o27, e26, d1⟩ := hA.at hiq
        obtain ⟨b29, o30, e29, d2, _⟩ := rdx (hX12.trans hx17)
        generalize A[q] = w at *
        refine ⟨by omega, hltq, b26, o27, e26, _, by rw [Int.toNat_natCast]; exact d1, by omega, hlt, b29, o30, e29, _, by rw [Int.toNat_natCast]; exact d2, ⟨by omega, by omega⟩, ⟨rfl, q + 1, by omega, by omega, ?_⟩, by simp only []; omega⟩
        rw [htq]
        refine Iff.trans (@decide_eq_true_iff _ (Classical.propDecidable _)) ?_
        constructor
        · intro he; exact .inr (by simp [he])
        · rintro (h' | h')
          · have := ht'.2 (.inl h'); rw [e] at this; cases this
          · rcases List.mem_append.1 h' with h' | h'
            · have := ht'.2 (.inr h'); rw [e] at this; cases this
            · simp only [List.mem_singleton] at h'; exact h'.symm
      · have : q = A.length := by omega
        subst this
        rw [List.take_length] at ht'
        rw [ht', hks]
    · have : k = ids.length := by omega
      subst this
      rw [List.take_length] at ht
      have hkeep : keepL (L.take (j + 1)) (keptOf L ids) = keepL (L.take j) (keptOf L ids) ++ (if x.id ∈ keptOf L ids then [x] else []) := by
        rw [htk]; unfold keepL
        rw [List.filter_append, List.filter_cons]
        split <;> simp_all
      refine ⟨fun e => ?_, fun e => ?_⟩
      · rw [if_pos (ht.1 e)] at hkeep
        obtain ⟨b32, o33, e32, d0, d1, d2, d3⟩ := rdx hX12
        refine ⟨by omega, hlt, b32, o33, e32, _, by rw [Int.toNat_natCast]; exact d0, _, by rw [Int.toNat_natCast]; exact d1, _, by rw [Int.toNat_natCast]; exact d2, _, by rw [Int.toNat_natCast]; exact d3, fun b38 H39 hn39 => ?_⟩
        have ho39 := (ho7.ext hx12 (by simp)).ext hn39.ext (by simp)
        refine ⟨_, x.cells, ho39.row _ _, ⟨rfl, .inr rfl, fun i u hi => ?_⟩, ?_, by omega, fun hle => ho39.room (n := 1) hle, fun a42 c43 H44 happ => ?_⟩
        · show hcell H39 b38 (0 + i) = some u
          rw [Nat.zero_add, hn39.blk.cell]; exact hi
        · intro u hu
          simp only [Ly.cells, List.mem_cons, List.not_mem_nil, or_false] at hu
          rcases hu with rfl | rfl | rfl | rfl <;> rfl
        obtain ⟨ho44, hx44, hfr44⟩ := happ.own ho39 (ho39.row _ _) rfl rfl
        have e38 := hn39.eq
        have hs12 := hX12.size
        have hs39 := hn39.size
        refine ⟨⟨by omega, by omega⟩, ⟨j + 1, by omega, by omega, by rw [hkeep]; simp, by rw [hkeep, rowsOf_append]; exact ho44, fun k hk => ?_, ext_new (hX12.trans hn39.ext) hx44 hfr7⟩, by simp only []; omega⟩
        rcases hfr44 k hk with h' | h'
        · exact hfr7 k h'
        · omega
      · have hno : x.id ∉ keptOf L ids := fun hm => by have := ht.2 hm; rw [e] at this; cases this
        rw [if_neg hno, List.append_nil] at hkeep
        exact ⟨⟨by omega, by omega⟩, ⟨j + 1, by omega, by omega, by rw [hkeep], by rw [hkeep]; exact ho7.ext hx12 (by simp), hfr7, hX12⟩, by simp only []; omega⟩
  · have : j = L.length := by omega
    subst this
    rw [List.take_length] at ho7 ⊢
    exact ⟨a3, c5, rfl, (own_lrow ho7).1, hx7⟩
end
end Go.Proofs
end

section
open Go Go.Vc
namespace Go.Proofs
set_option maxRecDepth 100000
/-- pentimento/pentimentolaw13.GraphTells -/
theorem vc_gtells (x0 : Option Addr) (x0l : Nat) (x0c : Nat) (x1 : Int) (x2 : Int) (x3 : Int) (x4 : Option Addr) (x4l : Nat) (x4c : Nat) (x5 : Option Addr) (x5l : Nat) (x5c : Nat) (x6 : Int) (x7 : Option Addr) (x7l : Nat) (x7c : Nat) (x8 : Int) (H : Heap) (R : Value → Heap → Prop) : Walk Try.prog 10 [(13, [(24, (.slice none 0 0))]), (26, [(30, (.slice none 0 0))])] [(.slice x0 x0l x0c), (.int .i64 x1), (.int .i64 x2), (.int .i64 x3), (.slice x4 x4l x4c), (.slice x5 x5l x5c), (.int .i64 x6), (.slice x7 x7l x7c), (.int .u8 x8)] H R = (
  Does Try.prog 26 [(.slice x0 x0l x0c), (.int .i64 x1)] H fun v1 H2 => ∃ a3 : Option Addr, ∃ l4 : Nat, ∃ c5 : Nat, v1 = (.slice a3 l4 c5) ∧ (
    Does Try.prog 36 [(.slice a3 l4 c5)] H2 fun v6 H7 => ∃ a8 : Option Addr, ∃ l9 : Nat, ∃ c10 : Nat, ∃ n11 : Int, v6 = (.tuple #[(.slice a8 l9 c10), (.int .i64 n11)]) ∧ (
      Does Try.prog 39 [(.slice a3 l4 c5)] H7 fun v12 H13 => ∃ a14 : Option Addr, ∃ l15 : Nat, ∃ c16 : Nat, ∃ n17 : Int, v12 = (.tuple #[(.slice a14 l15 c16), (.int .i64 n17)]) ∧ (
        Does Try.prog 28 [(.slice a3 l4 c5)] H13 fun v18 H19 => ∃ t20 : Bool, v18 = (.bool t20) ∧ (
          Does Try.prog 40 [(.slice a3 l4 c5)] H19 fun v21 H22 => ∃ t23 : Bool, v21 = (.bool t23) ∧ (
            (((¬ ((t20 = true) ↔ (t23 = true))) → (
                  R (.bool false) H22)) ∧ (¬ (¬ ((t20 = true) ↔ (t23 = true))) → (
                  ∃ l24 : List UInt8, SRow H22 1 l9 (.slice a8 l9 c10) (List.map (fun (b : UInt8) => Value.int .u8 b.toNat) l24) ∧ (
                    ∃ l25 : List UInt8, SRow H22 1 l15 (.slice a14 l15 c16) (List.map (fun (b : UInt8) => Value.int .u8 b.toNat) l25) ∧ (
                      (((((ByteArray.mk (List.toArray l24)) : ByteArray) ≠ (ByteArray.mk (List.toArray l25))) → (
                            R (.bool false) H22)) ∧ (¬ (((ByteArray.mk (List.toArray l24)) : ByteArray) ≠ (ByteArray.mk (List.toArray l25))) → (
                            ((((n11 : Int) ≠ n17) → (
                                  R (.bool false) H22)) ∧ (¬ ((n11 : Int) ≠ n17) → (
                                  Does Try.prog 41 [(.slice x5 x5l x5c), (.int .i64 (x5l : Int))] H22 fun v26 H27 => ∃ a28 : Option Addr, ∃ l29 : Nat, ∃ c30 : Nat, v26 = (.slice a28 l29 c30) ∧ (
                                    ∃ I31 : Option Addr → Nat → Nat → Heap → Prop, (
                                      ((((n17 : Int) = 0) → (
                                            ((5 : Int) ≠ 0) ∧
                                            ∀ q32 : Int, q32 = Int.tmod x6 5 → (
                                              ((((0 : Int) < q32) → (
                                                    Does Try.prog 41 [(.slice a14 l15 c16), (.int .i64 (l15 : Int))] H27 fun v33 H34 => ∃ a35 : Option Addr, ∃ l36 : Nat, ∃ c37 : Nat, v33 = (.slice a35 l36 c37) ∧ (
                                                      ∃ I38 : Int → Heap → Prop, ∃ μ39 : Int → Heap → Nat, (I38 0 H34) ∧
                                                      ∀ n40 : Int, ∀ H41 : Heap, I38 n40 H41 → (
                                                        ((((n40 : Int) < (x7l : Int)) → (
                                                            ((((n40 : Int) < 2) → (
                                                            (0 : Int) ≤ n40 ∧ (n40 : Int) < (x7l : Int) ∧ ∃ b42 o43 : Nat, x7 = some (⟨b42, o43, none⟩ : Addr) ∧ (
                                                            ∃ n44 : Int, hcell H41 b42 (o43 + (Int.toNat n40)) = some (.int .i64 n44) ∧ (
                                                            Does Try.prog 23 [(.int .i64 n44), (.int .i64 (l36 : Int))] H41 fun v45 H46 => ∃ n47 : Int, v45 = (.int .i64 n47) ∧ (
                                                            (0 : Int) ≤ n47 ∧ (n47 : Int) < (l36 : Int) ∧ ∃ b48 o49 : Nat, a35 = some (⟨b48, o49, none⟩ : Addr) ∧ (
                                                            ∃ n50 : Int, hcell H46 b48 (o49 + (Int.toNat n47)) = some (.int .u8 n50) ∧ (
                                                            ∀ q51 : Int, q51 = bits .xor .u8 n50 x8 → (
                                                            (0 : Int) ≤ n47 ∧ (n47 : Int) < (l36 : Int) ∧ ∃ b52 o53 : Nat, a35 = some (⟨b52, o53, none⟩ : Addr) ∧ (
                                                            Cells H46 b52 (o53 + (Int.toNat n47)) 1 ∧ ∀ H54 : Heap, Puts H46 b52 (o53 + (Int.toNat n47)) [(.int .u8 q51)] H54 → (
                                                            (In64 (n40 + 1)) ∧
                                                            (I38 (n40 + 1) H54) ∧ μ39 (n40 + 1) H54 < μ39 n40 H41)))))))))) ∧ (¬ ((n40 : Int) < 2) → (
                                                            I31 a35 l36 c37 H41))))) ∧ (¬ ((n40 : Int) < (x7l : Int)) → (
                                                            I31 a35 l36 c37 H41))))))) ∧ (¬ ((0 : Int) < q32) → (
                                                    I31 a28 l29 c30 H27)))))) ∧ (¬ ((n17 : Int) = 0) → (
                                            I31 a28 l29 c30 H27)))) ∧
                                    ∀ a55 : Option Addr, ∀ l56 : Nat, ∀ c57 : Nat, ∀ H58 : Heap, I31 a55 l56 c57 H58 → (
                                      Does Try.prog 37 [(.slice a55 l56 c57)] H58 fun v59 H60 => ∃ a61 : Option Addr, ∃ l62 : Nat, ∃ c63 : Nat, ∃ n64 : Int, v59 = (.tuple #[(.slice a61 l62 c63), (.int .i64 n64)]) ∧ (
                                        Does Try.prog 42 [(.slice a55 l56 c57)] H60 fun v65 H66 => ∃ a67 : Option Addr, ∃ l68 : Nat, ∃ c69 : Nat, ∃ n70 : Int, v65 = (.tuple #[(.slice a67 l68 c69), (.int .i64 n70)]) ∧ (
                                          ((((n64 : Int) ≠ n70) → (
                                                R (.bool false) H66)) ∧ (¬ ((n64 : Int) ≠ n70) → (
                                                Does Try.prog 43 [(.slice a61 l62 c63), (.slice a67 l68 c69)] H66 fun v71 H72 => ∃ t73 : Bool, v71 = (.bool t73) ∧ (
                                                  (((t73 = false) → (
                                                        R (.bool false) H72)) ∧ (¬ (t73 = false) → (
                                                        ((((n17 : Int) ≠ 0) → (
                                                            Does Try.prog 27 [] H72 fun v74 H75 => ∃ t76 : Bool, v74 = (.bool t76) ∧ (
                                                            R (.bool t76) H75))) ∧ (¬ ((n17 : Int) ≠ 0) → (
                                                            Does Try.prog 23 [(.int .i64 x2), (.int .i64 40)] H72 fun v77 H78 => ∃ n79 : Int, v77 = (.int .i64 n79) ∧ (
                                                            Does Try.prog 23 [(.int .i64 x3), (.int .i64 40)] H78 fun v80 H81 => ∃ n82 : Int, v80 = (.int .i64 n82) ∧ (
                                                            ∃ I83 : Option Addr → Nat → Nat → Heap → Prop, (
                                                            ∃ I84 : Option Addr → Nat → Nat → Int → Heap → Prop, ∃ μ85 : Option Addr → Nat → Nat → Int → Heap → Nat, (I84 none 0 0 0 H81) ∧
                                                            ∀ a86 : Option Addr, ∀ l87 : Nat, ∀ c88 : Nat, ∀ n89 : Int, ∀ H90 : Heap, I84 a86 l87 c88 n89 H90 → (
                                                            ((((n89 : Int) < (x4l : Int)) → (
                                                            ((((n89 : Int) < 4) → (
                                                            (0 : Int) ≤ n89 ∧ (n89 : Int) < (x4l : Int) ∧ ∃ b91 o92 : Nat, x4 = some (⟨b91, o92, none⟩ : Addr) ∧ (
                                                            ∃ n93 : Int, hcell H90 b91 (o92 + (Int.toNat n89)) = some (.int .i64 n93) ∧ (
                                                            Does Try.prog 23 [(.int .i64 n93), (.int .i64 40)] H90 fun v94 H95 => ∃ n96 : Int, v94 = (.int .i64 n96) ∧ (
                                                            ∀ b97 : Nat, ∀ H98 : Heap, New H95 b97 [(.int .i64 n96)] 3 H98 → (
                                                            ∃ old99 new100 : List Value, SRow H98 1 l87 (.slice a86 l87 c88) old99 ∧ SRow H98 1 1 (.slice (some (⟨b97, 0, none⟩ : Addr)) 1 1) new100 ∧ (∀ u ∈ new100, Value.oneCell' u = true) ∧ (l87 + 1) * 8 ≤ 140737488355328 ∧ (l87 + 1 ≤ c88 → roomOf H98 a86 (l87 * 1) (1 * 1)) ∧ ∀ a101 : Option Addr, ∀ c102 : Nat, ∀ H103 : Heap, App H98 1 3 [(.int .i64 0)] a86 l87 c88 old99 new100 1 a101 c102 H103 → (
                                                            (In64 (n89 + 1)) ∧
                                                            (I84 a101 (l87 + 1) c102 (n89 + 1) H103) ∧ μ85 a101 (l87 + 1) c102 (n89 + 1) H103 < μ85 a86 l87 c88 n89 H90))))))) ∧ (¬ ((n89 : Int) < 4) → (
                                                            I83 a86 l87 c88 H90))))) ∧ (¬ ((n89 : Int) < (x4l : Int)) → (
                                                            I83 a86 l87 c88 H90))))) ∧
                                                            ∀ a104 : Option Addr, ∀ l105 : Nat, ∀ c106 : Nat, ∀ H107 : Heap, I83 a104 l105 c106 H107 → (
                                                            Does Try.prog 34 [(.slice a3 l4 c5), (.int .i64 n79)] H107 fun v108 H109 => ∃ n110 : Int, ∃ n111 : Int, ∃ n112 : Int, ∃ t113 : Bool, ∃ t114 : Bool, v108 = (.tuple #[(.agg #[(.int .i64 n110), (.int .i64 n111), (.int .i64 n112), (.bool t113)]), (.bool t114)]) ∧ (
                                                            ∀ b115 : Nat, ∀ H116 : Heap, New H109 b115 [(.int .i64 0), (.int .i64 0), (.int .i64 0), (.bool false)] 46 H116 → (
                                                            Cells H116 b115 0 4 ∧ ∀ H117 : Heap, Puts H116 b115 0 [(.int .i64 n110), (.int .i64 n111), (.int .i64 n112), (.bool t113)] H117 → (
                                                            Does Try.prog 44 [(.slice a3 l4 c5), (.int .i64 n79)] H117 fun v118 H119 => ∃ n120 : Int, ∃ n121 : Int, ∃ n122 : Int, ∃ t123 : Bool, ∃ t124 : Bool, v118 = (.tuple #[(.agg #[(.int .i64 n120), (.int .i64 n121), (.int .i64 n122), (.bool t123)]), (.bool t124)]) ∧ (
                                                            ∀ b125 : Nat, ∀ H126 : Heap, New H119 b125 [(.int .i64 0), (.int .i64 0), (.int .i64 0), (.bool false)] 46 H126 → (
                                                            Cells H126 b125 0 4 ∧ ∀ H127 : Heap, Puts H126 b125 0 [(.int .i64 n120), (.int .i64 n121), (.int .i64 n122), (.bool t123)] H127 → (
                                                            Does Try.prog 27 [] H127 fun v128 H129 => ∃ t130 : Bool, v128 = (.bool t130) ∧ (
                                                            ((t130 = true → (
                                                            ∃ n131 : Int, hcell H129 b115 0 = some (.int .i64 n131) ∧ (
                                                            ∃ n132 : Int, hcell H129 b115 (0 + 1) = some (.int .i64 n132) ∧ (
                                                            ∃ n133 : Int, hcell H129 b115 ((0 + 1) + 1) = some (.int .i64 n133) ∧ (
                                                            ∃ t134 : Bool, hcell H129 b115 (((0 + 1) + 1) + 1) = some (.bool t134) ∧ (
                                                            ∃ n135 : Int, hcell H129 b125 0 = some (.int .i64 n135) ∧ (
                                                            ∃ n136 : Int, hcell H129 b125 (0 + 1) = some (.int .i64 n136) ∧ (
                                                            ∃ n137 : Int, hcell H129 b125 ((0 + 1) + 1) = some (.int .i64 n137) ∧ (
                                                            ∃ t138 : Bool, hcell H129 b125 (((0 + 1) + 1) + 1) = some (.bool t138) ∧ (
                                                            (((((n131 : Int) = n135) ∧ ((n132 : Int) = n136) ∧ ((n133 : Int) = n137) ∧ ((t134 : Bool) = t138)) → (
                                                            ((((t114 = true) ↔ (t124 = true)) → (
                                                            Does Try.prog 33 [(.slice a3 l4 c5), (.int .i64 n79)] H129 fun v139 H140 => ∃ a141 : Option Addr, ∃ l142 : Nat, ∃ c143 : Nat, v139 = (.slice a141 l142 c143) ∧ (
                                                            Does Try.prog 45 [(.slice a3 l4 c5), (.int .i64 n79)] H140 fun v144 H145 => ∃ a146 : Option Addr, ∃ l147 : Nat, ∃ c148 : Nat, v144 = (.slice a146 l147 c148) ∧ (
                                                            Does Try.prog 38 [(.slice a141 l142 c143), (.slice a146 l147 c148)] H145 fun v149 H150 => ∃ t151 : Bool, v149 = (.bool t151) ∧ (
                                                            ((t151 = true → (
                                                            Does Try.prog 30 [(.slice a3 l4 c5), (.int .i64 n79)] H150 fun v152 H153 => ∃ a154 : Option Addr, ∃ l155 : Nat, ∃ c156 : Nat, v152 = (.slice a154 l155 c156) ∧ (
                                                            Does Try.prog 46 [(.slice a3 l4 c5), (.int .i64 n79)] H153 fun v157 H158 => ∃ a159 : Option Addr, ∃ l160 : Nat, ∃ c161 : Nat, v157 = (.slice a159 l160 c161) ∧ (
                                                            Does Try.prog 38 [(.slice a154 l155 c156), (.slice a159 l160 c161)] H158 fun v162 H163 => ∃ t164 : Bool, v162 = (.bool t164) ∧ (
                                                            ((t164 = true → (
                                                            Does Try.prog 29 [(.slice a3 l4 c5), (.int .i64 n79), (.int .i64 n82)] H163 fun v165 H166 => ∃ n167 : Int, v165 = (.int .i64 n167) ∧ (
                                                            Does Try.prog 47 [(.slice a3 l4 c5), (.int .i64 n79), (.int .i64 n82)] H166 fun v168 H169 => ∃ n170 : Int, v168 = (.int .i64 n170) ∧ (
                                                            ((((n167 : Int) = n170) → (
                                                            Does Try.prog 32 [(.slice a3 l4 c5), (.slice a104 l105 c106)] H169 fun v171 H172 => ∃ a173 : Option Addr, ∃ l174 : Nat, ∃ c175 : Nat, v171 = (.slice a173 l174 c175) ∧ (
                                                            Does Try.prog 48 [(.slice a3 l4 c5), (.slice a104 l105 c106)] H172 fun v176 H177 => ∃ a178 : Option Addr, ∃ l179 : Nat, ∃ c180 : Nat, v176 = (.slice a178 l179 c180) ∧ (
                                                            Does Try.prog 43 [(.slice a173 l174 c175), (.slice a178 l179 c180)] H177 fun v181 H182 => ∃ t183 : Bool, v181 = (.bool t183) ∧ (
                                                            R (.bool t183) H182))))) ∧ (¬ ((n167 : Int) = n170) → (
                                                            R (.bool false) H169))))))) ∧ (t164 = false → (
                                                            R (.bool false) H163)))))))) ∧ (t151 = false → (
                                                            R (.bool false) H150)))))))) ∧ (¬ ((t114 = true) ↔ (t124 = true)) → (
                                                            R (.bool false) H129))))) ∧ (¬ (((n131 : Int) = n135) ∧ ((n132 : Int) = n136) ∧ ((n133 : Int) = n137) ∧ ((t134 : Bool) = t138)) → (
                                                            R (.bool false) H129))))))))))))) ∧ (t130 = false → (
                                                            R (.bool false) H129)))))))))))))))))))))))))))))))))))))))))))) := by kernel_rfl


end Go.Proofs
end

section
open Go Go.Vc
namespace Go.Proofs

def lb (L : List Ly) : List Int := if rightB L = true then layB L else []
def le (L : List Ly) : Int := if rightB L = true then 0 else 1
theorem Laid.all {L : List Ly} {H H' : Heap} {v : Value} (h : Laid L H v H') : ∃ a c, v = .tuple #[.slice a (lb L).length c, .int .i64 (le L)] ∧ Own H' 1 a (lb L).length c (u8s (lb L)) := by
  unfold lb le
  rcases h with ⟨hr, rfl⟩ | ⟨hr, a, c, rfl, ho, _⟩
  · rw [if_neg (by rw [hr]; simp), if_neg (by rw [hr]; simp)]
    exact ⟨none, 0, rfl, Own.nil _ _⟩
  · rw [if_pos hr, if_pos hr]
    exact ⟨a, c, rfl, ho⟩
theorem lb_byt (L : List Ly) : Byt (lb L) := by
  unfold lb; split
  · exact layB_byt L
  · intro z hz; cases hz
theorem lb_len {L : List Ly} (h : L.length ≤ 16) : (lb L).length ≤ 210 := by
  unfold lb; split
  · rw [layB_length]; omega
  · simp

theorem own_set {H H' : Heap} {b i n c : Nat} {xs : List Value} {v : Value} (h : Own H 1 (some ⟨b, 0, none⟩) n c xs) (hi : i < n) (hp : Puts H b (0 + i) [v] H') : Own H' 1 (some ⟨b, 0, none⟩) n c (xs.set i v) := by
  obtain ⟨h1, h2, h3, h4⟩ := h
  rcases h4 with ⟨e, _⟩ | ⟨b', tail, e, hb, hl⟩
  · cases e
  · simp only [Option.some.injEq, Addr.mk.injEq] at e
    obtain ⟨rfl, _, _⟩ := e
    have hb' := hp.blk hb (by rw [hl]; simp; omega)
    rw [Nat.zero_add, splice_one _ _ _ (by rw [hl]; omega), List.set_append_left _ _ (by omega)] at hb'
    exact ⟨by rw [List.length_set]; exact h1, h2, h3, .inr ⟨b, tail, rfl, hb', by simp at hl ⊢; exact hl⟩⟩

theorem xor_byte {x y : Int} : 0 ≤ bits .xor .u8 x y ∧ bits .xor .u8 x y < 256 := by
  unfold bits
  show 0 ≤ IntKind.wrap .u8 _ ∧ IntKind.wrap .u8 _ < 256
  rw [wrap_u8]
  omega

theorem own_some {H : Heap} {a : Option Addr} {n c : Nat} {xs : List Value} (h : Own H 1 a n c xs) (hn : 0 < n) : ∃ b, a = some ⟨b, 0, none⟩ := by
  obtain ⟨_, h2, _, ⟨rfl, rfl⟩ | ⟨b, tail, rfl, _⟩⟩ := h
  · omega
  · exact ⟨b, rfl⟩
end Go.Proofs
end

section
open Go Go.Vc
namespace Go.Proofs

theorem ReadS.shape {bs : List Int} {H H' : Heap} {v : Value} (h : ReadS bs H v H') : ∃ (K : List Ly) (a : Option Addr) (c : Nat) (e : Int), v = .tuple #[.slice a K.length c, .int .i64 e] ∧ LRow H' a K ∧ K.length ≤ 40 ∧
    ((e = 0 ∧ rightB K = true ∧ layB K = bs) ∨ (e = 2 ∧ K = [] ∧ ∀ L, rightB L = true → layB L ≠ bs)) := by
  rcases h with ⟨L, a, c, hr, hl, rfl, ho, _⟩ | ⟨hn, rfl⟩
  · exact ⟨L, a, c, 0, rfl, (own_lrow ho).1, (right_iff.1 hr).2.2, .inl ⟨rfl, hr, hl⟩⟩
  · exact ⟨[], none, 0, 2, rfl, ⟨rfl, rfl⟩, by decide, .inr ⟨rfl, rfl, hn⟩⟩
theorem shape_same {bs : List Int} {K K' : List Ly} {e e' : Int} (h : (e = 0 ∧ rightB K = true ∧ layB K = bs) ∨ (e = 2 ∧ K = [] ∧ ∀ L, rightB L = true → layB L ≠ bs)) (h' : (e' = 0 ∧ rightB K' = true ∧ layB K' = bs) ∨ (e' = 2 ∧ K' = [] ∧ ∀ L, rightB L = true → layB L ≠ bs)) : e = e' ∧ K = K' := by
  rcases h with ⟨rfl, h1, h2⟩ | ⟨rfl, rfl, h3⟩ <;> rcases h' with ⟨rfl, k1, k2⟩ | ⟨rfl, rfl, k3⟩
  · exact ⟨rfl, layB_inj h1 k1 (by rw [h2, k2])⟩
  · exact absurd h2 (k3 _ h1)
  · exact absurd k2 (h3 _ k1)
  · exact ⟨rfl, rfl⟩

set_option maxHeartbeats 2000000 in
theorem gtells_law (H : Heap) (a : Option Addr) (len cap : Nat) (z : List (List Value)) (l : z.length = len) (m : len ≤ maxLen) (s : SRow H 4 len (.slice a len cap) z.flatten) (w : ∀ r ∈ z, CellsAre [.i .i64, .i .i64, .i .i64, .b] r)
    (x1 : Int) (_ : (Lit.int .i64 x1).wf = true) (x2 : Int) (_ : (Lit.int .i64 x2).wf = true) (x3 : Int) (_ : (Lit.int .i64 x3).wf = true)
    (a4 : Option Addr) (len4 cap4 : Nat) (z4 : List Int) (l4 : z4.length = len4) (m4 : len4 ≤ maxLen) (s4 : SRow H 1 len4 (.slice a4 len4 cap4) (z4.map fun n => .int .i64 n)) (_ : ∀ n ∈ z4, (Lit.int .i64 n).wf = true)
    (a5 : Option Addr) (len5 cap5 : Nat) (z5 : List UInt8) (l5 : z5.length = len5) (m5 : len5 ≤ maxLen) (s5 : SRow H 1 len5 (.slice a5 len5 cap5) (bytesV z5)) (q5 : len5 ≤ cap5) (b5 : len5 ≤ 140737488355328)
    (x6 : Int) (_ : (Lit.int .i64 x6).wf = true)
    (a7 : Option Addr) (len7 cap7 : Nat) (z7 : List Int) (l7 : z7.length = len7) (m7 : len7 ≤ maxLen) (s7 : SRow H 1 len7 (.slice a7 len7 cap7) (z7.map fun n => .int .i64 n)) (_ : ∀ n ∈ z7, (Lit.int .i64 n).wf = true)
    (x8 : Int) (_ : (Lit.int .u8 x8).wf = true) :
    Does Try.prog 10 [.slice a len cap, .int .i64 x1, .int .i64 x2, .int .i64 x3, .slice a4 len4 cap4, .slice a5 len5 cap5, .int .i64 x6, .slice a7 len7 cap7, .int .u8 x8] H fun v H' => v = .bool true ∧ Ext [] H H' := by
  obtain ⟨R, rfl⟩ := raw_rows w
  have hRl : R.length = len := by simpa using l
  subst hRl
  subst l4
  subst l5
  subst l7
  have hR : LRow H a R := SRow.cap s
  have hZ4 : IRow H a4 z4 := SRow.cap s4
  have hZ7 : IRow H a7 z7 := SRow.cap s7
  have hB5 : Byt (z5.map fun b => (b.toNat : Int)) := fun y hy => by
    obtain ⟨b, _, rfl⟩ := List.mem_map.1 hy
    have := b.toNat_lt
    omega
  have e5 : u8s (z5.map fun b => (b.toNat : Int)) = bytesV z5 := by unfold u8s bytesV; rw [List.map_map]; rfl
  have l5' : (z5.map fun b => (b.toNat : Int)).length = z5.length := by simp
  refine Fn_of_vc Try.mixed (vc_gtells _ _ _ _ _ _ _ _ _ _ _ _ _ _ _ _ _ _ _) ?_
  refine (list_ok x1 (by unfold maxLen at m; omega) hR).mono ?_
  rintro _ H2 ⟨L, a3, c5, rfl, hL16, ho2, hx2, _⟩
  have hr2 := (own_lrow ho2).1
  have hcap := ho2.2.1
  refine ⟨_, _, _, rfl, (lay_ok (by omega) hcap hr2).mono ?_⟩
  rintro _ H7 ⟨hl7, hx7⟩
  obtain ⟨a8, c10, rfl, ho7⟩ := hl7.all
  refine ⟨_, _, _, _, rfl, (laygraph_ok (by omega) hcap (hr2.ext hx7 (by simp))).mono ?_⟩
  rintro _ H13 ⟨hl13, hx13⟩
  obtain ⟨a14, c16, rfl, ho13⟩ := hl13.all
  have hr13 := (hr2.ext hx7 (by simp)).ext hx13 (by simp)
  refine ⟨_, _, _, _, rfl, (right_ok (by omega) hcap hr13).mono ?_⟩
  rintro _ H19 ⟨rfl, hx19⟩
  refine ⟨_, rfl, (rightgraph_ok (by omega) hcap (hr13.ext hx19 (by simp))).mono ?_⟩
  rintro _ H22 ⟨rfl, hx22⟩
  have hy22 := hx19.trans hx22
  have hr22 := hr13.ext hy22 (by simp)
  have hX22 := ((hx2.trans hx7).trans hx13).trans hy22
  have hBL := lb_byt L
  have hlbl := lb_len hL16
  have ho22 := ho13.ext hy22 (by simp)
  refine ⟨_, rfl, fun e => absurd Iff.rfl e, fun _ => ⟨toU (lb L), by rw [← u8s_toU hBL]; exact ((ho7.ext hx13 (by simp)).ext hy22 (by simp)).row _ _, toU (lb L), by rw [← u8s_toU hBL]; exact ho22.row _ _, fun e => absurd rfl e, fun _ => ⟨fun e => absurd rfl e, fun _ => ?_⟩⟩⟩
  have hfew := few_ok (bs := z5.map fun b => (b.toNat : Int)) (a := a5) (c := cap5) (n := z5.length) (H := H22) (by rw [l5']) (by rw [l5']; exact q5) (by rw [l5']; exact b5) (by rw [l5', e5]; exact SRow.ext s5 hX22 (by simp))
  rw [l5'] at hfew
  refine hfew.mono ?_
  rintro _ H27 ⟨⟨a28, c30, rfl, ho27, hfr27⟩, hx27⟩
  have hX27 := hX22.trans hx27
  refine ⟨_, _, _, rfl, fun a55 l56 c57 H58 => ∃ bs : List Int, Byt bs ∧ bs.length = l56 ∧ l56 ≤ 140737488355328 ∧ Own H58 1 a55 l56 c57 (u8s bs) ∧ Ext [] H22 H58, ?_, ?_⟩
  · have plain : ∃ bs : List Int, Byt bs ∧ bs.length = (z5.map fun b => (b.toNat : Int)).length ∧ (z5.map fun b => (b.toNat : Int)).length ≤ 140737488355328 ∧ Own H27 1 a28 (z5.map fun b => (b.toNat : Int)).length c30 (u8s bs) ∧ Ext [] H22 H27 := ⟨_, hB5, rfl, by rw [l5']; exact b5, ho27, hx27⟩
    refine ⟨fun e0 => ⟨by decide, ?_⟩, fun _ => plain⟩
    rintro q rfl
    refine ⟨fun _ => ?_, fun _ => plain⟩
    have hr : rightB L = true := by
      unfold le at e0
      by_cases h : rightB L = true
      · exact h
      · rw [if_neg h] at e0; cases e0
    have hlb : lb L = layB L := by unfold lb; rw [if_pos hr]
    have hpos : 0 < (lb L).length := by rw [hlb, layB_length]; omega
    refine (few_ok (bs := lb L) rfl (ho22.2.1) (by omega) ((ho22.ext hx27 (by simp)).row _ _)).mono ?_
    rintro _ H34 ⟨⟨a35, c37, rfl, ho34, hfr34⟩, hx34⟩
    obtain ⟨b35, rfl⟩ := own_some ho34 hpos
    have hb35 := hfr34 b35 (by simp [blkOf])
    refine ⟨_, _, _, rfl, fun i H' => ∃ j : Nat, i = j ∧ j ≤ 2 ∧ ∃ bs : List Int, Byt bs ∧ bs.length = (lb L).length ∧ Own H' 1 (some ⟨b35, 0, none⟩) (lb L).length c37 (u8s bs) ∧ Ext [] H22 H', fun i _ => 2 - i.toNat, ⟨0, rfl, by omega, lb L, hBL, rfl, ho34, hx27.trans hx34⟩, ?_⟩
    rintro _ H41 ⟨j, rfl, hj, bs, hB, hlen, ho41, hx41⟩
    refine ⟨fun hlt => ⟨fun hlt2 => ?_, fun _ => ⟨bs, hB, hlen, by omega, ho41, hx41⟩⟩, fun _ => ⟨bs, hB, hlen, by omega, ho41, hx41⟩⟩
    have hzj : z7[j]? = some z7[j] := List.getElem?_eq_getElem (by omega)
    obtain ⟨b42, o43, e42, d0⟩ := (hZ7.ext (hX22.trans hx41) (by simp)).at hzj
    refine ⟨by omega, hlt, b42, o43, e42, _, by rw [Int.toNat_natCast]; exact d0, (pick_ok _ (lb L).length H41 (by omega) (by omega)).mono ?_⟩
    rintro _ _ ⟨rfl, rfl⟩
    have i0 := Int.emod_nonneg z7[j] (show ((lb L).length : Int) ≠ 0 by omega)
    have i1 := Int.emod_lt_of_pos z7[j] (show (0 : Int) < ((lb L).length : Int) by omega)
    generalize z7[j] % ((lb L).length : Int) = i at *
    have hbi : bs[i.toNat]? = some bs[i.toNat] := List.getElem?_eq_getElem (by omega)
    obtain ⟨b48, o49, e48, d1⟩ := SRow.at (ho41.row (lb L).length c37) (u8s_at hbi)
    refine ⟨_, rfl, i0, i1, b48, o49, e48, _, d1, ?_⟩
    rintro _ rfl
    obtain ⟨_, tail, e', hb41, htl⟩ : ∃ b' tail, (some ⟨b35, 0, none⟩ : Option Addr) = some ⟨b', 0, none⟩ ∧ Blk H41 b' (u8s bs ++ tail) ∧ (u8s bs ++ tail).length = c37 * 1 := by
      obtain ⟨_, _, _, ⟨e, _⟩ | h⟩ := ho41
      · cases e
      · exact h
    simp only [Option.some.injEq, Addr.mk.injEq] at e'
    obtain ⟨rfl, _⟩ := e'
    refine ⟨i0, i1, b35, 0, rfl, hb41.cells _ _ (by rw [List.length_append, u8s_length]; omega), fun H54 hp54 => ⟨⟨by omega, by omega⟩, ⟨j + 1, by omega, by omega, bs.set i.toNat (bits .xor .u8 bs[i.toNat] x8), fun y hy => ?_, by rw [List.length_set]; exact hlen, ?_, ext_new hx41 hp54.ext (by have := hx27.size; simp; omega)⟩, by simp only []; omega⟩⟩
    · rcases List.mem_or_eq_of_mem_set hy with hy | rfl
      · exact hB y hy
      · exact xor_byte
    · have := own_set ho41 (by omega) hp54
      unfold u8s at this ⊢
      rw [List.map_set]
      exact this
  rintro a55 l56 c57 H58 ⟨bs, hB, rfl, hbl, ho58, hx58⟩
  refine (read_ok hB hbl (ho58.row _ _)).mono ?_
  rintro _ H60 ⟨hR1, hx60⟩
  obtain ⟨K, a61, c63, e64, rfl, hk60, hK40, hKs⟩ := hR1.shape
  refine ⟨_, _, _, _, rfl, (readgraph_ok (c := c57) hB (Own.ownO (ho58.ext hx60 (by simp)))).mono ?_⟩
  rintro _ H66 ⟨hR2, hx66⟩
  obtain ⟨K', a67, c69, e70, rfl, hk66, _, hKs'⟩ := hR2.shape
  obtain ⟨rfl, rfl⟩ := shape_same hKs hKs'
  refine ⟨_, _, _, _, rfl, fun e => absurd rfl e, fun _ => (samegraph_ok (by omega) (hk60.ext hx66 (by simp)) hk66).mono ?_⟩
  rintro v72 H72 ⟨hv72, rfl⟩
  have hv72 := hv72 rfl
  subst hv72
  have hX66 := ((hX22.trans hx58).trans hx60).trans hx66
  have hr66 := ((hr22.ext hx58 (by simp)).ext hx60 (by simp)).ext hx66 (by simp)
  refine ⟨_, rfl, fun e => absurd e (by simp), fun _ => ⟨fun hne => (known13_ok H66).mono ?_, fun heq => ?_⟩⟩
  · rintro _ H75 ⟨rfl, hx75⟩
    exact ⟨_, rfl, rfl, hX66.trans hx75⟩
  have hr : rightB L = true := by
    by_cases h : rightB L = true
    · exact h
    · refine absurd ?_ heq
      unfold le
      rw [if_neg h]; decide
  refine (pick_ok x2 40 H66 (by decide) (by decide)).mono ?_
  rintro _ _ ⟨rfl, rfl⟩
  refine ⟨_, rfl, (pick_ok x3 40 H66 (by decide) (by decide)).mono ?_⟩
  rintro _ _ ⟨rfl, rfl⟩
  generalize x2 % 40 = x at *
  generalize x3 % 40 = y at *
  refine ⟨_, rfl, fun a104 l105 c106 H107 => ∃ ids : List Int, ids.length = l105 ∧ l105 ≤ 4 ∧ IRow H107 a104 ids ∧ Ext [] H66 H107, ?_, ?_⟩
  · refine ⟨fun a86 l87 c88 n H' => ∃ (j : Nat) (ids : List Int), n = j ∧ j ≤ 4 ∧ ids.length = j ∧ l87 = j ∧ Own H' 1 a86 l87 c88 (ints ids) ∧ (∀ k ∈ blkOf a86, H66.size ≤ k) ∧ Ext [] H66 H', fun _ _ _ n _ => 4 - n.toNat, ⟨0, [], rfl, by omega, rfl, rfl, Own.nil _ _, by simp [blkOf], Ext.refl _ _⟩, ?_⟩
    rintro a86 l87 c88 _ H90 ⟨j, ids, rfl, hj, hil, e87, ho90, hfr90, hx90⟩
    have e87 := e87.symm
    subst e87
    have out : ∃ ids : List Int, ids.length = j ∧ j ≤ 4 ∧ IRow H90 a86 ids ∧ Ext [] H66 H90 := ⟨ids, hil, hj, (Own.irow ho90).1, hx90⟩
    refine ⟨fun hlt => ⟨fun hlt4 => ?_, fun _ => out⟩, fun _ => out⟩
    have hzj : z4[j]? = some z4[j] := List.getElem?_eq_getElem (by omega)
    obtain ⟨b91, o92, e91, d0⟩ := (hZ4.ext (hX66.trans hx90) (by simp)).at hzj
    refine ⟨by omega, hlt, b91, o92, e91, _, by rw [Int.toNat_natCast]; exact d0, (pick_ok _ 40 H90 (by decide) (by decide)).mono ?_⟩
    rintro _ _ ⟨rfl, rfl⟩
    generalize z4[j] % 40 = u at *
    refine ⟨_, rfl, fun b97 H98 hn98 => ?_⟩
    have ho98 := ho90.ext hn98.ext (by simp)
    have e97 := hn98.eq
    have hs98 := hn98.size
    have hs90 := hx90.size
    refine ⟨ints ids, ints [u], ho98.row _ _, ⟨rfl, .inr rfl, fun k u hk => ?_⟩, ints_one _, by omega, fun hle => by simpa using ho98.room (n := 1) hle, fun a101 c102 H103 happ => ?_⟩
    · show hcell H98 b97 (0 + k) = some u
      rw [Nat.zero_add, hn98.blk.cell]; exact hk
    obtain ⟨ho103, hx103, hfr103⟩ := happ.own ho98 (ho98.row _ _) (by rw [ints_length]; rfl) rfl
    refine ⟨⟨by omega, by omega⟩, ⟨j + 1, ids ++ [u], by omega, by omega, by simp [hil], rfl, ?_, fun k hk => ?_, ext_new (hx90.trans hn98.ext) hx103 (fun k hk => by have := hfr90 k hk; omega)⟩, by simp only []; omega⟩
    · have : ints (ids ++ [u]) = ints ids ++ ints [u] := by simp [ints]
      rw [this]; exact ho103
    · rcases hfr103 k hk with h' | h'
      · exact hfr90 k h'
      · omega
  rintro a104 _ c106 H107 ⟨ids, rfl, hi4, hI, hx107⟩
  have hr107 := hr66.ext hx107 (by simp)
  have hX107 := hX66.trans hx107
  refine (find_ok x (by omega) hr107).mono ?_
  rintro _ H109 ⟨rfl, hx109⟩
  refine ⟨_, _, _, _, _, rfl, fun b115 H116 hn116 => ⟨hn116.blk.cells _ _ (by simp), fun H117 hp117 => ?_⟩⟩
  have hb117 := hp117.blk hn116.blk (by simp)
  have hx117 : Ext [] H107 H117 := ext_new (hx109.trans hn116.ext) hp117.ext (by have := hn116.eq; have := hx109.size; simp; omega)
  refine (findlayer_ok x (by omega) (hr107.ext hx117 (by simp))).mono ?_
  rintro _ H119 ⟨rfl, hx119⟩
  refine ⟨_, _, _, _, _, rfl, fun b125 H126 hn126 => ⟨hn126.blk.cells _ _ (by simp), fun H127 hp127 => ?_⟩⟩
  have hb127 := hp127.blk hn126.blk (by simp)
  have hx127 : Ext [] H117 H127 := ext_new (hx119.trans hn126.ext) hp127.ext (by have := hn126.eq; have := hx119.size; simp; omega)
  refine (known13_ok H127).mono ?_
  rintro _ H129 ⟨rfl, hx129⟩
  have hp := (hb117.ext hx127 (by simp)).ext hx129 (by simp)
  have hq := hb127.ext hx129 (by simp)
  have hx0 := (hx117.trans hx127).trans hx129
  have hr129 := hr107.ext hx0 (by simp)
  have hI129 := hI.ext hx0 (by simp)
  have hX129 := hX107.trans hx0
  refine ⟨_, rfl, fun _ => ⟨(getL L x).id, by rw [hp.cell]; rfl, (getL L x).par, by rw [hp.cell]; rfl, (getL L x).sec, by rw [hp.cell]; rfl, (getL L x).fr, by rw [hp.cell]; rfl, (getL L x).id, by rw [hq.cell]; rfl, (getL L x).par, by rw [hq.cell]; rfl, (getL L x).sec, by rw [hq.cell]; rfl, (getL L x).fr, by rw [hq.cell]; rfl, fun _ => ⟨fun _ => ?_, fun e => absurd Iff.rfl e⟩, fun e => absurd ⟨rfl, rfl, rfl, rfl⟩ e⟩, fun e => by cases e⟩
  have lch := chainR_length L (L.length + 1) x
  have lch' : (chain L x).length ≤ 17 := by unfold chain; rw [List.length_reverse]; omega
  have lan := anc_len L x
  refine (chain_ok x (by omega) hr129).mono ?_
  rintro _ H140 ⟨a141, c143, rfl, ho140, hx140, _⟩
  refine ⟨_, _, _, rfl, (rchain_ok x (by omega) (hr129.ext hx140 (by simp))).mono ?_⟩
  rintro _ H145 ⟨a146, c148, rfl, ho145, hx145, _⟩
  refine ⟨_, _, _, rfl, (same_ok (by omega) ((Own.irow ho140).1.ext hx145 (by simp)) (Own.irow ho145).1).mono ?_⟩
  rintro _ _ ⟨rfl, rfl⟩
  have hr145 := (hr129.ext hx140 (by simp)).ext hx145 (by simp)
  refine ⟨_, rfl, fun _ => (ancestors_ok x (by omega) hr145).mono ?_, fun e => absurd e (by simp)⟩
  rintro _ H153 ⟨a154, c156, rfl, ho153, _, hx153, _⟩
  refine ⟨_, _, _, rfl, (ranc_ok hr x (hr145.ext hx153 (by simp))).mono ?_⟩
  rintro _ H158 ⟨a159, c161, rfl, ho158, hx158, _⟩
  refine ⟨_, _, _, rfl, (same_ok (by omega) ((Own.irow ho153).1.ext hx158 (by simp)) (Own.irow ho158).1).mono ?_⟩
  rintro _ _ ⟨rfl, rfl⟩
  have hr158 := (hr145.ext hx153 (by simp)).ext hx158 (by simp)
  refine ⟨_, rfl, fun _ => (base_ok x y (by omega) hr158).mono ?_, fun e => absurd e (by simp)⟩
  rintro _ H166 ⟨rfl, hx166⟩
  refine ⟨_, rfl, (rbase_ok hr x y (hr158.ext hx166 (by simp))).mono ?_⟩
  rintro _ H169 ⟨rfl, hx169⟩
  have hr169 := (hr158.ext hx166 (by simp)).ext hx169 (by simp)
  have hy169 := ((((hx140.trans hx145).trans hx153).trans hx158).trans hx166).trans hx169
  refine ⟨_, rfl, fun _ => (keep_ok (ids := ids) (by omega) hr169 (by omega) (hI129.ext hy169 (by simp))).mono ?_, fun e => absurd rfl e⟩
  rintro _ H172 ⟨a173, c175, rfl, ho172, hx172, _⟩
  refine ⟨_, _, _, rfl, (rkeep_ok hr (ids := ids) (hr169.ext hx172 (by simp)) (by omega) ((hI129.ext hy169 (by simp)).ext hx172 (by simp))).mono ?_⟩
  rintro _ H177 ⟨a178, c180, rfl, hk177, hx177⟩
  have hkl : (keepL L (keptOf L ids)).length ≤ 16 := Nat.le_trans (List.length_filter_le _ _) hL16
  refine ⟨_, _, _, rfl, (samegraph_ok (by omega) ((own_lrow ho172).1.ext hx177 (by simp)) hk177).mono ?_⟩
  rintro v181 H182 ⟨hv, rfl⟩
  have hv := hv rfl
  subst hv
  exact ⟨_, rfl, rfl, ((hX129.trans hy169).trans hx172).trans hx177⟩
end Go.Proofs
end

namespace Go.Proofs.Ytppjhnepmolboaa.graphTells
open Go.ChangeShapes Go.WideShapes Go.ChangeAt Go.RowKit
open Go.ChangeMaps (open_string shut_string)
set_option linter.unusedVariables false

theorem own : ownKnob Try.prog.godebug = none := by kernel_rfl
theorem laidOut : laidOutB Try.prog = true := by kernel_rfl

set_option maxRecDepth 100000 in
theorem lifted (os : Os) (started : os.Started) (H : Type) (enc : TypeId × Value → H) :
    ReturnsInHanded {} Try.checked os 10 .any (Rows.graphTellsSpec.pre6 enc Try.prog Try.f10 Rows.graphTellsRow.domain false) (Rows.graphTellsSpec.post enc Try.prog Try.f10 false true false false) := by
  refine returnsInHanded_of_change_sized (C := Try.checked) own started (by kernel_rfl) Try.func10
    (ChangeSpec.witness6 (enc := enc) (C := Try.checked) false ⟨#[], #[.slice none 0 0, .int .i64 0, .int .i64 0, .int .i64 0, .slice none 0 0, .slice none 0 0, .int .i64 0, .slice none 0 0, .int .u8 0], []⟩ 8 (by kernel_rfl) (by kernel_rfl) (by kernel_rfl) (by kernel_rfl)) ?_
  intro W base args ds gs before hval0 hW hcnd hz _
  have hval : ∀ (j : Nat) t v, Try.f10.params[j]? = some t → args[j]? = some v → Value.okWide Try.prog W .any base t v := hval0
  have hW' := hW
  obtain ⟨p, q, hA0, hV, rfl, hfz, hnd⟩ := hW
  have hA : DataW.TrodAll enc Try.prog W 0 (fun _ => true) true Try.f10.params.toList args.toList ds p := hA0
  rw [Try.params10] at hA hval
  obtain ⟨v0, vs0, d0, ds0, p0, q0, hargs, rfl, rfl, h0, r0⟩ := trodAll_cons hA
  obtain ⟨v1, vs1, d1, ds1, p1, q1, rfl, rfl, rfl, h1, r1⟩ := trodAll_cons r0
  obtain ⟨v2, vs2, d2, ds2, p2, q2, rfl, rfl, rfl, h2, r2⟩ := trodAll_cons r1
  obtain ⟨v3, vs3, d3, ds3, p3, q3, rfl, rfl, rfl, h3, r3⟩ := trodAll_cons r2
  obtain ⟨v4, vs4, d4, ds4, p4, q4, rfl, rfl, rfl, h4, r4⟩ := trodAll_cons r3
  obtain ⟨v5, vs5, d5, ds5, p5, q5, rfl, rfl, rfl, h5, r5⟩ := trodAll_cons r4
  obtain ⟨v6, vs6, d6, ds6, p6, q6, rfl, rfl, rfl, h6, r6⟩ := trodAll_cons r5
  obtain ⟨v7, vs7, d7, ds7, p7, q7, rfl, rfl, rfl, h7, r7⟩ := trodAll_cons r6
  obtain ⟨v8, vs8, d8, ds8, p8, q8, rfl, rfl, rfl, h8, r8⟩ := trodAll_cons r7
  obtain ⟨rfl, rfl, rfl⟩ := trodAll_nil r8
  obtain rfl : args = #[v0, v1, v2, v3, v4, v5, v6, v7, v8] := by cases args; simp_all
  obtain ⟨rfl, rfl⟩ := trodVars_none hV
  obtain ⟨a0, len0, cap0, rfl⟩ := okWide_slice Try.underlying41 (hval 0 41 v0 rfl rfl)
  have k0 := h0
  have lt0 : ∀ x ∈ p0, x.block < W.heap.size := by obtain ⟨m, hm⟩ := k0; exact DataW.trod_lt m _ _ _ hm
  have sp0 := Go.Vc.okWide_spot Try.underlying41 (hval 0 41 _ rfl rfl)
  obtain ⟨z0, l0, m0, s0, w0⟩ := Go.Vc.arg_rows Try.underlying41 (n := 4) (e := 74) (ks := [.i .i64, .i .i64, .i .i64, .b]) (c := 4) (by kernel_rfl) (by kernel_rfl) sp0 h0
  obtain ⟨a1, rfl, rfl, rfl, w1⟩ := open_int Try.underlying3 (hval 1 3 v1 rfl rfl) h1
  obtain ⟨a2, rfl, rfl, rfl, w2⟩ := open_int Try.underlying3 (hval 2 3 v2 rfl rfl) h2
  obtain ⟨a3, rfl, rfl, rfl, w3⟩ := open_int Try.underlying3 (hval 3 3 v3 rfl rfl) h3
  obtain ⟨a4, len4, cap4, rfl⟩ := okWide_slice Try.underlying22 (hval 4 22 v4 rfl rfl)
  have k4 := h4
  have lt4 : ∀ x ∈ p4, x.block < W.heap.size := by obtain ⟨m, hm⟩ := k4; exact DataW.trod_lt m _ _ _ hm
  have sp4 := Go.Vc.okWide_spot Try.underlying22 (hval 4 22 _ rfl rfl)
  obtain ⟨z4, l4, m4, s4, w4⟩ := Go.Vc.arg_ints Try.underlying22 Try.underlying3 (by kernel_rfl) sp4 h4
  obtain ⟨a5, len5, cap5, rfl⟩ := okWide_slice Try.underlying56 (hval 5 56 v5 rfl rfl)
  have k5 := h5
  have lt5 : ∀ x ∈ p5, x.block < W.heap.size := by obtain ⟨m, hm⟩ := k5; exact DataW.trod_lt m _ _ _ hm
  have sp5 := Go.Vc.okWide_spot Try.underlying56 (hval 5 56 _ rfl rfl)
  obtain ⟨z5, l5, m5, s5⟩ := Go.Vc.arg_bytes Try.underlying56 Try.underlying5 (by kernel_rfl) sp5 h5
  obtain ⟨a6, rfl, rfl, rfl, w6⟩ := open_int Try.underlying3 (hval 6 3 v6 rfl rfl) h6
  obtain ⟨a7, len7, cap7, rfl⟩ := okWide_slice Try.underlying22 (hval 7 22 v7 rfl rfl)
  have k7 := h7
  have lt7 : ∀ x ∈ p7, x.block < W.heap.size := by obtain ⟨m, hm⟩ := k7; exact DataW.trod_lt m _ _ _ hm
  have sp7 := Go.Vc.okWide_spot Try.underlying22 (hval 7 22 _ rfl rfl)
  obtain ⟨z7, l7, m7, s7, w7⟩ := Go.Vc.arg_ints Try.underlying22 Try.underlying3 (by kernel_rfl) sp7 h7
  obtain ⟨a8, rfl, rfl, rfl, w8⟩ := open_int Try.underlying5 (hval 8 5 v8 rfl rfl) h8
  obtain ⟨g5, b5'⟩ := Go.Vc.arg_size Try.underlying56 h5 (fun n hn => by
    have := List.all_eq_true.1 hz n (DataW.weights_mem_each (j := 5) (t := 56) (by kernel_rfl) rfl n hn)
    simpa using this)
  have b5 : len5 ≤ 140737488355328 := by
    have e : Try.prog.bytesOf 5 = 1 := by kernel_rfl
    rw [e] at b5'
    have := reachBytes_lt
    omega
  clear hA0 hval0
  refine (Go.Vc.Does.below (Go.Proofs.gtells_law W.heap a0 len0 cap0 z0 l0 m0 s0 w0 a1 w1 a2 w2 a3 w3 a4 len4 cap4 z4 l4 m4 s4 w4 a5 len5 cap5 z5 l5 m5 s5 g5 b5 a6 w6 a7 len7 cap7 z7 l7 m7 s7 w7 a8 w8)).mono fun e W' ⟨he, bel⟩ => ?_
  subst he
  exact ⟨_, rfl, _, _, _, [], _, [], hW', trodAll_mk1 (shut_bool Try.underlying4 _), (trodAll_cons_mk (Below.trod laidOut (by kernel_rfl) (of_decide_eq_true (by kernel_rfl)) k0 bel lt0) (trodAll_cons_mk (shut_int Try.underlying3 w1) (trodAll_cons_mk (shut_int Try.underlying3 w2) (trodAll_cons_mk (shut_int Try.underlying3 w3) (trodAll_cons_mk (Below.trod laidOut (by kernel_rfl) (of_decide_eq_true (by kernel_rfl)) k4 bel lt4) (trodAll_cons_mk (Below.trod laidOut (by kernel_rfl) (of_decide_eq_true (by kernel_rfl)) k5 bel lt5) (trodAll_cons_mk (shut_int Try.underlying3 w6) (trodAll_cons_mk (Below.trod laidOut (by kernel_rfl) (of_decide_eq_true (by kernel_rfl)) k7 bel lt7) (trodAll_cons_mk (shut_int Try.underlying5 w8) trodAll_mk0))))))))), rfl, bel.frame _, fun h => by cases h⟩

theorem over : Rows.graphTellsRow.holds Try.pinned (OpenSpec.ofChange Rows.graphTellsSpec) :=
  OpenClaim.holds_of_wide 10 Try.f10 rfl rfl rfl rfl rfl rfl rfl ⟨rfl, rfl, rfl, rfl, rfl⟩ rfl rfl rfl rfl rfl (by kernel_rfl) Try.func10 (by kernel_rfl)
    (of_decide_eq_true (by kernel_rfl)) (by unfold Func.isWrapper; first | (rw [if_pos (by decide +kernel)]; kernel_rfl) | (rw [if_neg (by decide +kernel)]; exact ⟨rfl, rfl⟩))
    (fun os started H enc _ => lifted os started H enc)

theorem proved : Rows.GraphTellsSaid := over
#print axioms proved
end Go.Proofs.Ytppjhnepmolboaa.graphTells

