/-
  What is to be shown of the functions, reckoned from their code. No condition.
-/
import Derived.Test.YtmijngnbbpilmaaGreatProg
import Derived.Test.YtmijngnbbpilmaaGreatVd

section
open Go Go.Vc
namespace Go.Proofs
set_option maxRecDepth 100000
/-- pentimento/octet.NewWriter -/
theorem vc_nw (H : Heap) (R : Value → Heap → Prop) : Walk Tryz.prog 74 [] [] H R = (
  ∀ b1 : Nat, ∀ H2 : Heap, New H b1 [(.slice none 0 0)] 125 H2 → (
    R (.pointer (some (⟨b1, 0, none⟩ : Addr))) H2)) := by kernel_rfl


/-- (*pentimento/octet.Writer).put -/
theorem vc_put (pb0 : Nat) (x1 : Int) (x2 : Int) (H : Heap) (R : Value → Heap → Prop) : Walk Tryz.prog 88 [] [(.pointer (some (⟨pb0, 0, none⟩ : Addr))), (.int .u64 x1), (.int .i64 x2)] H R = (
  (In64 (x2 - 1)) ∧
  ∃ I1 : Int → Heap → Prop, ∃ μ2 : Int → Heap → Nat, (I1 (x2 - 1) H) ∧
  ∀ n3 : Int, ∀ H4 : Heap, I1 n3 H4 → (
    ((((0 : Int) ≤ n3) → (
          ∃ b5 o6 : Nat, (some (⟨pb0, 0, none⟩ : Addr)) = some (⟨b5, o6, none⟩ : Addr) ∧ (
            ∃ a7 : Option Addr, ∃ l8 : Nat, ∃ c9 : Nat, hcell H4 b5 o6 = some (.slice a7 l8 c9) ∧ (
              (In64 (8 * n3)) ∧
              ((0 : Int) ≤ (8 * n3)) ∧
              ∀ q10 : Int, q10 = Int.fdiv x1 (2 ^ (min (Int.toNat (8 * n3)) (IntKind.bits .u64))) → (
                ∀ q11 : Int, q11 = IntKind.wrap .u8 q10 → (
                  ∀ b12 : Nat, ∀ H13 : Heap, New H4 b12 [(.int .u8 q11)] 5 H13 → (
                    isL H13 b5 o6 [(.slice a7 l8 c9)] ∧ (∃ old14 new15 : List Value, SRow H13 1 l8 (.slice a7 l8 c9) old14 ∧ SRow H13 1 1 (.slice (some (⟨b12, 0, none⟩ : Addr)) 1 1) new15 ∧ (∀ u ∈ new15, Value.oneCell' u = true) ∧ (l8 + 1) * 1 ≤ 140737488355328 ∧ (l8 + 1 ≤ c9 → roomOf H13 a7 (l8 * 1) (1 * 1)) ∧ ∀ a16 : Option Addr, ∀ c17 : Nat, ∀ H18 : Heap, App H13 1 5 [(.int .u8 0)] a7 l8 c9 old14 new15 1 a16 c17 H18 → (
                        (∃ b19 o20 : Nat, (some (⟨pb0, 0, none⟩ : Addr)) = some (⟨b19, o20, none⟩ : Addr) ∧ (
                            Cells H18 b19 o20 1 ∧ ∀ H21 : Heap, Puts H18 b19 o20 [(.slice a16 (l8 + 1) c17)] H21 → (
                              ((In64 (n3 - 1)) ∧
                                (I1 (n3 - 1) H21) ∧ μ2 (n3 - 1) H21 < μ2 n3 H4))))))))))))) ∧ (¬ ((0 : Int) ≤ n3) → (
          R (.tuple #[]) H4))))) := by kernel_rfl


/-- (*pentimento/octet.Writer).U16 -/
theorem vc_wu16 (pb0 : Nat) (x1 : Int) (H : Heap) (R : Value → Heap → Prop) : Walk Tryz.prog 95 [] [(.pointer (some (⟨pb0, 0, none⟩ : Addr))), (.int .i64 x1)] H R = (
  ∀ q1 : Int, q1 = IntKind.wrap .u64 x1 → (
    Does Tryz.prog 88 [(.pointer (some (⟨pb0, 0, none⟩ : Addr))), (.int .u64 q1), (.int .i64 2)] H fun v2 H3 => v2 = (.tuple #[]) ∧ (
      R (.tuple #[]) H3))) := by kernel_rfl


/-- (*pentimento/octet.Writer).U32 -/
theorem vc_wu32 (pb0 : Nat) (x1 : Int) (H : Heap) (R : Value → Heap → Prop) : Walk Tryz.prog 75 [] [(.pointer (some (⟨pb0, 0, none⟩ : Addr))), (.int .i64 x1)] H R = (
  ∀ q1 : Int, q1 = IntKind.wrap .u64 x1 → (
    Does Tryz.prog 88 [(.pointer (some (⟨pb0, 0, none⟩ : Addr))), (.int .u64 q1), (.int .i64 4)] H fun v2 H3 => v2 = (.tuple #[]) ∧ (
      R (.tuple #[]) H3))) := by kernel_rfl


/-- (*pentimento/octet.Writer).Raw -/
theorem vc_wraw (pb0 : Nat) (x1 : Option Addr) (x1l : Nat) (x1c : Nat) (H : Heap) (R : Value → Heap → Prop) : Walk Tryz.prog 96 [] [(.pointer (some (⟨pb0, 0, none⟩ : Addr))), (.slice x1 x1l x1c)] H R = (
  ∃ b1 o2 : Nat, (some (⟨pb0, 0, none⟩ : Addr)) = some (⟨b1, o2, none⟩ : Addr) ∧ (
    ∃ a3 : Option Addr, ∃ l4 : Nat, ∃ c5 : Nat, hcell H b1 o2 = some (.slice a3 l4 c5) ∧ (
      ∃ old6 new7 : List Value, SRow H 1 l4 (.slice a3 l4 c5) old6 ∧ SRow H 1 x1l (.slice x1 x1l x1c) new7 ∧ (∀ u ∈ new7, Value.oneCell' u = true) ∧ (l4 + x1l) * 1 ≤ 140737488355328 ∧ (l4 + x1l ≤ c5 → roomOf H a3 (l4 * 1) (x1l * 1)) ∧ ∀ a8 : Option Addr, ∀ c9 : Nat, ∀ H10 : Heap, App H 1 5 [(.int .u8 0)] a3 l4 c5 old6 new7 x1l a8 c9 H10 → (
        ∃ b11 o12 : Nat, (some (⟨pb0, 0, none⟩ : Addr)) = some (⟨b11, o12, none⟩ : Addr) ∧ (
          Cells H10 b11 o12 1 ∧ ∀ H13 : Heap, Puts H10 b11 o12 [(.slice a8 (l4 + x1l) c9)] H13 → (
            R (.tuple #[]) H13)))))) := by kernel_rfl


/-- (*pentimento/octet.Writer).Bytes -/
theorem vc_bytes (pb0 : Nat) (H : Heap) (R : Value → Heap → Prop) : Walk Tryz.prog 77 [] [(.pointer (some (⟨pb0, 0, none⟩ : Addr)))] H R = (
  ∀ b1 : Nat, ∀ H2 : Heap, New H b1 [] 5 H2 → (
    ∃ b3 o4 : Nat, (some (⟨pb0, 0, none⟩ : Addr)) = some (⟨b3, o4, none⟩ : Addr) ∧ (
      ∃ a5 : Option Addr, ∃ l6 : Nat, ∃ c7 : Nat, hcell H2 b3 o4 = some (.slice a5 l6 c7) ∧ (
        ∃ old8 new9 : List Value, SRow H2 1 0 (.slice (some (⟨b1, 0, none⟩ : Addr)) 0 0) old8 ∧ SRow H2 1 l6 (.slice a5 l6 c7) new9 ∧ (∀ u ∈ new9, Value.oneCell' u = true) ∧ (0 + l6) * 1 ≤ 140737488355328 ∧ (0 + l6 ≤ 0 → roomOf H2 (some (⟨b1, 0, none⟩ : Addr)) (0 * 1) (l6 * 1)) ∧ ∀ a10 : Option Addr, ∀ c11 : Nat, ∀ H12 : Heap, App H2 1 5 [(.int .u8 0)] (some (⟨b1, 0, none⟩ : Addr)) 0 0 old8 new9 l6 a10 c11 H12 → (
          R (.slice a10 (0 + l6) c11) H12))))) := by kernel_rfl


/-- pentimento/octet.NewReader -/
theorem vc_nr (x0 : Option Addr) (x0l : Nat) (x0c : Nat) (H : Heap) (R : Value → Heap → Prop) : Walk Tryz.prog 78 [] [(.slice x0 x0l x0c)] H R = (
  ∀ b1 : Nat, ∀ H2 : Heap, New H b1 [] 5 H2 → (
    ∃ old3 new4 : List Value, SRow H2 1 0 (.slice (some (⟨b1, 0, none⟩ : Addr)) 0 0) old3 ∧ SRow H2 1 x0l (.slice x0 x0l x0c) new4 ∧ (∀ u ∈ new4, Value.oneCell' u = true) ∧ (0 + x0l) * 1 ≤ 140737488355328 ∧ (0 + x0l ≤ 0 → roomOf H2 (some (⟨b1, 0, none⟩ : Addr)) (0 * 1) (x0l * 1)) ∧ ∀ a5 : Option Addr, ∀ c6 : Nat, ∀ H7 : Heap, App H2 1 5 [(.int .u8 0)] (some (⟨b1, 0, none⟩ : Addr)) 0 0 old3 new4 x0l a5 c6 H7 → (
      ∀ b8 : Nat, ∀ H9 : Heap, New H7 b8 [(.slice a5 (0 + x0l) c6), (.bool false)] 127 H9 → (
        R (.pointer (some (⟨b8, 0, none⟩ : Addr))) H9)))) := by kernel_rfl


/-- (*pentimento/octet.Reader).Raw -/
theorem vc_raw (pb0 : Nat) (x1 : Int) (H : Heap) (R : Value → Heap → Prop) : Walk Tryz.prog 90 [] [(.pointer (some (⟨pb0, 0, none⟩ : Addr))), (.int .i64 x1)] H R = (
  ∃ b1 o2 : Nat, (some (⟨pb0, 0, none⟩ : Addr)) = some (⟨b1, o2, none⟩ : Addr) ∧ (
    ∃ t3 : Bool, hcell H b1 (o2 + 1) = some (.bool t3) ∧ (
      ((t3 = true → (
            ∃ b4 o5 : Nat, (some (⟨pb0, 0, none⟩ : Addr)) = some (⟨b4, o5, none⟩ : Addr) ∧ (
              Cells H b4 o5 1 ∧ ∀ H6 : Heap, Puts H b4 o5 [(.slice none 0 0)] H6 → (
                ∃ b7 o8 : Nat, (some (⟨pb0, 0, none⟩ : Addr)) = some (⟨b7, o8, none⟩ : Addr) ∧ (
                  Cells H6 b7 (o8 + 1) 1 ∧ ∀ H9 : Heap, Puts H6 b7 (o8 + 1) [(.bool true)] H9 → (
                    R (.slice none 0 0) H9)))))) ∧ (t3 = false → (
            ((((x1 : Int) < 0) → (
                  ∃ b10 o11 : Nat, (some (⟨pb0, 0, none⟩ : Addr)) = some (⟨b10, o11, none⟩ : Addr) ∧ (
                    Cells H b10 o11 1 ∧ ∀ H12 : Heap, Puts H b10 o11 [(.slice none 0 0)] H12 → (
                      ∃ b13 o14 : Nat, (some (⟨pb0, 0, none⟩ : Addr)) = some (⟨b13, o14, none⟩ : Addr) ∧ (
                        Cells H12 b13 (o14 + 1) 1 ∧ ∀ H15 : Heap, Puts H12 b13 (o14 + 1) [(.bool true)] H15 → (
                          R (.slice none 0 0) H15)))))) ∧ (¬ ((x1 : Int) < 0) → (
                  ∃ b16 o17 : Nat, (some (⟨pb0, 0, none⟩ : Addr)) = some (⟨b16, o17, none⟩ : Addr) ∧ (
                    ∃ a18 : Option Addr, ∃ l19 : Nat, ∃ c20 : Nat, hcell H b16 o17 = some (.slice a18 l19 c20) ∧ (
                      (((((l19 : Int) : Int) < x1) → (
                            ∃ b21 o22 : Nat, (some (⟨pb0, 0, none⟩ : Addr)) = some (⟨b21, o22, none⟩ : Addr) ∧ (
                              Cells H b21 o22 1 ∧ ∀ H23 : Heap, Puts H b21 o22 [(.slice none 0 0)] H23 → (
                                ∃ b24 o25 : Nat, (some (⟨pb0, 0, none⟩ : Addr)) = some (⟨b24, o25, none⟩ : Addr) ∧ (
                                  Cells H23 b24 (o25 + 1) 1 ∧ ∀ H26 : Heap, Puts H23 b24 (o25 + 1) [(.bool true)] H26 → (
                                    R (.slice none 0 0) H26)))))) ∧ (¬ (((l19 : Int) : Int) < x1) → (
                            ∀ b27 : Nat, ∀ H28 : Heap, New H b27 [] 5 H28 → (
                              ∃ b29 o30 : Nat, (some (⟨pb0, 0, none⟩ : Addr)) = some (⟨b29, o30, none⟩ : Addr) ∧ (
                                ∃ a31 : Option Addr, ∃ l32 : Nat, ∃ c33 : Nat, hcell H28 b29 o30 = some (.slice a31 l32 c33) ∧ (
                                  (0 : Int) ≤ x1 ∧ (x1 : Int) ≤ (c33 : Int) ∧ (
                                    ∃ old34 new35 : List Value, SRow H28 1 0 (.slice (some (⟨b27, 0, none⟩ : Addr)) 0 0) old34 ∧ SRow H28 1 (Int.toNat x1) (.slice a31 (Int.toNat x1) c33) new35 ∧ (∀ u ∈ new35, Value.oneCell' u = true) ∧ (0 + (Int.toNat x1)) * 1 ≤ 140737488355328 ∧ (0 + (Int.toNat x1) ≤ 0 → roomOf H28 (some (⟨b27, 0, none⟩ : Addr)) (0 * 1) ((Int.toNat x1) * 1)) ∧ ∀ a36 : Option Addr, ∀ c37 : Nat, ∀ H38 : Heap, App H28 1 5 [(.int .u8 0)] (some (⟨b27, 0, none⟩ : Addr)) 0 0 old34 new35 (Int.toNat x1) a36 c37 H38 → (
                                      ∃ b39 o40 : Nat, (some (⟨pb0, 0, none⟩ : Addr)) = some (⟨b39, o40, none⟩ : Addr) ∧ (
                                        ∃ a41 : Option Addr, ∃ l42 : Nat, ∃ c43 : Nat, hcell H38 b39 o40 = some (.slice a41 l42 c43) ∧ (
                                          (0 : Int) ≤ x1 ∧ (x1 : Int) ≤ (l42 : Int) ∧ ∀ a44 : Option Addr, a44 = (if c43 = (Int.toNat x1) then a41 else Option.map (fun x => Addr.add x ((Int.toNat x1) * 1)) a41) → (
                                            ∃ b45 o46 : Nat, (some (⟨pb0, 0, none⟩ : Addr)) = some (⟨b45, o46, none⟩ : Addr) ∧ (
                                              Cells H38 b45 o46 1 ∧ ∀ H47 : Heap, Puts H38 b45 o46 [(.slice a44 (l42 - (Int.toNat x1)) (c43 - (Int.toNat x1)))] H47 → (
                                                R (.slice a36 (0 + (Int.toNat x1)) c37) H47)))))))))))))))))))))))) := by kernel_rfl


/-- (*pentimento/octet.Reader).get -/
theorem vc_get (pb0 : Nat) (x1 : Int) (H : Heap) (R : Value → Heap → Prop) : Walk Tryz.prog 89 [] [(.pointer (some (⟨pb0, 0, none⟩ : Addr))), (.int .i64 x1)] H R = (
  Does Tryz.prog 90 [(.pointer (some (⟨pb0, 0, none⟩ : Addr))), (.int .i64 x1)] H fun v1 H2 => ∃ a3 : Option Addr, ∃ l4 : Nat, ∃ c5 : Nat, v1 = (.slice a3 l4 c5) ∧ (
    ∃ I6 : Int → Int → Heap → Prop, ∃ μ7 : Int → Int → Heap → Nat, (I6 0 0 H2) ∧
    ∀ n8 : Int, ∀ n9 : Int, ∀ H10 : Heap, I6 n8 n9 H10 → (
      ((((n9 : Int) < (l4 : Int)) → (
            (0 : Int) ≤ n9 ∧ (n9 : Int) < (l4 : Int) ∧ ∃ b11 o12 : Nat, a3 = some (⟨b11, o12, none⟩ : Addr) ∧ (
              ∃ n13 : Int, hcell H10 b11 (o12 + (Int.toNat n9)) = some (.int .u8 n13) ∧ (
                ((0 : Int) ≤ 8) ∧
                ∀ q14 : Int, q14 = IntKind.wrap .u64 (n8 * 2 ^ (min (Int.toNat 8) (IntKind.bits .u64))) → (
                  ∀ q15 : Int, q15 = IntKind.wrap .u64 n13 → (
                    ∀ q16 : Int, q16 = bits .or .u64 q14 q15 → (
                      (In64 (n9 + 1)) ∧
                      (I6 q16 (n9 + 1) H10) ∧ μ7 q16 (n9 + 1) H10 < μ7 n8 n9 H10))))))) ∧ (¬ ((n9 : Int) < (l4 : Int)) → (
            R (.int .u64 n8) H10)))))) := by kernel_rfl


/-- (*pentimento/octet.Reader).U16 -/
theorem vc_ru16 (pb0 : Nat) (H : Heap) (R : Value → Heap → Prop) : Walk Tryz.prog 91 [] [(.pointer (some (⟨pb0, 0, none⟩ : Addr)))] H R = (
  Does Tryz.prog 89 [(.pointer (some (⟨pb0, 0, none⟩ : Addr))), (.int .i64 2)] H fun v1 H2 => ∃ n3 : Int, v1 = (.int .u64 n3) ∧ (
    ∀ q4 : Int, q4 = IntKind.wrap .i64 n3 → (
      R (.int .i64 q4) H2))) := by kernel_rfl


/-- (*pentimento/octet.Reader).U32 -/
theorem vc_ru32 (pb0 : Nat) (H : Heap) (R : Value → Heap → Prop) : Walk Tryz.prog 79 [] [(.pointer (some (⟨pb0, 0, none⟩ : Addr)))] H R = (
  Does Tryz.prog 89 [(.pointer (some (⟨pb0, 0, none⟩ : Addr))), (.int .i64 4)] H fun v1 H2 => ∃ n3 : Int, v1 = (.int .u64 n3) ∧ (
    ∀ q4 : Int, q4 = IntKind.wrap .i64 n3 → (
      R (.int .i64 q4) H2))) := by kernel_rfl


/-- (*pentimento/octet.Reader).Lack -/
theorem vc_lack (pb0 : Nat) (H : Heap) (R : Value → Heap → Prop) : Walk Tryz.prog 100 [] [(.pointer (some (⟨pb0, 0, none⟩ : Addr)))] H R = (
  ∃ b1 o2 : Nat, (some (⟨pb0, 0, none⟩ : Addr)) = some (⟨b1, o2, none⟩ : Addr) ∧ (
    ∃ t3 : Bool, hcell H b1 (o2 + 1) = some (.bool t3) ∧ (
      R (.bool t3) H))) := by kernel_rfl


/-- slices.Equal[[]byte,byte] -/
theorem vc_eq (x0 : Option Addr) (x0l : Nat) (x0c : Nat) (x1 : Option Addr) (x1l : Nat) (x1c : Nat) (H : Heap) (R : Value → Heap → Prop) : Walk Tryz.prog 80 [] [(.slice x0 x0l x0c), (.slice x1 x1l x1c)] H R = (
  (((((x0l : Int) : Int) ≠ (x1l : Int)) → (
        R (.bool false) H)) ∧ (¬ (((x0l : Int) : Int) ≠ (x1l : Int)) → (
        ∃ I1 : Int → Heap → Prop, ∃ μ2 : Int → Heap → Nat, (I1 0 H) ∧
        ∀ n3 : Int, ∀ H4 : Heap, I1 n3 H4 → (
          ((((n3 : Int) < (x0l : Int)) → (
                (0 : Int) ≤ n3 ∧ (n3 : Int) < (x0l : Int) ∧ ∃ b5 o6 : Nat, x0 = some (⟨b5, o6, none⟩ : Addr) ∧ (
                  ∃ n7 : Int, hcell H4 b5 (o6 + (Int.toNat n3)) = some (.int .u8 n7) ∧ (
                    (0 : Int) ≤ n3 ∧ (n3 : Int) < (x1l : Int) ∧ ∃ b8 o9 : Nat, x1 = some (⟨b8, o9, none⟩ : Addr) ∧ (
                      ∃ n10 : Int, hcell H4 b8 (o9 + (Int.toNat n3)) = some (.int .u8 n10) ∧ (
                        ((((n7 : Int) ≠ n10) → (
                              R (.bool false) H4)) ∧ (¬ ((n7 : Int) ≠ n10) → (
                              (In64 (n3 + 1)) ∧
                              (I1 (n3 + 1) H4) ∧ μ2 (n3 + 1) H4 < μ2 n3 H4))))))))) ∧ (¬ ((n3 : Int) < (x0l : Int)) → (
                R (.bool true) H4)))))))) := by kernel_rfl


/-- pentimento/journal.padded -/
theorem vc_padded (x0 : Option Addr) (x0l : Nat) (x0c : Nat) (x1 : Int) (H : Heap) (R : Value → Heap → Prop) : Walk Tryz.prog 76 [] [(.slice x0 x0l x0c), (.int .i64 x1)] H R = (
  Does Tryz.prog 62 [(.slice x0 x0l x0c)] H fun v1 H2 => ∃ a3 : Option Addr, ∃ l4 : Nat, ∃ c5 : Nat, v1 = (.slice a3 l4 c5) ∧ (
    (In64 (x1 - (x0l : Int))) ∧
    ∃ old6 : List Value, SRow H2 1 l4 (.slice a3 l4 c5) old6 ∧ (0 : Int) ≤ (max 0 (x1 - (x0l : Int))) ∧ (l4 + (Int.toNat (max 0 (x1 - (x0l : Int))))) * 1 ≤ 140737488355328 ∧ (l4 + (Int.toNat (max 0 (x1 - (x0l : Int)))) ≤ c5 → roomOf H2 a3 (l4 * 1) ((Int.toNat (max 0 (x1 - (x0l : Int)))) * 1)) ∧ ∀ a7 : Option Addr, ∀ c8 : Nat, ∀ H9 : Heap, App H2 1 5 [(.int .u8 0)] a3 l4 c5 old6 (List.replicate (Int.toNat (max 0 (x1 - (x0l : Int)))) (.int .u8 0)) (Int.toNat (max 0 (x1 - (x0l : Int)))) a7 c8 H9 → (
      R (.slice a7 (l4 + (Int.toNat (max 0 (x1 - (x0l : Int))))) c8) H9))) := by kernel_rfl


/-- (pentimento/journal.header).lay -/
theorem vc_hlay (x0_0 : Int) (x0_1 : Int) (x0_2 : Int) (H : Heap) (R : Value → Heap → Prop) : Walk Tryz.prog 50 [] [(.agg #[(.int .i64 x0_0), (.int .i64 x0_1), (.int .i64 x0_2)])] H R = (
  ∀ b1 : Nat, ∀ H2 : Heap, New H b1 [(.int .i64 x0_0), (.int .i64 x0_1), (.int .i64 x0_2)] 78 H2 → (
    Does Tryz.prog 74 [] H2 fun v3 H4 => ∃ p5 : Option Addr, v3 = (.pointer p5) ∧ (
      Does Tryz.prog 75 [(.pointer p5), (.int .i64 1885695604)] H4 fun v6 H7 => v6 = (.tuple #[]) ∧ (
        ∃ n8 : Int, hcell H7 b1 0 = some (.int .i64 n8) ∧ (
          Does Tryz.prog 75 [(.pointer p5), (.int .i64 n8)] H7 fun v9 H10 => v9 = (.tuple #[]) ∧ (
            ∃ n11 : Int, hcell H10 b1 (0 + 1) = some (.int .i64 n11) ∧ (
              Does Tryz.prog 75 [(.pointer p5), (.int .i64 n11)] H10 fun v12 H13 => v12 = (.tuple #[]) ∧ (
                ∃ n14 : Int, hcell H13 b1 (0 + 2) = some (.int .i64 n14) ∧ (
                  Does Tryz.prog 75 [(.pointer p5), (.int .i64 n14)] H13 fun v15 H16 => v15 = (.tuple #[]) ∧ (
                    Does Tryz.prog 77 [(.pointer p5)] H16 fun v17 H18 => ∃ a19 : Option Addr, ∃ l20 : Nat, ∃ c21 : Nat, v17 = (.slice a19 l20 c21) ∧ (
                      Does Tryz.prog 76 [(.slice a19 l20 c21), (.int .i64 128)] H18 fun v22 H23 => ∃ a24 : Option Addr, ∃ l25 : Nat, ∃ c26 : Nat, v22 = (.slice a24 l25 c26) ∧ (
                        R (.slice a24 l25 c26) H23)))))))))))) := by kernel_rfl


/-- pentimento/journal.home -/
theorem vc_home (pb0 : Nat) (x1 : Int) (H : Heap) (R : Value → Heap → Prop) : Walk Tryz.prog 48 [] [(.pointer (some (⟨pb0, 0, none⟩ : Addr))), (.int .i64 x1)] H R = (
  ((((x1 : Int) < 4) → (
        R (.int .i64 (-1)) H)) ∧ (¬ ((x1 : Int) < 4) → (
        Does Tryz.prog 72 [(.pointer (some (⟨pb0, 0, none⟩ : Addr)))] H fun v1 H2 => ∃ n3 : Int, v1 = (.int .i64 n3) ∧ (
          (In64 (n3 - 1)) ∧
          (In64 ((n3 - 1) - 3)) ∧
          ((((((n3 - 1) - 3) : Int) < x1) → (
                R (.int .i64 (-1)) H2)) ∧ (¬ ((((n3 - 1) - 3) : Int) < x1) → (
                Does Tryz.prog 72 [(.pointer (some (⟨pb0, 0, none⟩ : Addr)))] H2 fun v4 H5 => ∃ n6 : Int, v4 = (.int .i64 n6) ∧ (
                  (In64 (n6 - 1)) ∧
                  (In64 ((n6 - 1) - x1)) ∧
                  R (.int .i64 ((n6 - 1) - x1)) H5))))))))) := by kernel_rfl


/-- pentimento/journal.read -/
theorem vc_hread (pb0 : Nat) (H : Heap) (R : Value → Heap → Prop) : Walk Tryz.prog 51 [] [(.pointer (some (⟨pb0, 0, none⟩ : Addr)))] H R = (
  ∀ b1 : Nat, ∀ H2 : Heap, New H b1 [(.int .i64 0), (.int .i64 0), (.int .i64 0)] 78 H2 → (
    Does Tryz.prog 61 [(.pointer (some (⟨pb0, 0, none⟩ : Addr))), (.int .i64 0)] H2 fun v3 H4 => ∃ a5 : Option Addr, ∃ l6 : Nat, ∃ c7 : Nat, ∃ n8 : Int, v3 = (.tuple #[(.slice a5 l6 c7), (.int .i64 n8)]) ∧ (
      ((((n8 : Int) ≠ 0) → (
            Cells H4 b1 0 3 ∧ ∀ H9 : Heap, Puts H4 b1 0 [(.int .i64 0), (.int .i64 0), (.int .i64 0)] H9 → (
              ∃ n10 : Int, hcell H9 b1 0 = some (.int .i64 n10) ∧ (
                ∃ n11 : Int, hcell H9 b1 (0 + 1) = some (.int .i64 n11) ∧ (
                  ∃ n12 : Int, hcell H9 b1 ((0 + 1) + 1) = some (.int .i64 n12) ∧ (
                    R (.tuple #[(.agg #[(.int .i64 n10), (.int .i64 n11), (.int .i64 n12)]), (.int .i64 n8)]) H9)))))) ∧ (¬ ((n8 : Int) ≠ 0) → (
            Does Tryz.prog 78 [(.slice a5 l6 c7)] H4 fun v13 H14 => ∃ p15 : Option Addr, v13 = (.pointer p15) ∧ (
              Does Tryz.prog 79 [(.pointer p15)] H14 fun v16 H17 => ∃ n18 : Int, v16 = (.int .i64 n18) ∧ (
                Does Tryz.prog 79 [(.pointer p15)] H17 fun v19 H20 => ∃ n21 : Int, v19 = (.int .i64 n21) ∧ (
                  Does Tryz.prog 79 [(.pointer p15)] H20 fun v22 H23 => ∃ n24 : Int, v22 = (.int .i64 n24) ∧ (
                    Does Tryz.prog 79 [(.pointer p15)] H23 fun v25 H26 => ∃ n27 : Int, v25 = (.int .i64 n27) ∧ (
                      ∀ b28 : Nat, ∀ H29 : Heap, New H26 b28 [(.int .i64 0), (.int .i64 0), (.int .i64 0)] 78 H29 → (
                        Cells H29 b28 0 3 ∧ ∀ H30 : Heap, Puts H29 b28 0 [(.int .i64 n21), (.int .i64 n24), (.int .i64 n27)] H30 → (
                          ∃ n31 : Int, hcell H30 b28 0 = some (.int .i64 n31) ∧ (
                            ∃ n32 : Int, hcell H30 b28 (0 + 1) = some (.int .i64 n32) ∧ (
                              ∃ n33 : Int, hcell H30 b28 ((0 + 1) + 1) = some (.int .i64 n33) ∧ (
                                Does Tryz.prog 50 [(.agg #[(.int .i64 n31), (.int .i64 n32), (.int .i64 n33)])] H30 fun v34 H35 => ∃ a36 : Option Addr, ∃ l37 : Nat, ∃ c38 : Nat, v34 = (.slice a36 l37 c38) ∧ (
                                  Does Tryz.prog 80 [(.slice a36 l37 c38), (.slice a5 l6 c7)] H35 fun v39 H40 => ∃ t41 : Bool, v39 = (.bool t41) ∧ (
                                    (((t41 = false) → (
                                          Cells H40 b1 0 3 ∧ ∀ H42 : Heap, Puts H40 b1 0 [(.int .i64 0), (.int .i64 0), (.int .i64 0)] H42 → (
                                            ∃ n43 : Int, hcell H42 b1 0 = some (.int .i64 n43) ∧ (
                                              ∃ n44 : Int, hcell H42 b1 (0 + 1) = some (.int .i64 n44) ∧ (
                                                ∃ n45 : Int, hcell H42 b1 ((0 + 1) + 1) = some (.int .i64 n45) ∧ (
                                                  R (.tuple #[(.agg #[(.int .i64 n43), (.int .i64 n44), (.int .i64 n45)]), (.int .i64 2)]) H42)))))) ∧ (¬ (t41 = false) → (
                                          ∃ n46 : Int, hcell H40 b28 (0 + 2) = some (.int .i64 n46) ∧ (
                                            Does Tryz.prog 48 [(.pointer (some (⟨pb0, 0, none⟩ : Addr))), (.int .i64 n46)] H40 fun v47 H48 => ∃ n49 : Int, v47 = (.int .i64 n49) ∧ (
                                              ((((n49 : Int) < 0) → (
                                                    Cells H48 b1 0 3 ∧ ∀ H50 : Heap, Puts H48 b1 0 [(.int .i64 0), (.int .i64 0), (.int .i64 0)] H50 → (
                                                      ∃ n51 : Int, hcell H50 b1 0 = some (.int .i64 n51) ∧ (
                                                        ∃ n52 : Int, hcell H50 b1 (0 + 1) = some (.int .i64 n52) ∧ (
                                                          ∃ n53 : Int, hcell H50 b1 ((0 + 1) + 1) = some (.int .i64 n53) ∧ (
                                                            R (.tuple #[(.agg #[(.int .i64 n51), (.int .i64 n52), (.int .i64 n53)]), (.int .i64 2)]) H50)))))) ∧ (¬ ((n49 : Int) < 0) → (
                                                    ∃ n54 : Int, hcell H48 b28 (0 + 1) = some (.int .i64 n54) ∧ (
                                                      ((((n54 : Int) = 0) → (
                                                            Cells H48 b1 0 3 ∧ ∀ H55 : Heap, Puts H48 b1 0 [(.int .i64 0), (.int .i64 0), (.int .i64 0)] H55 → (
                                                            ∃ n56 : Int, hcell H55 b1 0 = some (.int .i64 n56) ∧ (
                                                            ∃ n57 : Int, hcell H55 b1 (0 + 1) = some (.int .i64 n57) ∧ (
                                                            ∃ n58 : Int, hcell H55 b1 ((0 + 1) + 1) = some (.int .i64 n58) ∧ (
                                                            R (.tuple #[(.agg #[(.int .i64 n56), (.int .i64 n57), (.int .i64 n58)]), (.int .i64 2)]) H55)))))) ∧ (¬ ((n54 : Int) = 0) → (
                                                            ∃ n59 : Int, hcell H48 b28 0 = some (.int .i64 n59) ∧ (
                                                            ∃ n60 : Int, hcell H48 b28 (0 + 1) = some (.int .i64 n60) ∧ (
                                                            ∃ n61 : Int, hcell H48 b28 ((0 + 1) + 1) = some (.int .i64 n61) ∧ (
                                                            Cells H48 b1 0 3 ∧ ∀ H62 : Heap, Puts H48 b1 0 [(.int .i64 n59), (.int .i64 n60), (.int .i64 n61)] H62 → (
                                                            ∃ n63 : Int, hcell H62 b1 0 = some (.int .i64 n63) ∧ (
                                                            ∃ n64 : Int, hcell H62 b1 (0 + 1) = some (.int .i64 n64) ∧ (
                                                            ∃ n65 : Int, hcell H62 b1 ((0 + 1) + 1) = some (.int .i64 n65) ∧ (
                                                            R (.tuple #[(.agg #[(.int .i64 n63), (.int .i64 n64), (.int .i64 n65)]), (.int .i64 0)]) H62))))))))))))))))))))))))))))))))))))) := by kernel_rfl


/-- pentimento/journal.Needs -/
theorem vc_needs (x0 : Int) (H : Heap) (R : Value → Heap → Prop) : Walk Tryz.prog 29 [] [(.int .i64 x0)] H R = (
  ((((x0 : Int) < 1) → (
        R (.int .i64 0) H)) ∧ (¬ ((x0 : Int) < 1) → (
        (In64 (x0 * 132)) ∧
        (In64 (2 + (x0 * 132))) ∧
        (In64 ((2 + (x0 * 132)) + 116)) ∧
        (In64 (((2 + (x0 * 132)) + 116) - 1)) ∧
        ((116 : Int) ≠ 0) ∧
        ∀ q1 : Int, q1 = IntKind.wrap .i64 (Int.tdiv (((2 + (x0 * 132)) + 116) - 1) 116) → (
          R (.int .i64 q1) H))))) := by kernel_rfl


/-- pentimento/journal.stream -/
theorem vc_stream (x0 : Option Addr) (x0l : Nat) (x0c : Nat) (H : Heap) (R : Value → Heap → Prop) : Walk Tryz.prog 94 [] [(.slice x0 x0l x0c)] H R = (
  Does Tryz.prog 74 [] H fun v1 H2 => ∃ p3 : Option Addr, v1 = (.pointer p3) ∧ (
    Does Tryz.prog 95 [(.pointer p3), (.int .i64 (x0l : Int))] H2 fun v4 H5 => v4 = (.tuple #[]) ∧ (
      ∃ I6 : Int → Heap → Prop, ∃ μ7 : Int → Heap → Nat, (I6 0 H5) ∧
      ∀ n8 : Int, ∀ H9 : Heap, I6 n8 H9 → (
        ((((n8 : Int) < (x0l : Int)) → (
              (0 : Int) ≤ n8 ∧ (n8 : Int) < (x0l : Int) ∧ ∃ b10 o11 : Nat, x0 = some (⟨b10, o11, none⟩ : Addr) ∧ (
                ∃ n12 : Int, hcell H9 b10 (o11 + (Int.toNat n8) * 2) = some (.int .i64 n12) ∧ (
                  ∃ a13 : Option Addr, ∃ l14 : Nat, ∃ c15 : Nat, hcell H9 b10 ((o11 + (Int.toNat n8) * 2) + 1) = some (.slice a13 l14 c15) ∧ (
                    ∀ b16 : Nat, ∀ H17 : Heap, New H9 b16 [(.int .i64 0), (.slice none 0 0)] 62 H17 → (
                      Cells H17 b16 0 2 ∧ ∀ H18 : Heap, Puts H17 b16 0 [(.int .i64 n12), (.slice a13 l14 c15)] H18 → (
                        ∃ n19 : Int, hcell H18 b16 0 = some (.int .i64 n19) ∧ (
                          Does Tryz.prog 75 [(.pointer p3), (.int .i64 n19)] H18 fun v20 H21 => v20 = (.tuple #[]) ∧ (
                            ∃ a22 : Option Addr, ∃ l23 : Nat, ∃ c24 : Nat, hcell H21 b16 (0 + 1) = some (.slice a22 l23 c24) ∧ (
                              Does Tryz.prog 96 [(.pointer p3), (.slice a22 l23 c24)] H21 fun v25 H26 => v25 = (.tuple #[]) ∧ (
                                (In64 (n8 + 1)) ∧
                                (I6 (n8 + 1) H26) ∧ μ7 (n8 + 1) H26 < μ7 n8 H9))))))))))) ∧ (¬ ((n8 : Int) < (x0l : Int)) → (
              Does Tryz.prog 77 [(.pointer p3)] H9 fun v27 H28 => ∃ a29 : Option Addr, ∃ l30 : Nat, ∃ c31 : Nat, v27 = (.slice a29 l30 c31) ∧ (
                R (.slice a29 l30 c31) H28)))))))) := by kernel_rfl


/-- (pentimento/journal.header).laid -/
theorem vc_laid (x0_0 : Int) (x0_1 : Int) (x0_2 : Int) (x1 : Option Addr) (x1l : Nat) (x1c : Nat) (H : Heap) (R : Value → Heap → Prop) : Walk Tryz.prog 82 [] [(.agg #[(.int .i64 x0_0), (.int .i64 x0_1), (.int .i64 x0_2)]), (.slice x1 x1l x1c)] H R = (
  ∀ b1 : Nat, ∀ H2 : Heap, New H b1 [(.int .i64 x0_0), (.int .i64 x0_1), (.int .i64 x0_2)] 78 H2 → (
    Does Tryz.prog 94 [(.slice x1 x1l x1c)] H2 fun v3 H4 => ∃ a5 : Option Addr, ∃ l6 : Nat, ∃ c7 : Nat, v3 = (.slice a5 l6 c7) ∧ (
      Does Tryz.prog 29 [(.int .i64 (x1l : Int))] H4 fun v8 H9 => ∃ n10 : Int, v8 = (.int .i64 n10) ∧ (
        (In64 (n10 * 116)) ∧
        Does Tryz.prog 76 [(.slice a5 l6 c7), (.int .i64 (n10 * 116))] H9 fun v11 H12 => ∃ a13 : Option Addr, ∃ l14 : Nat, ∃ c15 : Nat, v11 = (.slice a13 l14 c15) ∧ (
          ∃ I16 : Option Addr → Nat → Nat → Int → Heap → Prop, ∃ μ17 : Option Addr → Nat → Nat → Int → Heap → Nat, (I16 none 0 0 0 H12) ∧
          ∀ a18 : Option Addr, ∀ l19 : Nat, ∀ c20 : Nat, ∀ n21 : Int, ∀ H22 : Heap, I16 a18 l19 c20 n21 H22 → (
            ((((n21 : Int) < n10) → (
                  Does Tryz.prog 74 [] H22 fun v23 H24 => ∃ p25 : Option Addr, v23 = (.pointer p25) ∧ (
                    ∃ n26 : Int, hcell H24 b1 0 = some (.int .i64 n26) ∧ (
                      Does Tryz.prog 75 [(.pointer p25), (.int .i64 n26)] H24 fun v27 H28 => v27 = (.tuple #[]) ∧ (
                        ∃ n29 : Int, hcell H28 b1 (0 + 1) = some (.int .i64 n29) ∧ (
                          Does Tryz.prog 75 [(.pointer p25), (.int .i64 n29)] H28 fun v30 H31 => v30 = (.tuple #[]) ∧ (
                            Does Tryz.prog 95 [(.pointer p25), (.int .i64 n21)] H31 fun v32 H33 => v32 = (.tuple #[]) ∧ (
                              Does Tryz.prog 95 [(.pointer p25), (.int .i64 n10)] H33 fun v34 H35 => v34 = (.tuple #[]) ∧ (
                                (In64 (n21 * 116)) ∧
                                (In64 (n21 + 1)) ∧
                                (In64 ((n21 + 1) * 116)) ∧
                                (0 : Int) ≤ (n21 * 116) ∧ ((n21 * 116) : Int) ≤ ((n21 + 1) * 116) ∧ (((n21 + 1) * 116) : Int) ≤ (c15 : Int) ∧ ∀ a36 : Option Addr, a36 = (if c15 = (Int.toNat (n21 * 116)) then a13 else Option.map (fun x => Addr.add x ((Int.toNat (n21 * 116)) * 1)) a13) → (
                                  Does Tryz.prog 96 [(.pointer p25), (.slice a36 ((Int.toNat ((n21 + 1) * 116)) - (Int.toNat (n21 * 116))) (c15 - (Int.toNat (n21 * 116))))] H35 fun v37 H38 => v37 = (.tuple #[]) ∧ (
                                    Does Tryz.prog 77 [(.pointer p25)] H38 fun v39 H40 => ∃ a41 : Option Addr, ∃ l42 : Nat, ∃ c43 : Nat, v39 = (.slice a41 l42 c43) ∧ (
                                      ∀ b44 : Nat, ∀ H45 : Heap, New H40 b44 [(.slice a41 l42 c43)] 37 H45 → (
                                        ∃ old46 new47 : List Value, SRow H45 1 l19 (.slice a18 l19 c20) old46 ∧ SRow H45 1 1 (.slice (some (⟨b44, 0, none⟩ : Addr)) 1 1) new47 ∧ (∀ u ∈ new47, Value.oneCell' u = true) ∧ (l19 + 1) * 24 ≤ 140737488355328 ∧ (l19 + 1 ≤ c20 → roomOf H45 a18 (l19 * 1) (1 * 1)) ∧ ∀ a48 : Option Addr, ∀ c49 : Nat, ∀ H50 : Heap, App H45 1 37 [(.slice none 0 0)] a18 l19 c20 old46 new47 1 a48 c49 H50 → (
                                          (In64 (n21 + 1)) ∧
                                          (I16 a48 (l19 + 1) c49 (n21 + 1) H50) ∧ μ17 a48 (l19 + 1) c49 (n21 + 1) H50 < μ17 a18 l19 c20 n21 H22)))))))))))))) ∧ (¬ ((n21 : Int) < n10) → (
                  R (.slice a18 l19 c20) H22))))))))) := by kernel_rfl


/-- pentimento/journal.writes -/
theorem vc_writes (x0 : Option Addr) (x0l : Nat) (x0c : Nat) (H : Heap) (R : Value → Heap → Prop) : Walk Tryz.prog 92 [] [(.slice x0 x0l x0c)] H R = (
  Does Tryz.prog 78 [(.slice x0 x0l x0c)] H fun v1 H2 => ∃ p3 : Option Addr, v1 = (.pointer p3) ∧ (
    Does Tryz.prog 91 [(.pointer p3)] H2 fun v4 H5 => ∃ n6 : Int, v4 = (.int .i64 n6) ∧ (
      ∃ I7 : Option Addr → Nat → Nat → Int → Heap → Prop, ∃ μ8 : Option Addr → Nat → Nat → Int → Heap → Nat, (I7 none 0 0 n6 H5) ∧
      ∀ a9 : Option Addr, ∀ l10 : Nat, ∀ c11 : Nat, ∀ n12 : Int, ∀ H13 : Heap, I7 a9 l10 c11 n12 H13 → (
        ((((0 : Int) < n12) → (
              Does Tryz.prog 100 [(.pointer p3)] H13 fun v14 H15 => ∃ t16 : Bool, v14 = (.bool t16) ∧ (
                (((t16 = false) → (
                      Does Tryz.prog 79 [(.pointer p3)] H15 fun v17 H18 => ∃ n19 : Int, v17 = (.int .i64 n19) ∧ (
                        Does Tryz.prog 90 [(.pointer p3), (.int .i64 128)] H18 fun v20 H21 => ∃ a22 : Option Addr, ∃ l23 : Nat, ∃ c24 : Nat, v20 = (.slice a22 l23 c24) ∧ (
                          ∀ b25 : Nat, ∀ H26 : Heap, New H21 b25 [(.int .i64 n19), (.slice a22 l23 c24)] 62 H26 → (
                            ∃ old27 new28 : List Value, SRow H26 2 l10 (.slice a9 l10 c11) old27 ∧ SRow H26 2 1 (.slice (some (⟨b25, 0, none⟩ : Addr)) 1 1) new28 ∧ (∀ u ∈ new28, Value.oneCell' u = true) ∧ (l10 + 1) * 32 ≤ 140737488355328 ∧ (l10 + 1 ≤ c11 → roomOf H26 a9 (l10 * 2) (1 * 2)) ∧ ∀ a29 : Option Addr, ∀ c30 : Nat, ∀ H31 : Heap, App H26 2 62 [(.int .i64 0), (.slice none 0 0)] a9 l10 c11 old27 new28 1 a29 c30 H31 → (
                              (In64 (n12 - 1)) ∧
                              (I7 a29 (l10 + 1) c30 (n12 - 1) H31) ∧ μ8 a29 (l10 + 1) c30 (n12 - 1) H31 < μ8 a9 l10 c11 n12 H13)))))) ∧ (¬ (t16 = false) → (
                      R (.slice a9 l10 c11) H15)))))) ∧ (¬ ((0 : Int) < n12) → (
              R (.slice a9 l10 c11) H13))))))) := by kernel_rfl


/-- pentimento/journal.may -/
theorem vc_may (x0 : Option Addr) (x0l : Nat) (x0c : Nat) (x1 : Int) (H : Heap) (R : Value → Heap → Prop) : Walk Tryz.prog 53 [] [(.slice x0 x0l x0c), (.int .i64 x1)] H R = (
  ∀ r1 : Nat, ∀ H2 : Heap, NewMap H r1 H2 → (
    ∃ I3 : Int → Heap → Prop, ∃ μ4 : Int → Heap → Nat, (I3 0 H2) ∧
    ∀ n5 : Int, ∀ H6 : Heap, I3 n5 H6 → (
      ((((n5 : Int) < (x0l : Int)) → (
            (0 : Int) ≤ n5 ∧ (n5 : Int) < (x0l : Int) ∧ ∃ b7 o8 : Nat, x0 = some (⟨b7, o8, none⟩ : Addr) ∧ (
              ∃ n9 : Int, hcell H6 b7 (o8 + (Int.toNat n5) * 2) = some (.int .i64 n9) ∧ (
                ∃ a10 : Option Addr, ∃ l11 : Nat, ∃ c12 : Nat, hcell H6 b7 ((o8 + (Int.toNat n5) * 2) + 1) = some (.slice a10 l11 c12) ∧ (
                  ∀ b13 : Nat, ∀ H14 : Heap, New H6 b13 [(.int .i64 0), (.slice none 0 0)] 62 H14 → (
                    Cells H14 b13 0 2 ∧ ∀ H15 : Heap, Puts H14 b13 0 [(.int .i64 n9), (.slice a10 l11 c12)] H15 → (
                      ∃ n16 : Int, hcell H15 b13 0 = some (.int .i64 n16) ∧ (
                        ((((n16 : Int) < 0) → (
                              R (.bool false) H15)) ∧ (¬ ((n16 : Int) < 0) → (
                              ∃ n17 : Int, hcell H15 b13 0 = some (.int .i64 n17) ∧ (
                                ((((x1 : Int) ≤ n17) → (
                                      R (.bool false) H15)) ∧ (¬ ((x1 : Int) ≤ n17) → (
                                      ∃ a18 : Option Addr, ∃ l19 : Nat, ∃ c20 : Nat, hcell H15 b13 (0 + 1) = some (.slice a18 l19 c20) ∧ (
                                        (((((l19 : Int) : Int) ≠ 128) → (
                                              R (.bool false) H15)) ∧ (¬ (((l19 : Int) : Int) ≠ 128) → (
                                              ∃ n21 : Int, hcell H15 b13 0 = some (.int .i64 n21) ∧ (
                                                ∃ r22 : Nat, ∃ l23 : List (Int × Value), (some r1) = some r22 ∧ MapIs H15 r22 l23 ∧ ∃ t24 : Bool, (.bool t24) = mapGet l23 n21 (.bool false) ∧ (
                                                  ((t24 = true → (
                                                        R (.bool false) H15)) ∧ (t24 = false → (
                                                        ∃ n25 : Int, hcell H15 b13 0 = some (.int .i64 n25) ∧ (
                                                          ∃ r26 : Nat, ∃ l27 : List (Int × Value), (some r1) = some r26 ∧ MapIs H15 r26 l27 ∧ ∀ H28 : Heap, MapPut H15 r26 (mapSet l27 n25 (.bool true)) H28 → (
                                                            (In64 (n5 + 1)) ∧
                                                            (I3 (n5 + 1) H28) ∧ μ4 (n5 + 1) H28 < μ4 n5 H6)))))))))))))))))))))))))) ∧ (¬ ((n5 : Int) < (x0l : Int)) → (
            R (.bool (@decide ((0 : Int) < (x0l : Int)) (Classical.propDecidable _))) H6)))))) := by kernel_rfl


/-- slices.EqualFunc[[][]byte,[][]byte,[]byte,[]byte] -/
theorem vc_eqfunc (x0 : Option Addr) (x0l : Nat) (x0c : Nat) (x1 : Option Addr) (x1l : Nat) (x1c : Nat) (H : Heap) (R : Value → Heap → Prop) : Walk Tryz.prog 93 [] [(.slice x0 x0l x0c), (.slice x1 x1l x1c), (.func (.func 80) #[] #[])] H R = (
  (((((x0l : Int) : Int) ≠ (x1l : Int)) → (
        R (.bool false) H)) ∧ (¬ (((x0l : Int) : Int) ≠ (x1l : Int)) → (
        ∃ I1 : Int → Heap → Prop, ∃ μ2 : Int → Heap → Nat, (I1 0 H) ∧
        ∀ n3 : Int, ∀ H4 : Heap, I1 n3 H4 → (
          ((((n3 : Int) < (x0l : Int)) → (
                (0 : Int) ≤ n3 ∧ (n3 : Int) < (x0l : Int) ∧ ∃ b5 o6 : Nat, x0 = some (⟨b5, o6, none⟩ : Addr) ∧ (
                  ∃ a7 : Option Addr, ∃ l8 : Nat, ∃ c9 : Nat, hcell H4 b5 (o6 + (Int.toNat n3)) = some (.slice a7 l8 c9) ∧ (
                    (0 : Int) ≤ n3 ∧ (n3 : Int) < (x1l : Int) ∧ ∃ b10 o11 : Nat, x1 = some (⟨b10, o11, none⟩ : Addr) ∧ (
                      ∃ a12 : Option Addr, ∃ l13 : Nat, ∃ c14 : Nat, hcell H4 b10 (o11 + (Int.toNat n3)) = some (.slice a12 l13 c14) ∧ (
                        Does Tryz.prog 80 [(.slice a7 l8 c9), (.slice a12 l13 c14)] H4 fun v15 H16 => ∃ t17 : Bool, v15 = (.bool t17) ∧ (
                          (((t17 = false) → (
                                R (.bool false) H16)) ∧ (¬ (t17 = false) → (
                                (In64 (n3 + 1)) ∧
                                (I1 (n3 + 1) H16) ∧ μ2 (n3 + 1) H16 < μ2 n3 H4)))))))))) ∧ (¬ ((n3 : Int) < (x0l : Int)) → (
                R (.bool true) H4)))))))) := by kernel_rfl


/-- (pentimento/journal.header).whole -/
theorem vc_whole (x0_0 : Int) (x0_1 : Int) (x0_2 : Int) (x1 : Option Addr) (x1l : Nat) (x1c : Nat) (x2 : Int) (H : Heap) (R : Value → Heap → Prop) : Walk Tryz.prog 81 [] [(.agg #[(.int .i64 x0_0), (.int .i64 x0_1), (.int .i64 x0_2)]), (.slice x1 x1l x1c), (.int .i64 x2)] H R = (
  ∀ b1 : Nat, ∀ H2 : Heap, New H b1 [(.int .i64 x0_0), (.int .i64 x0_1), (.int .i64 x0_2)] 78 H2 → (
    (((((x1l : Int) : Int) = 0) → (
          R (.tuple #[(.slice none 0 0), (.int .i64 0)]) H2)) ∧ (¬ (((x1l : Int) : Int) = 0) → (
          (0 : Int) ≤ 0 ∧ (0 : Int) < (x1l : Int) ∧ ∃ b3 o4 : Nat, x1 = some (⟨b3, o4, none⟩ : Addr) ∧ (
            ∃ a5 : Option Addr, ∃ l6 : Nat, ∃ c7 : Nat, hcell H2 b3 (o4 + (Int.toNat 0)) = some (.slice a5 l6 c7) ∧ (
              Does Tryz.prog 78 [(.slice a5 l6 c7)] H2 fun v8 H9 => ∃ p10 : Option Addr, v8 = (.pointer p10) ∧ (
                Does Tryz.prog 90 [(.pointer p10), (.int .i64 10)] H9 fun v11 H12 => ∃ a13 : Option Addr, ∃ l14 : Nat, ∃ c15 : Nat, v11 = (.slice a13 l14 c15) ∧ (
                  Does Tryz.prog 91 [(.pointer p10)] H12 fun v16 H17 => ∃ n18 : Int, v16 = (.int .i64 n18) ∧ (
                    (((((x1l : Int) : Int) < n18) → (
                          R (.tuple #[(.slice none 0 0), (.int .i64 0)]) H17)) ∧ (¬ (((x1l : Int) : Int) < n18) → (
                          (0 : Int) ≤ n18 ∧ (n18 : Int) ≤ (x1c : Int) ∧ (
                            ∃ I19 : Option Addr → Nat → Nat → Int → Heap → Prop, ∃ μ20 : Option Addr → Nat → Nat → Int → Heap → Nat, (I19 none 0 0 0 H17) ∧
                            ∀ a21 : Option Addr, ∀ l22 : Nat, ∀ c23 : Nat, ∀ n24 : Int, ∀ H25 : Heap, I19 a21 l22 c23 n24 H25 → (
                              ((((n24 : Int) < ((Int.toNat n18) : Int)) → (
                                    (0 : Int) ≤ n24 ∧ (n24 : Int) < ((Int.toNat n18) : Int) ∧ ∃ b26 o27 : Nat, x1 = some (⟨b26, o27, none⟩ : Addr) ∧ (
                                      ∃ a28 : Option Addr, ∃ l29 : Nat, ∃ c30 : Nat, hcell H25 b26 (o27 + (Int.toNat n24)) = some (.slice a28 l29 c30) ∧ (
                                        (0 : Int) ≤ 12 ∧ (12 : Int) ≤ (l29 : Int) ∧ ∀ a31 : Option Addr, a31 = (if c30 = (Int.toNat 12) then a28 else Option.map (fun x => Addr.add x ((Int.toNat 12) * 1)) a28) → (
                                          ∃ old32 new33 : List Value, SRow H25 1 l22 (.slice a21 l22 c23) old32 ∧ SRow H25 1 (l29 - (Int.toNat 12)) (.slice a31 (l29 - (Int.toNat 12)) (c30 - (Int.toNat 12))) new33 ∧ (∀ u ∈ new33, Value.oneCell' u = true) ∧ (l22 + (l29 - (Int.toNat 12))) * 1 ≤ 140737488355328 ∧ (l22 + (l29 - (Int.toNat 12)) ≤ c23 → roomOf H25 a21 (l22 * 1) ((l29 - (Int.toNat 12)) * 1)) ∧ ∀ a34 : Option Addr, ∀ c35 : Nat, ∀ H36 : Heap, App H25 1 5 [(.int .u8 0)] a21 l22 c23 old32 new33 (l29 - (Int.toNat 12)) a34 c35 H36 → (
                                            (In64 (n24 + 1)) ∧
                                            (I19 a34 (l22 + (l29 - (Int.toNat 12))) c35 (n24 + 1) H36) ∧ μ20 a34 (l22 + (l29 - (Int.toNat 12))) c35 (n24 + 1) H36 < μ20 a21 l22 c23 n24 H25)))))) ∧ (¬ ((n24 : Int) < ((Int.toNat n18) : Int)) → (
                                    Does Tryz.prog 92 [(.slice a21 l22 c23)] H25 fun v37 H38 => ∃ a39 : Option Addr, ∃ l40 : Nat, ∃ c41 : Nat, v37 = (.slice a39 l40 c41) ∧ (
                                      Does Tryz.prog 53 [(.slice a39 l40 c41), (.int .i64 x2)] H38 fun v42 H43 => ∃ t44 : Bool, v42 = (.bool t44) ∧ (
                                        ((((t44 = false) → (
                                                R (.tuple #[(.slice none 0 0), (.int .i64 0)]) H43)) ∧ (¬ (t44 = false) → (
                                                ∃ n45 : Int, hcell H43 b1 0 = some (.int .i64 n45) ∧ (
                                                  ∃ n46 : Int, hcell H43 b1 (0 + 1) = some (.int .i64 n46) ∧ (
                                                    ∃ n47 : Int, hcell H43 b1 ((0 + 1) + 1) = some (.int .i64 n47) ∧ (
                                                      (0 : Int) ≤ n18 ∧ (n18 : Int) ≤ (x1c : Int) ∧ (
                                                        Does Tryz.prog 82 [(.agg #[(.int .i64 n45), (.int .i64 n46), (.int .i64 n47)]), (.slice a39 l40 c41)] H43 fun v48 H49 => ∃ a50 : Option Addr, ∃ l51 : Nat, ∃ c52 : Nat, v48 = (.slice a50 l51 c52) ∧ (
                                                          (Does Tryz.prog 93 [(.slice a50 l51 c52), (.slice x1 (Int.toNat n18) x1c), (.func (.func 80) #[] #[])] H49 fun v53 H54 => ∃ t55 : Bool, v53 = (.bool t55) ∧ (
                                                            ((((t55 = false) → (
                                                            R (.tuple #[(.slice none 0 0), (.int .i64 0)]) H54)) ∧ (¬ (t55 = false) → (
                                                            R (.tuple #[(.slice a39 l40 c41), (.int .i64 n18)]) H54))))))))))))))))))))))))))))))))))) := by kernel_rfl


end Go.Proofs
end

section
open Go Go.Vc
namespace Go.Proofs
set_option maxRecDepth 100000
/-- pentimento/pentimentohand.Pick -/
theorem vc_pick (x0 : Int) (x1 : Int) (H : Heap) (R : Value → Heap → Prop) : Walk Tryz.prog 4 [] [(.int .i64 x0), (.int .i64 x1)] H R = (
  ((x1 : Int) ≠ 0) ∧
  ∀ q1 : Int, q1 = Int.tmod x0 x1 → (
    ((((q1 : Int) < 0) → (
          (In64 (q1 + x1)) ∧
          R (.int .i64 (q1 + x1)) H)) ∧ (¬ ((q1 : Int) < 0) → (
          R (.int .i64 q1) H))))) := by kernel_rfl


/-- slices.Clone[[][]byte,[]byte] -/
theorem vc_clonell (x0 : Option Addr) (x0l : Nat) (x0c : Nat) (H : Heap) (R : Value → Heap → Prop) : Walk Tryz.prog 46 [] [(.slice x0 x0l x0c)] H R = (
  ((((x0 : Option Addr) = none) → (
        R (.slice none 0 0) H)) ∧ (¬ ((x0 : Option Addr) = none) → (
        ∀ b1 : Nat, ∀ H2 : Heap, New H b1 [] 37 H2 → (
          ∃ old3 new4 : List Value, SRow H2 1 0 (.slice (some (⟨b1, 0, none⟩ : Addr)) 0 0) old3 ∧ SRow H2 1 x0l (.slice x0 x0l x0c) new4 ∧ (∀ u ∈ new4, Value.oneCell' u = true) ∧ (0 + x0l) * 24 ≤ 140737488355328 ∧ (0 + x0l ≤ 0 → roomOf H2 (some (⟨b1, 0, none⟩ : Addr)) (0 * 1) (x0l * 1)) ∧ ∀ a5 : Option Addr, ∀ c6 : Nat, ∀ H7 : Heap, App H2 1 37 [(.slice none 0 0)] (some (⟨b1, 0, none⟩ : Addr)) 0 0 old3 new4 x0l a5 c6 H7 → (
            R (.slice a5 (0 + x0l) c6) H7)))))) := by kernel_rfl


/-- (*pentimento/dev.Device).work -/
theorem vc_work (x0 : Option Addr) (H : Heap) (R : Value → Heap → Prop) : Walk Tryz.prog 69 [] [(.pointer x0)] H R = (
  ∃ b1 o2 : Nat, x0 = some (⟨b1, o2, none⟩ : Addr) ∧ (
    ∃ n3 : Int, hcell H b1 (o2 + 3) = some (.int .i64 n3) ∧ (
      ((((n3 : Int) = 0) → (
            ∃ b4 o5 : Nat, x0 = some (⟨b4, o5, none⟩ : Addr) ∧ (
              Cells H b4 (o5 + 4) 1 ∧ ∀ H6 : Heap, Puts H b4 (o5 + 4) [(.bool true)] H6 → (
                ∃ b7 o8 : Nat, x0 = some (⟨b7, o8, none⟩ : Addr) ∧ (
                  ∃ t9 : Bool, hcell H6 b7 (o8 + 4) = some (.bool t9) ∧ (
                    ((t9 = true → (
                          R (.int .i64 4) H6)) ∧ (t9 = false → (
                          ∃ b10 o11 : Nat, x0 = some (⟨b10, o11, none⟩ : Addr) ∧ (
                            ∃ n12 : Int, hcell H6 b10 (o11 + 3) = some (.int .i64 n12) ∧ (
                              ((((0 : Int) < n12) → (
                                    ∃ b13 o14 : Nat, x0 = some (⟨b13, o14, none⟩ : Addr) ∧ (
                                      ∃ n15 : Int, hcell H6 b13 (o14 + 3) = some (.int .i64 n15) ∧ (
                                        (In64 (n15 - 1)) ∧
                                        ∃ b16 o17 : Nat, x0 = some (⟨b16, o17, none⟩ : Addr) ∧ (
                                          Cells H6 b16 (o17 + 3) 1 ∧ ∀ H18 : Heap, Puts H6 b16 (o17 + 3) [(.int .i64 (n15 - 1))] H18 → (
                                            ∃ b19 o20 : Nat, x0 = some (⟨b19, o20, none⟩ : Addr) ∧ (
                                              ∃ n21 : Int, hcell H18 b19 (o20 + 5) = some (.int .i64 n21) ∧ (
                                                (In64 (n21 + 1)) ∧
                                                ∃ b22 o23 : Nat, x0 = some (⟨b22, o23, none⟩ : Addr) ∧ (
                                                  Cells H18 b22 (o23 + 5) 1 ∧ ∀ H24 : Heap, Puts H18 b22 (o23 + 5) [(.int .i64 (n21 + 1))] H24 → (
                                                    R (.int .i64 0) H24)))))))))) ∧ (¬ ((0 : Int) < n12) → (
                                    ∃ b25 o26 : Nat, x0 = some (⟨b25, o26, none⟩ : Addr) ∧ (
                                      ∃ n27 : Int, hcell H6 b25 (o26 + 5) = some (.int .i64 n27) ∧ (
                                        (In64 (n27 + 1)) ∧
                                        ∃ b28 o29 : Nat, x0 = some (⟨b28, o29, none⟩ : Addr) ∧ (
                                          Cells H6 b28 (o29 + 5) 1 ∧ ∀ H30 : Heap, Puts H6 b28 (o29 + 5) [(.int .i64 (n27 + 1))] H30 → (
                                            R (.int .i64 0) H30)))))))))))))))))) ∧ (¬ ((n3 : Int) = 0) → (
            ∃ b31 o32 : Nat, x0 = some (⟨b31, o32, none⟩ : Addr) ∧ (
              ∃ t33 : Bool, hcell H b31 (o32 + 4) = some (.bool t33) ∧ (
                ((t33 = true → (
                      R (.int .i64 4) H)) ∧ (t33 = false → (
                      ∃ b34 o35 : Nat, x0 = some (⟨b34, o35, none⟩ : Addr) ∧ (
                        ∃ n36 : Int, hcell H b34 (o35 + 3) = some (.int .i64 n36) ∧ (
                          ((((0 : Int) < n36) → (
                                ∃ b37 o38 : Nat, x0 = some (⟨b37, o38, none⟩ : Addr) ∧ (
                                  ∃ n39 : Int, hcell H b37 (o38 + 3) = some (.int .i64 n39) ∧ (
                                    (In64 (n39 - 1)) ∧
                                    ∃ b40 o41 : Nat, x0 = some (⟨b40, o41, none⟩ : Addr) ∧ (
                                      Cells H b40 (o41 + 3) 1 ∧ ∀ H42 : Heap, Puts H b40 (o41 + 3) [(.int .i64 (n39 - 1))] H42 → (
                                        ∃ b43 o44 : Nat, x0 = some (⟨b43, o44, none⟩ : Addr) ∧ (
                                          ∃ n45 : Int, hcell H42 b43 (o44 + 5) = some (.int .i64 n45) ∧ (
                                            (In64 (n45 + 1)) ∧
                                            ∃ b46 o47 : Nat, x0 = some (⟨b46, o47, none⟩ : Addr) ∧ (
                                              Cells H42 b46 (o47 + 5) 1 ∧ ∀ H48 : Heap, Puts H42 b46 (o47 + 5) [(.int .i64 (n45 + 1))] H48 → (
                                                R (.int .i64 0) H48)))))))))) ∧ (¬ ((0 : Int) < n36) → (
                                ∃ b49 o50 : Nat, x0 = some (⟨b49, o50, none⟩ : Addr) ∧ (
                                  ∃ n51 : Int, hcell H b49 (o50 + 5) = some (.int .i64 n51) ∧ (
                                    (In64 (n51 + 1)) ∧
                                    ∃ b52 o53 : Nat, x0 = some (⟨b52, o53, none⟩ : Addr) ∧ (
                                      Cells H b52 (o53 + 5) 1 ∧ ∀ H54 : Heap, Puts H b52 (o53 + 5) [(.int .i64 (n51 + 1))] H54 → (
                                        R (.int .i64 0) H54)))))))))))))))))))) := by kernel_rfl


/-- (*pentimento/dev.Device).has -/
theorem vc_has (x0 : Option Addr) (x1 : Int) (H : Heap) (R : Value → Heap → Prop) : Walk Tryz.prog 73 [] [(.pointer x0), (.int .i64 x1)] H R = (
  ((((0 : Int) ≤ x1) → (
        ∃ b1 o2 : Nat, x0 = some (⟨b1, o2, none⟩ : Addr) ∧ (
          ∃ a3 : Option Addr, ∃ l4 : Nat, ∃ c5 : Nat, hcell H b1 (o2 + 1) = some (.slice a3 l4 c5) ∧ (
            R (.bool (@decide ((x1 : Int) < (l4 : Int)) (Classical.propDecidable _))) H)))) ∧ (¬ ((0 : Int) ≤ x1) → (
        R (.bool false) H)))) := by kernel_rfl


/-- slices.Clone[[]byte,byte] -/
theorem vc_clonel (x0 : Option Addr) (x0l : Nat) (x0c : Nat) (H : Heap) (R : Value → Heap → Prop) : Walk Tryz.prog 62 [] [(.slice x0 x0l x0c)] H R = (
  ((((x0 : Option Addr) = none) → (
        R (.slice none 0 0) H)) ∧ (¬ ((x0 : Option Addr) = none) → (
        ∀ b1 : Nat, ∀ H2 : Heap, New H b1 [] 5 H2 → (
          ∃ old3 new4 : List Value, SRow H2 1 0 (.slice (some (⟨b1, 0, none⟩ : Addr)) 0 0) old3 ∧ SRow H2 1 x0l (.slice x0 x0l x0c) new4 ∧ (∀ u ∈ new4, Value.oneCell' u = true) ∧ (0 + x0l) * 1 ≤ 140737488355328 ∧ (0 + x0l ≤ 0 → roomOf H2 (some (⟨b1, 0, none⟩ : Addr)) (0 * 1) (x0l * 1)) ∧ ∀ a5 : Option Addr, ∀ c6 : Nat, ∀ H7 : Heap, App H2 1 5 [(.int .u8 0)] (some (⟨b1, 0, none⟩ : Addr)) 0 0 old3 new4 x0l a5 c6 H7 → (
            R (.slice a5 (0 + x0l) c6) H7)))))) := by kernel_rfl


/-- pentimento/dev.set -/
theorem vc_set (x0 : Option Addr) (x0l : Nat) (x0c : Nat) (x1 : Int) (H : Heap) (R : Value → Heap → Prop) : Walk Tryz.prog 45 [] [(.slice x0 x0l x0c), (.int .i64 x1)] H R = (
  ((8 : Int) ≠ 0) ∧
  ∀ q1 : Int, q1 = IntKind.wrap .i64 (Int.tdiv x1 8) → (
    ((((q1 : Int) < (x0l : Int)) → (
          ((8 : Int) ≠ 0) ∧
          ∀ q2 : Int, q2 = IntKind.wrap .i64 (Int.tdiv x1 8) → (
            (0 : Int) ≤ q2 ∧ (q2 : Int) < (x0l : Int) ∧ ∃ b3 o4 : Nat, x0 = some (⟨b3, o4, none⟩ : Addr) ∧ (
              ∃ n5 : Int, hcell H b3 (o4 + (Int.toNat q2)) = some (.int .u8 n5) ∧ (
                ((8 : Int) ≠ 0) ∧
                ∀ q6 : Int, q6 = Int.tmod x1 8 → (
                  ((0 : Int) ≤ q6) ∧
                  ∀ q7 : Int, q7 = Int.fdiv n5 (2 ^ (min (Int.toNat q6) (IntKind.bits .u8))) → (
                    ∀ q8 : Int, q8 = bits .and .u8 q7 1 → (
                      R (.bool (@decide ((0 : Int) < q8) (Classical.propDecidable _))) H)))))))) ∧ (¬ ((q1 : Int) < (x0l : Int)) → (
          R (.bool false) H))))) := by kernel_rfl


/-- pentimento/dev.New -/
theorem vc_dnew (x0 : Int) (H : Heap) (R : Value → Heap → Prop) : Walk Tryz.prog 28 [] [(.int .i64 x0)] H R = (
  ((((x0 : Int) < 8) → (
        R (.tuple #[(.pointer none), (.int .i64 1)]) H)) ∧ (¬ ((x0 : Int) < 8) → (
        ((((4096 : Int) < x0) → (
              R (.tuple #[(.pointer none), (.int .i64 1)]) H)) ∧ (¬ ((4096 : Int) < x0) → (
              ∀ b1 : Nat, ∀ H2 : Heap, New H b1 [(.slice none 0 0), (.slice none 0 0), (.slice none 0 0), (.int .i64 (-1)), (.bool false), (.int .i64 0)] 86 H2 → (
                ∃ I3 : Int → Heap → Prop, ∃ μ4 : Int → Heap → Nat, (I3 0 H2) ∧
                ∀ n5 : Int, ∀ H6 : Heap, I3 n5 H6 → (
                  ((((n5 : Int) < x0) → (
                        ∃ b7 o8 : Nat, (some (⟨b1, 0, none⟩ : Addr)) = some (⟨b7, o8, none⟩ : Addr) ∧ (
                          ∃ a9 : Option Addr, ∃ l10 : Nat, ∃ c11 : Nat, hcell H6 b7 o8 = some (.slice a9 l10 c11) ∧ (
                            (0 : Int) ≤ 128 ∧ (128 : Int) ≤ 128 ∧ (1 : Int) * 128 ≤ 281474976710656 ∧ ∀ b12 : Nat, ∀ H13 : Heap, New H6 b12 (List.replicate (Int.toNat 128) (.int .u8 0)) 5 H13 → (
                              isL H13 b7 o8 [(.slice a9 l10 c11)] ∧ (∀ b14 : Nat, ∀ H15 : Heap, New H13 b14 [(.slice (some (⟨b12, 0, none⟩ : Addr)) (Int.toNat 128) (Int.toNat 128))] 37 H15 → (
                                  isL H15 b7 o8 [(.slice a9 l10 c11)] ∧ (∃ old16 new17 : List Value, SRow H15 1 l10 (.slice a9 l10 c11) old16 ∧ SRow H15 1 1 (.slice (some (⟨b14, 0, none⟩ : Addr)) 1 1) new17 ∧ (∀ u ∈ new17, Value.oneCell' u = true) ∧ (l10 + 1) * 24 ≤ 140737488355328 ∧ (l10 + 1 ≤ c11 → roomOf H15 a9 (l10 * 1) (1 * 1)) ∧ ∀ a18 : Option Addr, ∀ c19 : Nat, ∀ H20 : Heap, App H15 1 37 [(.slice none 0 0)] a9 l10 c11 old16 new17 1 a18 c19 H20 → (
                                      (∃ b21 o22 : Nat, (some (⟨b1, 0, none⟩ : Addr)) = some (⟨b21, o22, none⟩ : Addr) ∧ (
                                          Cells H20 b21 o22 1 ∧ ∀ H23 : Heap, Puts H20 b21 o22 [(.slice a18 (l10 + 1) c19)] H23 → (
                                            ((In64 (n5 + 1)) ∧
                                              (I3 (n5 + 1) H23) ∧ μ4 (n5 + 1) H23 < μ4 n5 H6))))))))))))) ∧ (¬ ((n5 : Int) < x0) → (
                        ∃ b24 o25 : Nat, (some (⟨b1, 0, none⟩ : Addr)) = some (⟨b24, o25, none⟩ : Addr) ∧ (
                          ∃ a26 : Option Addr, ∃ l27 : Nat, ∃ c28 : Nat, hcell H6 b24 o25 = some (.slice a26 l27 c28) ∧ (
                            Does Tryz.prog 46 [(.slice a26 l27 c28)] H6 fun v29 H30 => ∃ a31 : Option Addr, ∃ l32 : Nat, ∃ c33 : Nat, v29 = (.slice a31 l32 c33) ∧ (
                              ∃ b34 o35 : Nat, (some (⟨b1, 0, none⟩ : Addr)) = some (⟨b34, o35, none⟩ : Addr) ∧ (
                                Cells H30 b34 (o35 + 1) 1 ∧ ∀ H36 : Heap, Puts H30 b34 (o35 + 1) [(.slice a31 l32 c33)] H36 → (
                                  R (.tuple #[(.pointer (some (⟨b1, 0, none⟩ : Addr))), (.int .i64 0)]) H36))))))))))))))))) := by kernel_rfl


/-- (*pentimento/dev.Device).Flush -/
theorem vc_dflush (x0 : Option Addr) (H : Heap) (R : Value → Heap → Prop) : Walk Tryz.prog 42 [] [(.pointer x0)] H R = (
  Does Tryz.prog 69 [(.pointer x0)] H fun v1 H2 => ∃ n3 : Int, v1 = (.int .i64 n3) ∧ (
    ((((n3 : Int) ≠ 0) → (
          R (.int .i64 n3) H2)) ∧ (¬ ((n3 : Int) ≠ 0) → (
          ∃ b4 o5 : Nat, x0 = some (⟨b4, o5, none⟩ : Addr) ∧ (
            ∃ a6 : Option Addr, ∃ l7 : Nat, ∃ c8 : Nat, hcell H2 b4 (o5 + 1) = some (.slice a6 l7 c8) ∧ (
              Does Tryz.prog 46 [(.slice a6 l7 c8)] H2 fun v9 H10 => ∃ a11 : Option Addr, ∃ l12 : Nat, ∃ c13 : Nat, v9 = (.slice a11 l12 c13) ∧ (
                ∃ b14 o15 : Nat, x0 = some (⟨b14, o15, none⟩ : Addr) ∧ (
                  Cells H10 b14 o15 1 ∧ ∀ H16 : Heap, Puts H10 b14 o15 [(.slice a11 l12 c13)] H16 → (
                    ∃ b17 o18 : Nat, x0 = some (⟨b17, o18, none⟩ : Addr) ∧ (
                      Cells H16 b17 (o18 + 2) 1 ∧ ∀ H19 : Heap, Puts H16 b17 (o18 + 2) [(.slice none 0 0)] H19 → (
                        R (.int .i64 0) H19)))))))))))) := by kernel_rfl


/-- (*pentimento/dev.Device).Write -/
theorem vc_dwrite (x0 : Option Addr) (x1 : Int) (x2 : Option Addr) (x2l : Nat) (x2c : Nat) (H : Heap) (R : Value → Heap → Prop) : Walk Tryz.prog 49 [] [(.pointer x0), (.int .i64 x1), (.slice x2 x2l x2c)] H R = (
  Does Tryz.prog 73 [(.pointer x0), (.int .i64 x1)] H fun v1 H2 => ∃ t3 : Bool, v1 = (.bool t3) ∧ (
    (((t3 = false) → (
          R (.int .i64 1) H2)) ∧ (¬ (t3 = false) → (
          (((((x2l : Int) : Int) ≠ 128) → (
                R (.int .i64 1) H2)) ∧ (¬ (((x2l : Int) : Int) ≠ 128) → (
                Does Tryz.prog 69 [(.pointer x0)] H2 fun v4 H5 => ∃ n6 : Int, v4 = (.int .i64 n6) ∧ (
                  ((((n6 : Int) ≠ 0) → (
                        R (.int .i64 n6) H5)) ∧ (¬ ((n6 : Int) ≠ 0) → (
                        Does Tryz.prog 62 [(.slice x2 x2l x2c)] H5 fun v7 H8 => ∃ a9 : Option Addr, ∃ l10 : Nat, ∃ c11 : Nat, v7 = (.slice a9 l10 c11) ∧ (
                          ∀ b12 : Nat, ∀ H13 : Heap, New H8 b12 [(.int .i64 0), (.slice none 0 0)] 88 H13 → (
                            Cells H13 b12 0 2 ∧ ∀ H14 : Heap, Puts H13 b12 0 [(.int .i64 x1), (.slice a9 l10 c11)] H14 → (
                              ∃ b15 o16 : Nat, x0 = some (⟨b15, o16, none⟩ : Addr) ∧ (
                                ∃ a17 : Option Addr, ∃ l18 : Nat, ∃ c19 : Nat, hcell H14 b15 (o16 + 2) = some (.slice a17 l18 c19) ∧ (
                                  ∃ n20 : Int, hcell H14 b12 0 = some (.int .i64 n20) ∧ (
                                    ∃ a21 : Option Addr, ∃ l22 : Nat, ∃ c23 : Nat, hcell H14 b12 (0 + 1) = some (.slice a21 l22 c23) ∧ (
                                      ∀ b24 : Nat, ∀ H25 : Heap, New H14 b24 [(.int .i64 n20), (.slice a21 l22 c23)] 88 H25 → (
                                        isL H25 b15 (o16 + 2) [(.slice a17 l18 c19)] ∧ (∃ old26 new27 : List Value, SRow H25 2 l18 (.slice a17 l18 c19) old26 ∧ SRow H25 2 1 (.slice (some (⟨b24, 0, none⟩ : Addr)) 1 1) new27 ∧ (∀ u ∈ new27, Value.oneCell' u = true) ∧ (l18 + 1) * 32 ≤ 140737488355328 ∧ (l18 + 1 ≤ c19 → roomOf H25 a17 (l18 * 2) (1 * 2)) ∧ ∀ a28 : Option Addr, ∀ c29 : Nat, ∀ H30 : Heap, App H25 2 88 [(.int .i64 0), (.slice none 0 0)] a17 l18 c19 old26 new27 1 a28 c29 H30 → (
                                            (∃ b31 o32 : Nat, x0 = some (⟨b31, o32, none⟩ : Addr) ∧ (
                                                Cells H30 b31 (o32 + 2) 1 ∧ ∀ H33 : Heap, Puts H30 b31 (o32 + 2) [(.slice a28 (l18 + 1) c29)] H33 → (
                                                  (∃ b34 o35 : Nat, x0 = some (⟨b34, o35, none⟩ : Addr) ∧ (
                                                      ∃ a36 : Option Addr, ∃ l37 : Nat, ∃ c38 : Nat, hcell H33 b34 (o35 + 1) = some (.slice a36 l37 c38) ∧ (
                                                        ∃ a39 : Option Addr, ∃ l40 : Nat, ∃ c41 : Nat, hcell H33 b12 (0 + 1) = some (.slice a39 l40 c41) ∧ (
                                                          (0 : Int) ≤ x1 ∧ (x1 : Int) < (l37 : Int) ∧ ∃ b42 o43 : Nat, a36 = some (⟨b42, o43, none⟩ : Addr) ∧ (
                                                            Cells H33 b42 (o43 + (Int.toNat x1)) 1 ∧ ∀ H44 : Heap, Puts H33 b42 (o43 + (Int.toNat x1)) [(.slice a39 l40 c41)] H44 → (
                                                            (R (.int .i64 0) H44)))))))))))))))))))))))))))))))) := by kernel_rfl


/-- (*pentimento/dev.Device).Crash -/
theorem vc_dcrash (x0 : Option Addr) (x1 : Option Addr) (x1l : Nat) (x1c : Nat) (H : Heap) (R : Value → Heap → Prop) : Walk Tryz.prog 15 [(5, [])] [(.pointer x0), (.slice x1 x1l x1c)] H R = (
  ∃ b1 o2 : Nat, x0 = some (⟨b1, o2, none⟩ : Addr) ∧ (
    ∃ a3 : Option Addr, ∃ l4 : Nat, ∃ c5 : Nat, hcell H b1 (o2 + 2) = some (.slice a3 l4 c5) ∧ (
      ∃ I6 : Int → Heap → Prop, ∃ μ7 : Int → Heap → Nat, (I6 0 H) ∧
      ∀ n8 : Int, ∀ H9 : Heap, I6 n8 H9 → (
        ((((n8 : Int) < (l4 : Int)) → (
              ∃ I10 : Heap → Prop, (
                (0 : Int) ≤ n8 ∧ (n8 : Int) < (l4 : Int) ∧ ∃ b11 o12 : Nat, a3 = some (⟨b11, o12, none⟩ : Addr) ∧ (
                  ∃ n13 : Int, hcell H9 b11 (o12 + (Int.toNat n8) * 2) = some (.int .i64 n13) ∧ (
                    ∃ a14 : Option Addr, ∃ l15 : Nat, ∃ c16 : Nat, hcell H9 b11 ((o12 + (Int.toNat n8) * 2) + 1) = some (.slice a14 l15 c16) ∧ (
                      ∀ b17 : Nat, ∀ H18 : Heap, New H9 b17 [(.int .i64 0), (.slice none 0 0)] 88 H18 → (
                        Cells H18 b17 0 2 ∧ ∀ H19 : Heap, Puts H18 b17 0 [(.int .i64 n13), (.slice a14 l15 c16)] H19 → (
                          Does Tryz.prog 45 [(.slice x1 x1l x1c), (.int .i64 n8)] H19 fun v20 H21 => ∃ t22 : Bool, v20 = (.bool t22) ∧ (
                            ((t22 = true → (
                                  ∃ b23 o24 : Nat, x0 = some (⟨b23, o24, none⟩ : Addr) ∧ (
                                    ∃ a25 : Option Addr, ∃ l26 : Nat, ∃ c27 : Nat, hcell H21 b23 o24 = some (.slice a25 l26 c27) ∧ (
                                      ∃ n28 : Int, hcell H21 b17 0 = some (.int .i64 n28) ∧ (
                                        ∃ a29 : Option Addr, ∃ l30 : Nat, ∃ c31 : Nat, hcell H21 b17 (0 + 1) = some (.slice a29 l30 c31) ∧ (
                                          (0 : Int) ≤ n28 ∧ (n28 : Int) < (l26 : Int) ∧ ∃ b32 o33 : Nat, a25 = some (⟨b32, o33, none⟩ : Addr) ∧ (
                                            Cells H21 b32 (o33 + (Int.toNat n28)) 1 ∧ ∀ H34 : Heap, Puts H21 b32 (o33 + (Int.toNat n28)) [(.slice a29 l30 c31)] H34 → (
                                              (I10 H34))))))))) ∧ (t22 = false → (
                                  I10 H21)))))))))) ∧
              ∀ H35 : Heap, I10 H35 → (
                (In64 (n8 + 1)) ∧
                (I6 (n8 + 1) H35) ∧ μ7 (n8 + 1) H35 < μ7 n8 H9))) ∧ (¬ ((n8 : Int) < (l4 : Int)) → (
              ∃ b36 o37 : Nat, x0 = some (⟨b36, o37, none⟩ : Addr) ∧ (
                ∃ a38 : Option Addr, ∃ l39 : Nat, ∃ c40 : Nat, hcell H9 b36 o37 = some (.slice a38 l39 c40) ∧ (
                  Does Tryz.prog 46 [(.slice a38 l39 c40)] H9 fun v41 H42 => ∃ a43 : Option Addr, ∃ l44 : Nat, ∃ c45 : Nat, v41 = (.slice a43 l44 c45) ∧ (
                    ∃ b46 o47 : Nat, x0 = some (⟨b46, o47, none⟩ : Addr) ∧ (
                      Cells H42 b46 (o47 + 1) 1 ∧ ∀ H48 : Heap, Puts H42 b46 (o47 + 1) [(.slice a43 l44 c45)] H48 → (
                        ∃ b49 o50 : Nat, x0 = some (⟨b49, o50, none⟩ : Addr) ∧ (
                          Cells H48 b49 (o50 + 2) 1 ∧ ∀ H51 : Heap, Puts H48 b49 (o50 + 2) [(.slice none 0 0)] H51 → (
                            ∃ b52 o53 : Nat, x0 = some (⟨b52, o53, none⟩ : Addr) ∧ (
                              Cells H51 b52 (o53 + 4) 1 ∧ ∀ H54 : Heap, Puts H51 b52 (o53 + 4) [(.bool false)] H54 → (
                                ∃ b55 o56 : Nat, x0 = some (⟨b55, o56, none⟩ : Addr) ∧ (
                                  Cells H54 b55 (o56 + 3) 1 ∧ ∀ H57 : Heap, Puts H54 b55 (o56 + 3) [(.int .i64 (-1))] H57 → (
                                    R (.tuple #[]) H57)))))))))))))))))) := by kernel_rfl


/-- (*pentimento/dev.Device).Read -/
theorem vc_dread (x0 : Option Addr) (x1 : Int) (H : Heap) (R : Value → Heap → Prop) : Walk Tryz.prog 61 [] [(.pointer x0), (.int .i64 x1)] H R = (
  Does Tryz.prog 73 [(.pointer x0), (.int .i64 x1)] H fun v1 H2 => ∃ t3 : Bool, v1 = (.bool t3) ∧ (
    (((t3 = false) → (
          R (.tuple #[(.slice none 0 0), (.int .i64 1)]) H2)) ∧ (¬ (t3 = false) → (
          ∃ b4 o5 : Nat, x0 = some (⟨b4, o5, none⟩ : Addr) ∧ (
            ∃ t6 : Bool, hcell H2 b4 (o5 + 4) = some (.bool t6) ∧ (
              ((t6 = true → (
                    R (.tuple #[(.slice none 0 0), (.int .i64 4)]) H2)) ∧ (t6 = false → (
                    ∃ b7 o8 : Nat, x0 = some (⟨b7, o8, none⟩ : Addr) ∧ (
                      ∃ a9 : Option Addr, ∃ l10 : Nat, ∃ c11 : Nat, hcell H2 b7 (o8 + 1) = some (.slice a9 l10 c11) ∧ (
                        (0 : Int) ≤ x1 ∧ (x1 : Int) < (l10 : Int) ∧ ∃ b12 o13 : Nat, a9 = some (⟨b12, o13, none⟩ : Addr) ∧ (
                          ∃ a14 : Option Addr, ∃ l15 : Nat, ∃ c16 : Nat, hcell H2 b12 (o13 + (Int.toNat x1)) = some (.slice a14 l15 c16) ∧ (
                            Does Tryz.prog 62 [(.slice a14 l15 c16)] H2 fun v17 H18 => ∃ a19 : Option Addr, ∃ l20 : Nat, ∃ c21 : Nat, v17 = (.slice a19 l20 c21) ∧ (
                              R (.tuple #[(.slice a19 l20 c21), (.int .i64 0)]) H18))))))))))))))) := by kernel_rfl


/-- (*pentimento/dev.Device).Fuse -/
theorem vc_dfuse (x0 : Option Addr) (x1 : Int) (H : Heap) (R : Value → Heap → Prop) : Walk Tryz.prog 19 [] [(.pointer x0), (.int .i64 x1)] H R = (
  ∃ b1 o2 : Nat, x0 = some (⟨b1, o2, none⟩ : Addr) ∧ (
    Cells H b1 (o2 + 3) 1 ∧ ∀ H3 : Heap, Puts H b1 (o2 + 3) [(.int .i64 (max x1 (-1)))] H3 → (
      R (.tuple #[]) H3))) := by kernel_rfl


/-- (*pentimento/dev.Device).Dead -/
theorem vc_ddead (x0 : Option Addr) (H : Heap) (R : Value → Heap → Prop) : Walk Tryz.prog 14 [] [(.pointer x0)] H R = (
  ∃ b1 o2 : Nat, x0 = some (⟨b1, o2, none⟩ : Addr) ∧ (
    ∃ t3 : Bool, hcell H b1 (o2 + 4) = some (.bool t3) ∧ (
      R (.bool t3) H))) := by kernel_rfl


/-- (*pentimento/dev.Device).Blocks -/
theorem vc_dblocks (x0 : Option Addr) (H : Heap) (R : Value → Heap → Prop) : Walk Tryz.prog 72 [] [(.pointer x0)] H R = (
  ∃ b1 o2 : Nat, x0 = some (⟨b1, o2, none⟩ : Addr) ∧ (
    ∃ a3 : Option Addr, ∃ l4 : Nat, ∃ c5 : Nat, hcell H b1 (o2 + 1) = some (.slice a3 l4 c5) ∧ (
      R (.int .i64 (l4 : Int)) H))) := by kernel_rfl


end Go.Proofs
end

section
open Go Go.Vc
namespace Go.Proofs
set_option maxRecDepth 100000
/-- (*pentimento/pentimentoref4.Device).works -/
theorem vc_rworks (x0 : Option Addr) (H : Heap) (R : Value → Heap → Prop) : Walk Tryz.prog 63 [] [(.pointer x0)] H R = (
  ∃ b1 o2 : Nat, x0 = some (⟨b1, o2, none⟩ : Addr) ∧ (
    ∃ t3 : Bool, hcell H b1 (o2 + 3) = some (.bool t3) ∧ (
      ((t3 = true → (
            R (.bool false) H)) ∧ (t3 = false → (
            ∃ b4 o5 : Nat, x0 = some (⟨b4, o5, none⟩ : Addr) ∧ (
              ∃ n6 : Int, hcell H b4 (o5 + 2) = some (.int .i64 n6) ∧ (
                ((((n6 : Int) = 0) → (
                      ∃ b7 o8 : Nat, x0 = some (⟨b7, o8, none⟩ : Addr) ∧ (
                        Cells H b7 (o8 + 3) 1 ∧ ∀ H9 : Heap, Puts H b7 (o8 + 3) [(.bool true)] H9 → (
                          R (.bool false) H9)))) ∧ (¬ ((n6 : Int) = 0) → (
                      ∃ b10 o11 : Nat, x0 = some (⟨b10, o11, none⟩ : Addr) ∧ (
                        ∃ n12 : Int, hcell H b10 (o11 + 2) = some (.int .i64 n12) ∧ (
                          ((((0 : Int) < n12) → (
                                ∃ b13 o14 : Nat, x0 = some (⟨b13, o14, none⟩ : Addr) ∧ (
                                  ∃ n15 : Int, hcell H b13 (o14 + 2) = some (.int .i64 n15) ∧ (
                                    (In64 (n15 - 1)) ∧
                                    ∃ b16 o17 : Nat, x0 = some (⟨b16, o17, none⟩ : Addr) ∧ (
                                      Cells H b16 (o17 + 2) 1 ∧ ∀ H18 : Heap, Puts H b16 (o17 + 2) [(.int .i64 (n15 - 1))] H18 → (
                                        ∃ b19 o20 : Nat, x0 = some (⟨b19, o20, none⟩ : Addr) ∧ (
                                          ∃ n21 : Int, hcell H18 b19 (o20 + 4) = some (.int .i64 n21) ∧ (
                                            (In64 (n21 + 1)) ∧
                                            ∃ b22 o23 : Nat, x0 = some (⟨b22, o23, none⟩ : Addr) ∧ (
                                              Cells H18 b22 (o23 + 4) 1 ∧ ∀ H24 : Heap, Puts H18 b22 (o23 + 4) [(.int .i64 (n21 + 1))] H24 → (
                                                R (.bool true) H24)))))))))) ∧ (¬ ((0 : Int) < n12) → (
                                ∃ b25 o26 : Nat, x0 = some (⟨b25, o26, none⟩ : Addr) ∧ (
                                  ∃ n27 : Int, hcell H b25 (o26 + 4) = some (.int .i64 n27) ∧ (
                                    (In64 (n27 + 1)) ∧
                                    ∃ b28 o29 : Nat, x0 = some (⟨b28, o29, none⟩ : Addr) ∧ (
                                      Cells H b28 (o29 + 4) 1 ∧ ∀ H30 : Heap, Puts H b28 (o29 + 4) [(.int .i64 (n27 + 1))] H30 → (
                                        R (.bool true) H30)))))))))))))))))))) := by kernel_rfl


/-- (*pentimento/pentimentoref4.Device).keep -/
theorem vc_rkeep (x0 : Option Addr) (x1_0 : Int) (x1_1 : Option Addr) (x1_1l : Nat) (x1_1c : Nat) (H : Heap) (R : Value → Heap → Prop) : Walk Tryz.prog 47 [] [(.pointer x0), (.agg #[(.int .i64 x1_0), (.slice x1_1 x1_1l x1_1c)])] H R = (
  ∀ b1 : Nat, ∀ H2 : Heap, New H b1 [(.int .i64 x1_0), (.slice x1_1 x1_1l x1_1c)] 76 H2 → (
    ∀ b3 : Nat, ∀ H4 : Heap, New H2 b3 [] 37 H4 → (
      ∃ b5 o6 : Nat, x0 = some (⟨b5, o6, none⟩ : Addr) ∧ (
        ∃ a7 : Option Addr, ∃ l8 : Nat, ∃ c9 : Nat, hcell H4 b5 o6 = some (.slice a7 l8 c9) ∧ (
          ∃ old10 new11 : List Value, SRow H4 1 0 (.slice (some (⟨b3, 0, none⟩ : Addr)) 0 0) old10 ∧ SRow H4 1 l8 (.slice a7 l8 c9) new11 ∧ (∀ u ∈ new11, Value.oneCell' u = true) ∧ (0 + l8) * 24 ≤ 140737488355328 ∧ (0 + l8 ≤ 0 → roomOf H4 (some (⟨b3, 0, none⟩ : Addr)) (0 * 1) (l8 * 1)) ∧ ∀ a12 : Option Addr, ∀ c13 : Nat, ∀ H14 : Heap, App H4 1 37 [(.slice none 0 0)] (some (⟨b3, 0, none⟩ : Addr)) 0 0 old10 new11 l8 a12 c13 H14 → (
            ∃ n15 : Int, hcell H14 b1 0 = some (.int .i64 n15) ∧ (
              ∃ a16 : Option Addr, ∃ l17 : Nat, ∃ c18 : Nat, hcell H14 b1 (0 + 1) = some (.slice a16 l17 c18) ∧ (
                (0 : Int) ≤ n15 ∧ (n15 : Int) < ((0 + l8) : Int) ∧ ∃ b19 o20 : Nat, a12 = some (⟨b19, o20, none⟩ : Addr) ∧ (
                  Cells H14 b19 (o20 + (Int.toNat n15)) 1 ∧ ∀ H21 : Heap, Puts H14 b19 (o20 + (Int.toNat n15)) [(.slice a16 l17 c18)] H21 → (
                    ∃ b22 o23 : Nat, x0 = some (⟨b22, o23, none⟩ : Addr) ∧ (
                      Cells H21 b22 o23 1 ∧ ∀ H24 : Heap, Puts H21 b22 o23 [(.slice a12 (0 + l8) c13)] H24 → (
                        R (.tuple #[]) H24)))))))))))) := by kernel_rfl


/-- pentimento/pentimentoref4.New -/
theorem vc_rdnew (x0 : Int) (H : Heap) (R : Value → Heap → Prop) : Walk Tryz.prog 7 [] [(.int .i64 x0)] H R = (
  ∀ b1 : Nat, ∀ H2 : Heap, New H b1 [(.slice none 0 0), (.slice none 0 0), (.int .i64 (-1)), (.bool false), (.int .i64 0)] 65 H2 → (
    ∃ I3 : Int → Heap → Prop, ∃ μ4 : Int → Heap → Nat, (I3 0 H2) ∧
    ∀ n5 : Int, ∀ H6 : Heap, I3 n5 H6 → (
      ((((n5 : Int) < x0) → (
            ∃ b7 o8 : Nat, (some (⟨b1, 0, none⟩ : Addr)) = some (⟨b7, o8, none⟩ : Addr) ∧ (
              ∃ a9 : Option Addr, ∃ l10 : Nat, ∃ c11 : Nat, hcell H6 b7 o8 = some (.slice a9 l10 c11) ∧ (
                (0 : Int) ≤ 128 ∧ (128 : Int) ≤ 128 ∧ (1 : Int) * 128 ≤ 281474976710656 ∧ ∀ b12 : Nat, ∀ H13 : Heap, New H6 b12 (List.replicate (Int.toNat 128) (.int .u8 0)) 5 H13 → (
                  isL H13 b7 o8 [(.slice a9 l10 c11)] ∧ (∀ b14 : Nat, ∀ H15 : Heap, New H13 b14 [(.slice (some (⟨b12, 0, none⟩ : Addr)) (Int.toNat 128) (Int.toNat 128))] 37 H15 → (
                      isL H15 b7 o8 [(.slice a9 l10 c11)] ∧ (∃ old16 new17 : List Value, SRow H15 1 l10 (.slice a9 l10 c11) old16 ∧ SRow H15 1 1 (.slice (some (⟨b14, 0, none⟩ : Addr)) 1 1) new17 ∧ (∀ u ∈ new17, Value.oneCell' u = true) ∧ (l10 + 1) * 24 ≤ 140737488355328 ∧ (l10 + 1 ≤ c11 → roomOf H15 a9 (l10 * 1) (1 * 1)) ∧ ∀ a18 : Option Addr, ∀ c19 : Nat, ∀ H20 : Heap, App H15 1 37 [(.slice none 0 0)] a9 l10 c11 old16 new17 1 a18 c19 H20 → (
                          (∃ b21 o22 : Nat, (some (⟨b1, 0, none⟩ : Addr)) = some (⟨b21, o22, none⟩ : Addr) ∧ (
                              Cells H20 b21 o22 1 ∧ ∀ H23 : Heap, Puts H20 b21 o22 [(.slice a18 (l10 + 1) c19)] H23 → (
                                ((In64 (n5 + 1)) ∧
                                  (I3 (n5 + 1) H23) ∧ μ4 (n5 + 1) H23 < μ4 n5 H6))))))))))))) ∧ (¬ ((n5 : Int) < x0) → (
            R (.pointer (some (⟨b1, 0, none⟩ : Addr))) H6)))))) := by kernel_rfl


/-- (*pentimento/pentimentoref4.Device).Flush -/
theorem vc_rdflush (x0 : Option Addr) (H : Heap) (R : Value → Heap → Prop) : Walk Tryz.prog 35 [] [(.pointer x0)] H R = (
  Does Tryz.prog 63 [(.pointer x0)] H fun v1 H2 => ∃ t3 : Bool, v1 = (.bool t3) ∧ (
    (((t3 = false) → (
          R (.int .i64 4) H2)) ∧ (¬ (t3 = false) → (
          ∃ I4 : Int → Heap → Prop, ∃ μ5 : Int → Heap → Nat, (I4 0 H2) ∧
          ∀ n6 : Int, ∀ H7 : Heap, I4 n6 H7 → (
            ∃ b8 o9 : Nat, x0 = some (⟨b8, o9, none⟩ : Addr) ∧ (
              ∃ a10 : Option Addr, ∃ l11 : Nat, ∃ c12 : Nat, hcell H7 b8 (o9 + 1) = some (.slice a10 l11 c12) ∧ (
                ((((n6 : Int) < (l11 : Int)) → (
                      ∃ b13 o14 : Nat, x0 = some (⟨b13, o14, none⟩ : Addr) ∧ (
                        ∃ a15 : Option Addr, ∃ l16 : Nat, ∃ c17 : Nat, hcell H7 b13 (o14 + 1) = some (.slice a15 l16 c17) ∧ (
                          (0 : Int) ≤ n6 ∧ (n6 : Int) < (l16 : Int) ∧ ∃ b18 o19 : Nat, a15 = some (⟨b18, o19, none⟩ : Addr) ∧ (
                            ∃ n20 : Int, hcell H7 b18 (o19 + (Int.toNat n6) * 2) = some (.int .i64 n20) ∧ (
                              ∃ a21 : Option Addr, ∃ l22 : Nat, ∃ c23 : Nat, hcell H7 b18 ((o19 + (Int.toNat n6) * 2) + 1) = some (.slice a21 l22 c23) ∧ (
                                Does Tryz.prog 47 [(.pointer x0), (.agg #[(.int .i64 n20), (.slice a21 l22 c23)])] H7 fun v24 H25 => v24 = (.tuple #[]) ∧ (
                                  (In64 (n6 + 1)) ∧
                                  (I4 (n6 + 1) H25) ∧ μ5 (n6 + 1) H25 < μ5 n6 H7)))))))) ∧ (¬ ((n6 : Int) < (l11 : Int)) → (
                      ∃ b26 o27 : Nat, x0 = some (⟨b26, o27, none⟩ : Addr) ∧ (
                        Cells H7 b26 (o27 + 1) 1 ∧ ∀ H28 : Heap, Puts H7 b26 (o27 + 1) [(.slice none 0 0)] H28 → (
                          R (.int .i64 0) H28))))))))))))) := by kernel_rfl


/-- (*pentimento/pentimentoref4.Device).Crash -/
theorem vc_rdcrash (x0 : Option Addr) (x1 : Option Addr) (x1l : Nat) (x1c : Nat) (H : Heap) (R : Value → Heap → Prop) : Walk Tryz.prog 16 [(2, [])] [(.pointer x0), (.slice x1 x1l x1c)] H R = (
  ∃ I1 : Int → Heap → Prop, ∃ μ2 : Int → Heap → Nat, (I1 0 H) ∧
  ∀ n3 : Int, ∀ H4 : Heap, I1 n3 H4 → (
    ∃ b5 o6 : Nat, x0 = some (⟨b5, o6, none⟩ : Addr) ∧ (
      ∃ a7 : Option Addr, ∃ l8 : Nat, ∃ c9 : Nat, hcell H4 b5 (o6 + 1) = some (.slice a7 l8 c9) ∧ (
        ((((n3 : Int) < (l8 : Int)) → (
              ∃ I10 : Heap → Prop, (
                ((8 : Int) ≠ 0) ∧
                ∀ q11 : Int, q11 = IntKind.wrap .i64 (Int.tdiv n3 8) → (
                  ((((q11 : Int) < (x1l : Int)) → (
                        ((8 : Int) ≠ 0) ∧
                        ∀ q12 : Int, q12 = IntKind.wrap .i64 (Int.tdiv n3 8) → (
                          (0 : Int) ≤ q12 ∧ (q12 : Int) < (x1l : Int) ∧ ∃ b13 o14 : Nat, x1 = some (⟨b13, o14, none⟩ : Addr) ∧ (
                            ∃ n15 : Int, hcell H4 b13 (o14 + (Int.toNat q12)) = some (.int .u8 n15) ∧ (
                              ((8 : Int) ≠ 0) ∧
                              ∀ q16 : Int, q16 = Int.tmod n3 8 → (
                                ∀ q17 : Int, q17 = IntKind.wrap .u64 q16 → (
                                  ((0 : Int) ≤ q17) ∧
                                  ∀ q18 : Int, q18 = Int.fdiv n15 (2 ^ (min (Int.toNat q17) (IntKind.bits .u8))) → (
                                    ∀ q19 : Int, q19 = bits .and .u8 q18 1 → (
                                      ((((q19 : Int) = 1) → (
                                            ∃ b20 o21 : Nat, x0 = some (⟨b20, o21, none⟩ : Addr) ∧ (
                                              ∃ a22 : Option Addr, ∃ l23 : Nat, ∃ c24 : Nat, hcell H4 b20 (o21 + 1) = some (.slice a22 l23 c24) ∧ (
                                                (0 : Int) ≤ n3 ∧ (n3 : Int) < (l23 : Int) ∧ ∃ b25 o26 : Nat, a22 = some (⟨b25, o26, none⟩ : Addr) ∧ (
                                                  ∃ n27 : Int, hcell H4 b25 (o26 + (Int.toNat n3) * 2) = some (.int .i64 n27) ∧ (
                                                    ∃ a28 : Option Addr, ∃ l29 : Nat, ∃ c30 : Nat, hcell H4 b25 ((o26 + (Int.toNat n3) * 2) + 1) = some (.slice a28 l29 c30) ∧ (
                                                      Does Tryz.prog 47 [(.pointer x0), (.agg #[(.int .i64 n27), (.slice a28 l29 c30)])] H4 fun v31 H32 => v31 = (.tuple #[]) ∧ (
                                                        I10 H32)))))))) ∧ (¬ ((q19 : Int) = 1) → (
                                            I10 H4)))))))))))) ∧ (¬ ((q11 : Int) < (x1l : Int)) → (
                        I10 H4))))) ∧
              ∀ H33 : Heap, I10 H33 → (
                (In64 (n3 + 1)) ∧
                (I1 (n3 + 1) H33) ∧ μ2 (n3 + 1) H33 < μ2 n3 H4))) ∧ (¬ ((n3 : Int) < (l8 : Int)) → (
              ∃ b34 o35 : Nat, x0 = some (⟨b34, o35, none⟩ : Addr) ∧ (
                Cells H4 b34 (o35 + 1) 1 ∧ ∀ H36 : Heap, Puts H4 b34 (o35 + 1) [(.slice none 0 0)] H36 → (
                  ∃ b37 o38 : Nat, x0 = some (⟨b37, o38, none⟩ : Addr) ∧ (
                    Cells H36 b37 (o38 + 3) 1 ∧ ∀ H39 : Heap, Puts H36 b37 (o38 + 3) [(.bool false)] H39 → (
                      ∃ b40 o41 : Nat, x0 = some (⟨b40, o41, none⟩ : Addr) ∧ (
                        Cells H39 b40 (o41 + 2) 1 ∧ ∀ H42 : Heap, Puts H39 b40 (o41 + 2) [(.int .i64 (-1))] H42 → (
                          R (.tuple #[]) H42))))))))))))) := by kernel_rfl


/-- (*pentimento/pentimentoref4.Device).SetFuse -/
theorem vc_rdfuse (x0 : Option Addr) (x1 : Int) (H : Heap) (R : Value → Heap → Prop) : Walk Tryz.prog 20 [] [(.pointer x0), (.int .i64 x1)] H R = (
  ∃ b1 o2 : Nat, x0 = some (⟨b1, o2, none⟩ : Addr) ∧ (
    Cells H b1 (o2 + 2) 1 ∧ ∀ H3 : Heap, Puts H b1 (o2 + 2) [(.int .i64 (max (-1) x1))] H3 → (
      R (.tuple #[]) H3))) := by kernel_rfl


/-- (*pentimento/pentimentoref4.Device).Write -/
theorem vc_rdwrite (x0 : Option Addr) (x1 : Int) (x2 : Option Addr) (x2l : Nat) (x2c : Nat) (H : Heap) (R : Value → Heap → Prop) : Walk Tryz.prog 33 [] [(.pointer x0), (.int .i64 x1), (.slice x2 x2l x2c)] H R = (
  ((((x1 : Int) < 0) → (
        R (.int .i64 1) H)) ∧ (¬ ((x1 : Int) < 0) → (
        ∃ b1 o2 : Nat, x0 = some (⟨b1, o2, none⟩ : Addr) ∧ (
          ∃ a3 : Option Addr, ∃ l4 : Nat, ∃ c5 : Nat, hcell H b1 o2 = some (.slice a3 l4 c5) ∧ (
            (((((l4 : Int) : Int) ≤ x1) → (
                  R (.int .i64 1) H)) ∧ (¬ (((l4 : Int) : Int) ≤ x1) → (
                  (((((x2l : Int) : Int) ≠ 128) → (
                        R (.int .i64 1) H)) ∧ (¬ (((x2l : Int) : Int) ≠ 128) → (
                        Does Tryz.prog 63 [(.pointer x0)] H fun v6 H7 => ∃ t8 : Bool, v6 = (.bool t8) ∧ (
                          (((t8 = false) → (
                                R (.int .i64 4) H7)) ∧ (¬ (t8 = false) → (
                                ∃ b9 o10 : Nat, x0 = some (⟨b9, o10, none⟩ : Addr) ∧ (
                                  ∃ a11 : Option Addr, ∃ l12 : Nat, ∃ c13 : Nat, hcell H7 b9 (o10 + 1) = some (.slice a11 l12 c13) ∧ (
                                    ∀ b14 : Nat, ∀ H15 : Heap, New H7 b14 [] 5 H15 → (
                                      isL H15 b9 (o10 + 1) [(.slice a11 l12 c13)] ∧ (∃ old16 new17 : List Value, SRow H15 1 0 (.slice (some (⟨b14, 0, none⟩ : Addr)) 0 0) old16 ∧ SRow H15 1 x2l (.slice x2 x2l x2c) new17 ∧ (∀ u ∈ new17, Value.oneCell' u = true) ∧ (0 + x2l) * 1 ≤ 140737488355328 ∧ (0 + x2l ≤ 0 → roomOf H15 (some (⟨b14, 0, none⟩ : Addr)) (0 * 1) (x2l * 1)) ∧ ∀ a18 : Option Addr, ∀ c19 : Nat, ∀ H20 : Heap, App H15 1 5 [(.int .u8 0)] (some (⟨b14, 0, none⟩ : Addr)) 0 0 old16 new17 x2l a18 c19 H20 → (
                                          isL H20 b9 (o10 + 1) [(.slice a11 l12 c13)] ∧ (∀ b21 : Nat, ∀ H22 : Heap, New H20 b21 [(.int .i64 x1), (.slice a18 (0 + x2l) c19)] 76 H22 → (
                                              isL H22 b9 (o10 + 1) [(.slice a11 l12 c13)] ∧ (∃ old23 new24 : List Value, SRow H22 2 l12 (.slice a11 l12 c13) old23 ∧ SRow H22 2 1 (.slice (some (⟨b21, 0, none⟩ : Addr)) 1 1) new24 ∧ (∀ u ∈ new24, Value.oneCell' u = true) ∧ (l12 + 1) * 32 ≤ 140737488355328 ∧ (l12 + 1 ≤ c13 → roomOf H22 a11 (l12 * 2) (1 * 2)) ∧ ∀ a25 : Option Addr, ∀ c26 : Nat, ∀ H27 : Heap, App H22 2 76 [(.int .i64 0), (.slice none 0 0)] a11 l12 c13 old23 new24 1 a25 c26 H27 → (
                                                  (∃ b28 o29 : Nat, x0 = some (⟨b28, o29, none⟩ : Addr) ∧ (
                                                      Cells H27 b28 (o29 + 1) 1 ∧ ∀ H30 : Heap, Puts H27 b28 (o29 + 1) [(.slice a25 (l12 + 1) c26)] H30 → (
                                                        (R (.int .i64 0) H30))))))))))))))))))))))))))))) := by kernel_rfl


/-- (*pentimento/pentimentoref4.Device).Read -/
theorem vc_rdread (x0 : Option Addr) (x1 : Int) (H : Heap) (R : Value → Heap → Prop) : Walk Tryz.prog 36 [] [(.pointer x0), (.int .i64 x1)] H R = (
  ((((x1 : Int) < 0) → (
        R (.tuple #[(.slice none 0 0), (.int .i64 1)]) H)) ∧ (¬ ((x1 : Int) < 0) → (
        ∃ b1 o2 : Nat, x0 = some (⟨b1, o2, none⟩ : Addr) ∧ (
          ∃ a3 : Option Addr, ∃ l4 : Nat, ∃ c5 : Nat, hcell H b1 o2 = some (.slice a3 l4 c5) ∧ (
            (((((l4 : Int) : Int) ≤ x1) → (
                  R (.tuple #[(.slice none 0 0), (.int .i64 1)]) H)) ∧ (¬ (((l4 : Int) : Int) ≤ x1) → (
                  ∃ b6 o7 : Nat, x0 = some (⟨b6, o7, none⟩ : Addr) ∧ (
                    ∃ t8 : Bool, hcell H b6 (o7 + 3) = some (.bool t8) ∧ (
                      ((t8 = true → (
                            R (.tuple #[(.slice none 0 0), (.int .i64 4)]) H)) ∧ (t8 = false → (
                            ∃ b9 o10 : Nat, x0 = some (⟨b9, o10, none⟩ : Addr) ∧ (
                              ∃ a11 : Option Addr, ∃ l12 : Nat, ∃ c13 : Nat, hcell H b9 (o10 + 1) = some (.slice a11 l12 c13) ∧ (
                                (In64 ((l12 : Int) - 1)) ∧
                                ∃ I14 : Int → Heap → Prop, ∃ μ15 : Int → Heap → Nat, (I14 ((l12 : Int) - 1) H) ∧
                                ∀ n16 : Int, ∀ H17 : Heap, I14 n16 H17 → (
                                  ((((0 : Int) ≤ n16) → (
                                        ∃ b18 o19 : Nat, x0 = some (⟨b18, o19, none⟩ : Addr) ∧ (
                                          ∃ a20 : Option Addr, ∃ l21 : Nat, ∃ c22 : Nat, hcell H17 b18 (o19 + 1) = some (.slice a20 l21 c22) ∧ (
                                            (0 : Int) ≤ n16 ∧ (n16 : Int) < (l21 : Int) ∧ ∃ b23 o24 : Nat, a20 = some (⟨b23, o24, none⟩ : Addr) ∧ (
                                              ∃ n25 : Int, hcell H17 b23 (o24 + (Int.toNat n16) * 2) = some (.int .i64 n25) ∧ (
                                                ((((n25 : Int) = x1) → (
                                                      ∃ b26 o27 : Nat, x0 = some (⟨b26, o27, none⟩ : Addr) ∧ (
                                                        ∃ a28 : Option Addr, ∃ l29 : Nat, ∃ c30 : Nat, hcell H17 b26 (o27 + 1) = some (.slice a28 l29 c30) ∧ (
                                                          (0 : Int) ≤ n16 ∧ (n16 : Int) < (l29 : Int) ∧ ∃ b31 o32 : Nat, a28 = some (⟨b31, o32, none⟩ : Addr) ∧ (
                                                            ∃ a33 : Option Addr, ∃ l34 : Nat, ∃ c35 : Nat, hcell H17 b31 ((o32 + (Int.toNat n16) * 2) + 1) = some (.slice a33 l34 c35) ∧ (
                                                            R (.tuple #[(.slice a33 l34 c35), (.int .i64 0)]) H17)))))) ∧ (¬ ((n25 : Int) = x1) → (
                                                      (In64 (n16 - 1)) ∧
                                                      (I14 (n16 - 1) H17) ∧ μ15 (n16 - 1) H17 < μ15 n16 H17))))))))) ∧ (¬ ((0 : Int) ≤ n16) → (
                                        ∃ b36 o37 : Nat, x0 = some (⟨b36, o37, none⟩ : Addr) ∧ (
                                          ∃ a38 : Option Addr, ∃ l39 : Nat, ∃ c40 : Nat, hcell H17 b36 o37 = some (.slice a38 l39 c40) ∧ (
                                            (0 : Int) ≤ x1 ∧ (x1 : Int) < (l39 : Int) ∧ ∃ b41 o42 : Nat, a38 = some (⟨b41, o42, none⟩ : Addr) ∧ (
                                              ∃ a43 : Option Addr, ∃ l44 : Nat, ∃ c45 : Nat, hcell H17 b41 (o42 + (Int.toNat x1)) = some (.slice a43 l44 c45) ∧ (
                                                R (.tuple #[(.slice a43 l44 c45), (.int .i64 0)]) H17)))))))))))))))))))))))) := by kernel_rfl


/-- (*pentimento/dev.Device).Works -/
theorem vc_dworks (x0 : Option Addr) (H : Heap) (R : Value → Heap → Prop) : Walk Tryz.prog 59 [] [(.pointer x0)] H R = (
  ∃ b1 o2 : Nat, x0 = some (⟨b1, o2, none⟩ : Addr) ∧ (
    ∃ n3 : Int, hcell H b1 (o2 + 5) = some (.int .i64 n3) ∧ (
      R (.int .i64 n3) H))) := by kernel_rfl


/-- (*pentimento/dev.Device).Pending -/
theorem vc_dpending (x0 : Option Addr) (H : Heap) (R : Value → Heap → Prop) : Walk Tryz.prog 60 [] [(.pointer x0)] H R = (
  ∃ b1 o2 : Nat, x0 = some (⟨b1, o2, none⟩ : Addr) ∧ (
    ∃ a3 : Option Addr, ∃ l4 : Nat, ∃ c5 : Nat, hcell H b1 (o2 + 2) = some (.slice a3 l4 c5) ∧ (
      R (.int .i64 (l4 : Int)) H))) := by kernel_rfl


/-- pentimento/pentimentoref4.Needs -/
theorem vc_rneeds (x0 : Int) (H : Heap) (R : Value → Heap → Prop) : Walk Tryz.prog 55 [] [(.int .i64 x0)] H R = (
  ((((x0 : Int) < 1) → (
        R (.int .i64 0) H)) ∧ (¬ ((x0 : Int) < 1) → (
        (In64 (x0 * 132)) ∧
        (In64 (2 + (x0 * 132))) ∧
        (In64 ((2 + (x0 * 132)) + 116)) ∧
        (In64 (((2 + (x0 * 132)) + 116) - 1)) ∧
        ((116 : Int) ≠ 0) ∧
        ∀ q1 : Int, q1 = IntKind.wrap .i64 (Int.tdiv (((2 + (x0 * 132)) + 116) - 1) 116) → (
          R (.int .i64 q1) H))))) := by kernel_rfl


/-- (*pentimento/pentimentoref1.Writer).u -/
theorem vc_put1 (pb0 : Nat) (x1 : Int) (x2 : Int) (H : Heap) (R : Value → Heap → Prop) : Walk Tryz.prog 85 [] [(.pointer (some (⟨pb0, 0, none⟩ : Addr))), (.int .u64 x1), (.int .i64 x2)] H R = (
  (In64 (x2 - 1)) ∧
  ∃ I1 : Int → Heap → Prop, ∃ μ2 : Int → Heap → Nat, (I1 (x2 - 1) H) ∧
  ∀ n3 : Int, ∀ H4 : Heap, I1 n3 H4 → (
    ((((0 : Int) ≤ n3) → (
          ∃ b5 o6 : Nat, (some (⟨pb0, 0, none⟩ : Addr)) = some (⟨b5, o6, none⟩ : Addr) ∧ (
            ∃ a7 : Option Addr, ∃ l8 : Nat, ∃ c9 : Nat, hcell H4 b5 o6 = some (.slice a7 l8 c9) ∧ (
              (In64 (8 * n3)) ∧
              ∀ q10 : Int, q10 = IntKind.wrap .u64 (8 * n3) → (
                ((0 : Int) ≤ q10) ∧
                ∀ q11 : Int, q11 = Int.fdiv x1 (2 ^ (min (Int.toNat q10) (IntKind.bits .u64))) → (
                  ∀ q12 : Int, q12 = IntKind.wrap .u8 q11 → (
                    ∀ b13 : Nat, ∀ H14 : Heap, New H4 b13 [(.int .u8 q12)] 5 H14 → (
                      ∃ old15 new16 : List Value, SRow H14 1 l8 (.slice a7 l8 c9) old15 ∧ SRow H14 1 1 (.slice (some (⟨b13, 0, none⟩ : Addr)) 1 1) new16 ∧ (∀ u ∈ new16, Value.oneCell' u = true) ∧ (l8 + 1) * 1 ≤ 140737488355328 ∧ (l8 + 1 ≤ c9 → roomOf H14 a7 (l8 * 1) (1 * 1)) ∧ ∀ a17 : Option Addr, ∀ c18 : Nat, ∀ H19 : Heap, App H14 1 5 [(.int .u8 0)] a7 l8 c9 old15 new16 1 a17 c18 H19 → (
                        ∃ b20 o21 : Nat, (some (⟨pb0, 0, none⟩ : Addr)) = some (⟨b20, o21, none⟩ : Addr) ∧ (
                          Cells H19 b20 o21 1 ∧ ∀ H22 : Heap, Puts H19 b20 o21 [(.slice a17 (l8 + 1) c18)] H22 → (
                            (In64 (n3 - 1)) ∧
                            (I1 (n3 - 1) H22) ∧ μ2 (n3 - 1) H22 < μ2 n3 H4))))))))))) ∧ (¬ ((0 : Int) ≤ n3) → (
          R (.tuple #[]) H4))))) := by kernel_rfl


/-- (*pentimento/pentimentoref1.Writer).U16 -/
theorem vc_w1u16 (pb0 : Nat) (x1 : Int) (H : Heap) (R : Value → Heap → Prop) : Walk Tryz.prog 84 [] [(.pointer (some (⟨pb0, 0, none⟩ : Addr))), (.int .i64 x1)] H R = (
  ∀ q1 : Int, q1 = IntKind.wrap .u64 x1 → (
    Does Tryz.prog 85 [(.pointer (some (⟨pb0, 0, none⟩ : Addr))), (.int .u64 q1), (.int .i64 2)] H fun v2 H3 => v2 = (.tuple #[]) ∧ (
      R (.tuple #[]) H3))) := by kernel_rfl


/-- (*pentimento/pentimentoref1.Writer).U32 -/
theorem vc_w1u32 (pb0 : Nat) (x1 : Int) (H : Heap) (R : Value → Heap → Prop) : Walk Tryz.prog 64 [] [(.pointer (some (⟨pb0, 0, none⟩ : Addr))), (.int .i64 x1)] H R = (
  ∀ q1 : Int, q1 = IntKind.wrap .u64 x1 → (
    Does Tryz.prog 85 [(.pointer (some (⟨pb0, 0, none⟩ : Addr))), (.int .u64 q1), (.int .i64 4)] H fun v2 H3 => v2 = (.tuple #[]) ∧ (
      R (.tuple #[]) H3))) := by kernel_rfl


/-- (*pentimento/pentimentoref1.Writer).Raw -/
theorem vc_w1raw (pb0 : Nat) (x1 : Option Addr) (x1l : Nat) (x1c : Nat) (H : Heap) (R : Value → Heap → Prop) : Walk Tryz.prog 65 [] [(.pointer (some (⟨pb0, 0, none⟩ : Addr))), (.slice x1 x1l x1c)] H R = (
  ∃ b1 o2 : Nat, (some (⟨pb0, 0, none⟩ : Addr)) = some (⟨b1, o2, none⟩ : Addr) ∧ (
    ∃ a3 : Option Addr, ∃ l4 : Nat, ∃ c5 : Nat, hcell H b1 o2 = some (.slice a3 l4 c5) ∧ (
      ∃ old6 new7 : List Value, SRow H 1 l4 (.slice a3 l4 c5) old6 ∧ SRow H 1 x1l (.slice x1 x1l x1c) new7 ∧ (∀ u ∈ new7, Value.oneCell' u = true) ∧ (l4 + x1l) * 1 ≤ 140737488355328 ∧ (l4 + x1l ≤ c5 → roomOf H a3 (l4 * 1) (x1l * 1)) ∧ ∀ a8 : Option Addr, ∀ c9 : Nat, ∀ H10 : Heap, App H 1 5 [(.int .u8 0)] a3 l4 c5 old6 new7 x1l a8 c9 H10 → (
        ∃ b11 o12 : Nat, (some (⟨pb0, 0, none⟩ : Addr)) = some (⟨b11, o12, none⟩ : Addr) ∧ (
          Cells H10 b11 o12 1 ∧ ∀ H13 : Heap, Puts H10 b11 o12 [(.slice a8 (l4 + x1l) c9)] H13 → (
            R (.tuple #[]) H13)))))) := by kernel_rfl


/-- (*pentimento/pentimentoref1.Reader).u -/
theorem vc_get1 (pb0 : Nat) (x1 : Int) (H : Heap) (R : Value → Heap → Prop) : Walk Tryz.prog 66 [] [(.pointer (some (⟨pb0, 0, none⟩ : Addr))), (.int .i64 x1)] H R = (
  Does Tryz.prog 68 [(.pointer (some (⟨pb0, 0, none⟩ : Addr))), (.int .i64 x1)] H fun v1 H2 => ∃ a3 : Option Addr, ∃ l4 : Nat, ∃ c5 : Nat, v1 = (.slice a3 l4 c5) ∧ (
    ∃ I6 : Int → Int → Heap → Prop, ∃ μ7 : Int → Int → Heap → Nat, (I6 0 0 H2) ∧
    ∀ n8 : Int, ∀ n9 : Int, ∀ H10 : Heap, I6 n8 n9 H10 → (
      ((((n9 : Int) < (l4 : Int)) → (
            ((0 : Int) ≤ 8) ∧
            ∀ q11 : Int, q11 = IntKind.wrap .u64 (n8 * 2 ^ (min (Int.toNat 8) (IntKind.bits .u64))) → (
              (0 : Int) ≤ n9 ∧ (n9 : Int) < (l4 : Int) ∧ ∃ b12 o13 : Nat, a3 = some (⟨b12, o13, none⟩ : Addr) ∧ (
                ∃ n14 : Int, hcell H10 b12 (o13 + (Int.toNat n9)) = some (.int .u8 n14) ∧ (
                  ∀ q15 : Int, q15 = IntKind.wrap .u64 n14 → (
                    ∀ q16 : Int, q16 = IntKind.wrap .u64 (q11 + q15) → (
                      (In64 (n9 + 1)) ∧
                      (I6 q16 (n9 + 1) H10) ∧ μ7 q16 (n9 + 1) H10 < μ7 n8 n9 H10))))))) ∧ (¬ ((n9 : Int) < (l4 : Int)) → (
            R (.int .u64 n8) H10)))))) := by kernel_rfl


/-- (*pentimento/pentimentoref1.Reader).U16 -/
theorem vc_r1u16 (pb0 : Nat) (H : Heap) (R : Value → Heap → Prop) : Walk Tryz.prog 67 [] [(.pointer (some (⟨pb0, 0, none⟩ : Addr)))] H R = (
  Does Tryz.prog 66 [(.pointer (some (⟨pb0, 0, none⟩ : Addr))), (.int .i64 2)] H fun v1 H2 => ∃ n3 : Int, v1 = (.int .u64 n3) ∧ (
    ∀ q4 : Int, q4 = IntKind.wrap .i64 n3 → (
      R (.int .i64 q4) H2))) := by kernel_rfl


/-- (*pentimento/pentimentoref1.Reader).U32 -/
theorem vc_r1u32 (pb0 : Nat) (H : Heap) (R : Value → Heap → Prop) : Walk Tryz.prog 37 [] [(.pointer (some (⟨pb0, 0, none⟩ : Addr)))] H R = (
  Does Tryz.prog 66 [(.pointer (some (⟨pb0, 0, none⟩ : Addr))), (.int .i64 4)] H fun v1 H2 => ∃ n3 : Int, v1 = (.int .u64 n3) ∧ (
    ∀ q4 : Int, q4 = IntKind.wrap .i64 n3 → (
      R (.int .i64 q4) H2))) := by kernel_rfl


/-- (*pentimento/pentimentoref1.Reader).Raw -/
theorem vc_raw1 (pb0 : Nat) (x1 : Int) (H : Heap) (R : Value → Heap → Prop) : Walk Tryz.prog 68 [] [(.pointer (some (⟨pb0, 0, none⟩ : Addr))), (.int .i64 x1)] H R = (
  ∃ b1 o2 : Nat, (some (⟨pb0, 0, none⟩ : Addr)) = some (⟨b1, o2, none⟩ : Addr) ∧ (
    ∃ t3 : Bool, hcell H b1 (o2 + 1) = some (.bool t3) ∧ (
      ((t3 = true → (
            ∃ b4 o5 : Nat, (some (⟨pb0, 0, none⟩ : Addr)) = some (⟨b4, o5, none⟩ : Addr) ∧ (
              Cells H b4 (o5 + 1) 1 ∧ ∀ H6 : Heap, Puts H b4 (o5 + 1) [(.bool true)] H6 → (
                ∃ b7 o8 : Nat, (some (⟨pb0, 0, none⟩ : Addr)) = some (⟨b7, o8, none⟩ : Addr) ∧ (
                  Cells H6 b7 o8 1 ∧ ∀ H9 : Heap, Puts H6 b7 o8 [(.slice none 0 0)] H9 → (
                    R (.slice none 0 0) H9)))))) ∧ (t3 = false → (
            ((((x1 : Int) < 0) → (
                  ∃ b10 o11 : Nat, (some (⟨pb0, 0, none⟩ : Addr)) = some (⟨b10, o11, none⟩ : Addr) ∧ (
                    Cells H b10 (o11 + 1) 1 ∧ ∀ H12 : Heap, Puts H b10 (o11 + 1) [(.bool true)] H12 → (
                      ∃ b13 o14 : Nat, (some (⟨pb0, 0, none⟩ : Addr)) = some (⟨b13, o14, none⟩ : Addr) ∧ (
                        Cells H12 b13 o14 1 ∧ ∀ H15 : Heap, Puts H12 b13 o14 [(.slice none 0 0)] H15 → (
                          R (.slice none 0 0) H15)))))) ∧ (¬ ((x1 : Int) < 0) → (
                  ∃ b16 o17 : Nat, (some (⟨pb0, 0, none⟩ : Addr)) = some (⟨b16, o17, none⟩ : Addr) ∧ (
                    ∃ a18 : Option Addr, ∃ l19 : Nat, ∃ c20 : Nat, hcell H b16 o17 = some (.slice a18 l19 c20) ∧ (
                      (((((l19 : Int) : Int) < x1) → (
                            ∃ b21 o22 : Nat, (some (⟨pb0, 0, none⟩ : Addr)) = some (⟨b21, o22, none⟩ : Addr) ∧ (
                              Cells H b21 (o22 + 1) 1 ∧ ∀ H23 : Heap, Puts H b21 (o22 + 1) [(.bool true)] H23 → (
                                ∃ b24 o25 : Nat, (some (⟨pb0, 0, none⟩ : Addr)) = some (⟨b24, o25, none⟩ : Addr) ∧ (
                                  Cells H23 b24 o25 1 ∧ ∀ H26 : Heap, Puts H23 b24 o25 [(.slice none 0 0)] H26 → (
                                    R (.slice none 0 0) H26)))))) ∧ (¬ (((l19 : Int) : Int) < x1) → (
                            ∀ b27 : Nat, ∀ H28 : Heap, New H b27 [] 5 H28 → (
                              ∃ b29 o30 : Nat, (some (⟨pb0, 0, none⟩ : Addr)) = some (⟨b29, o30, none⟩ : Addr) ∧ (
                                ∃ a31 : Option Addr, ∃ l32 : Nat, ∃ c33 : Nat, hcell H28 b29 o30 = some (.slice a31 l32 c33) ∧ (
                                  (0 : Int) ≤ x1 ∧ (x1 : Int) ≤ (c33 : Int) ∧ (
                                    ∃ old34 new35 : List Value, SRow H28 1 0 (.slice (some (⟨b27, 0, none⟩ : Addr)) 0 0) old34 ∧ SRow H28 1 (Int.toNat x1) (.slice a31 (Int.toNat x1) c33) new35 ∧ (∀ u ∈ new35, Value.oneCell' u = true) ∧ (0 + (Int.toNat x1)) * 1 ≤ 140737488355328 ∧ (0 + (Int.toNat x1) ≤ 0 → roomOf H28 (some (⟨b27, 0, none⟩ : Addr)) (0 * 1) ((Int.toNat x1) * 1)) ∧ ∀ a36 : Option Addr, ∀ c37 : Nat, ∀ H38 : Heap, App H28 1 5 [(.int .u8 0)] (some (⟨b27, 0, none⟩ : Addr)) 0 0 old34 new35 (Int.toNat x1) a36 c37 H38 → (
                                      ∃ b39 o40 : Nat, (some (⟨pb0, 0, none⟩ : Addr)) = some (⟨b39, o40, none⟩ : Addr) ∧ (
                                        ∃ a41 : Option Addr, ∃ l42 : Nat, ∃ c43 : Nat, hcell H38 b39 o40 = some (.slice a41 l42 c43) ∧ (
                                          (0 : Int) ≤ x1 ∧ (x1 : Int) ≤ (l42 : Int) ∧ ∀ a44 : Option Addr, a44 = (if c43 = (Int.toNat x1) then a41 else Option.map (fun x => Addr.add x ((Int.toNat x1) * 1)) a41) → (
                                            ∃ b45 o46 : Nat, (some (⟨pb0, 0, none⟩ : Addr)) = some (⟨b45, o46, none⟩ : Addr) ∧ (
                                              Cells H38 b45 o46 1 ∧ ∀ H47 : Heap, Puts H38 b45 o46 [(.slice a44 (l42 - (Int.toNat x1)) (c43 - (Int.toNat x1)))] H47 → (
                                                R (.slice a36 (0 + (Int.toNat x1)) c37) H47)))))))))))))))))))))))) := by kernel_rfl


/-- pentimento/pentimentoref4.header -/
theorem vc_rheader (x0 : Int) (x1 : Int) (x2 : Int) (H : Heap) (R : Value → Heap → Prop) : Walk Tryz.prog 34 [] [(.int .i64 x0), (.int .i64 x1), (.int .i64 x2)] H R = (
  ∀ b1 : Nat, ∀ H2 : Heap, New H b1 [(.slice none 0 0)] 103 H2 → (
    Does Tryz.prog 64 [(.pointer (some (⟨b1, 0, none⟩ : Addr))), (.int .i64 1885695604)] H2 fun v3 H4 => v3 = (.tuple #[]) ∧ (
      Does Tryz.prog 64 [(.pointer (some (⟨b1, 0, none⟩ : Addr))), (.int .i64 x0)] H4 fun v5 H6 => v5 = (.tuple #[]) ∧ (
        Does Tryz.prog 64 [(.pointer (some (⟨b1, 0, none⟩ : Addr))), (.int .i64 x1)] H6 fun v7 H8 => v7 = (.tuple #[]) ∧ (
          Does Tryz.prog 64 [(.pointer (some (⟨b1, 0, none⟩ : Addr))), (.int .i64 x2)] H8 fun v9 H10 => v9 = (.tuple #[]) ∧ (
            (0 : Int) ≤ 112 ∧ (112 : Int) ≤ 112 ∧ (1 : Int) * 112 ≤ 281474976710656 ∧ ∀ b11 : Nat, ∀ H12 : Heap, New H10 b11 (List.replicate (Int.toNat 112) (.int .u8 0)) 5 H12 → (
              Does Tryz.prog 65 [(.pointer (some (⟨b1, 0, none⟩ : Addr))), (.slice (some (⟨b11, 0, none⟩ : Addr)) (Int.toNat 112) (Int.toNat 112))] H12 fun v13 H14 => v13 = (.tuple #[]) ∧ (
                ∃ b15 o16 : Nat, (some (⟨b1, 0, none⟩ : Addr)) = some (⟨b15, o16, none⟩ : Addr) ∧ (
                  ∃ a17 : Option Addr, ∃ l18 : Nat, ∃ c19 : Nat, hcell H14 b15 o16 = some (.slice a17 l18 c19) ∧ (
                    R (.slice a17 l18 c19) H14)))))))))) := by kernel_rfl


/-- pentimento/pentimentoref4.stream -/
theorem vc_rstream (x0 : Option Addr) (x0l : Nat) (x0c : Nat) (H : Heap) (R : Value → Heap → Prop) : Walk Tryz.prog 83 [] [(.slice x0 x0l x0c)] H R = (
  ∀ b1 : Nat, ∀ H2 : Heap, New H b1 [(.slice none 0 0)] 103 H2 → (
    Does Tryz.prog 84 [(.pointer (some (⟨b1, 0, none⟩ : Addr))), (.int .i64 (x0l : Int))] H2 fun v3 H4 => v3 = (.tuple #[]) ∧ (
      ∃ I5 : Int → Heap → Prop, ∃ μ6 : Int → Heap → Nat, (I5 0 H4) ∧
      ∀ n7 : Int, ∀ H8 : Heap, I5 n7 H8 → (
        ((((n7 : Int) < (x0l : Int)) → (
              (0 : Int) ≤ n7 ∧ (n7 : Int) < (x0l : Int) ∧ ∃ b9 o10 : Nat, x0 = some (⟨b9, o10, none⟩ : Addr) ∧ (
                ∃ n11 : Int, hcell H8 b9 (o10 + (Int.toNat n7) * 2) = some (.int .i64 n11) ∧ (
                  Does Tryz.prog 64 [(.pointer (some (⟨b1, 0, none⟩ : Addr))), (.int .i64 n11)] H8 fun v12 H13 => v12 = (.tuple #[]) ∧ (
                    (0 : Int) ≤ n7 ∧ (n7 : Int) < (x0l : Int) ∧ ∃ b14 o15 : Nat, x0 = some (⟨b14, o15, none⟩ : Addr) ∧ (
                      ∃ a16 : Option Addr, ∃ l17 : Nat, ∃ c18 : Nat, hcell H13 b14 ((o15 + (Int.toNat n7) * 2) + 1) = some (.slice a16 l17 c18) ∧ (
                        Does Tryz.prog 65 [(.pointer (some (⟨b1, 0, none⟩ : Addr))), (.slice a16 l17 c18)] H13 fun v19 H20 => v19 = (.tuple #[]) ∧ (
                          (In64 (n7 + 1)) ∧
                          (I5 (n7 + 1) H20) ∧ μ6 (n7 + 1) H20 < μ6 n7 H8)))))))) ∧ (¬ ((n7 : Int) < (x0l : Int)) → (
              ∃ b21 o22 : Nat, (some (⟨b1, 0, none⟩ : Addr)) = some (⟨b21, o22, none⟩ : Addr) ∧ (
                ∃ a23 : Option Addr, ∃ l24 : Nat, ∃ c25 : Nat, hcell H8 b21 o22 = some (.slice a23 l24 c25) ∧ (
                  R (.slice a23 l24 c25) H8))))))))) := by kernel_rfl


/-- pentimento/pentimentoref4.blocks -/
theorem vc_rblocks (x0 : Int) (x1 : Int) (x2 : Option Addr) (x2l : Nat) (x2c : Nat) (H : Heap) (R : Value → Heap → Prop) : Walk Tryz.prog 57 [] [(.int .i64 x0), (.int .i64 x1), (.slice x2 x2l x2c)] H R = (
  Does Tryz.prog 83 [(.slice x2 x2l x2c)] H fun v1 H2 => ∃ a3 : Option Addr, ∃ l4 : Nat, ∃ c5 : Nat, v1 = (.slice a3 l4 c5) ∧ (
    Does Tryz.prog 55 [(.int .i64 (x2l : Int))] H2 fun v6 H7 => ∃ n8 : Int, v6 = (.int .i64 n8) ∧ (
      ∃ I9 : Option Addr → Nat → Nat → Option Addr → Nat → Nat → Int → Heap → Prop, ∃ μ10 : Option Addr → Nat → Nat → Option Addr → Nat → Nat → Int → Heap → Nat, (I9 a3 l4 c5 none 0 0 0 H7) ∧
      ∀ a11 : Option Addr, ∀ l12 : Nat, ∀ c13 : Nat, ∀ a14 : Option Addr, ∀ l15 : Nat, ∀ c16 : Nat, ∀ n17 : Int, ∀ H18 : Heap, I9 a11 l12 c13 a14 l15 c16 n17 H18 → (
        ((((n17 : Int) < n8) → (
              ∀ b19 : Nat, ∀ H20 : Heap, New H18 b19 [(.slice none 0 0)] 103 H20 → (
                Does Tryz.prog 64 [(.pointer (some (⟨b19, 0, none⟩ : Addr))), (.int .i64 x0)] H20 fun v21 H22 => v21 = (.tuple #[]) ∧ (
                  Does Tryz.prog 64 [(.pointer (some (⟨b19, 0, none⟩ : Addr))), (.int .i64 x1)] H22 fun v23 H24 => v23 = (.tuple #[]) ∧ (
                    Does Tryz.prog 84 [(.pointer (some (⟨b19, 0, none⟩ : Addr))), (.int .i64 n17)] H24 fun v25 H26 => v25 = (.tuple #[]) ∧ (
                      Does Tryz.prog 84 [(.pointer (some (⟨b19, 0, none⟩ : Addr))), (.int .i64 n8)] H26 fun v27 H28 => v27 = (.tuple #[]) ∧ (
                        (0 : Int) ≤ (min (l12 : Int) 116) ∧ ((min (l12 : Int) 116) : Int) ≤ (c13 : Int) ∧ (
                          Does Tryz.prog 65 [(.pointer (some (⟨b19, 0, none⟩ : Addr))), (.slice a11 (Int.toNat (min (l12 : Int) 116)) c13)] H28 fun v29 H30 => v29 = (.tuple #[]) ∧ (
                            (In64 (116 - (min (l12 : Int) 116))) ∧
                            (0 : Int) ≤ (116 - (min (l12 : Int) 116)) ∧ ((116 - (min (l12 : Int) 116)) : Int) ≤ (116 - (min (l12 : Int) 116)) ∧ (1 : Int) * (116 - (min (l12 : Int) 116)) ≤ 281474976710656 ∧ ∀ b31 : Nat, ∀ H32 : Heap, New H30 b31 (List.replicate (Int.toNat (116 - (min (l12 : Int) 116))) (.int .u8 0)) 5 H32 → (
                              Does Tryz.prog 65 [(.pointer (some (⟨b19, 0, none⟩ : Addr))), (.slice (some (⟨b31, 0, none⟩ : Addr)) (Int.toNat (116 - (min (l12 : Int) 116))) (Int.toNat (116 - (min (l12 : Int) 116))))] H32 fun v33 H34 => v33 = (.tuple #[]) ∧ (
                                (0 : Int) ≤ (min (l12 : Int) 116) ∧ ((min (l12 : Int) 116) : Int) ≤ (l12 : Int) ∧ ∀ a35 : Option Addr, a35 = (if c13 = (Int.toNat (min (l12 : Int) 116)) then a11 else Option.map (fun x => Addr.add x ((Int.toNat (min (l12 : Int) 116)) * 1)) a11) → (
                                  ∃ b36 o37 : Nat, (some (⟨b19, 0, none⟩ : Addr)) = some (⟨b36, o37, none⟩ : Addr) ∧ (
                                    ∃ a38 : Option Addr, ∃ l39 : Nat, ∃ c40 : Nat, hcell H34 b36 o37 = some (.slice a38 l39 c40) ∧ (
                                      ∀ b41 : Nat, ∀ H42 : Heap, New H34 b41 [(.slice a38 l39 c40)] 37 H42 → (
                                        ∃ old43 new44 : List Value, SRow H42 1 l15 (.slice a14 l15 c16) old43 ∧ SRow H42 1 1 (.slice (some (⟨b41, 0, none⟩ : Addr)) 1 1) new44 ∧ (∀ u ∈ new44, Value.oneCell' u = true) ∧ (l15 + 1) * 24 ≤ 140737488355328 ∧ (l15 + 1 ≤ c16 → roomOf H42 a14 (l15 * 1) (1 * 1)) ∧ ∀ a45 : Option Addr, ∀ c46 : Nat, ∀ H47 : Heap, App H42 1 37 [(.slice none 0 0)] a14 l15 c16 old43 new44 1 a45 c46 H47 → (
                                          (In64 (n17 + 1)) ∧
                                          (I9 a35 (l12 - (Int.toNat (min (l12 : Int) 116))) (c13 - (Int.toNat (min (l12 : Int) 116))) a45 (l15 + 1) c46 (n17 + 1) H47) ∧ μ10 a35 (l12 - (Int.toNat (min (l12 : Int) 116))) (c13 - (Int.toNat (min (l12 : Int) 116))) a45 (l15 + 1) c46 (n17 + 1) H47 < μ10 a11 l12 c13 a14 l15 c16 n17 H18)))))))))))))))) ∧ (¬ ((n17 : Int) < n8) → (
              R (.slice a14 l15 c16) H18))))))) := by kernel_rfl


/-- pentimento/pentimentoref4.put -/
theorem vc_rputw (x0 : Option Addr) (x0l : Nat) (x0c : Nat) (x1_0 : Int) (x1_1 : Option Addr) (x1_1l : Nat) (x1_1c : Nat) (H : Heap) (R : Value → Heap → Prop) : Walk Tryz.prog 39 [(4, [(5, (.int .i64 0))]), (8, [(5, (.int .i64 0))])] [(.slice x0 x0l x0c), (.agg #[(.int .i64 x1_0), (.slice x1_1 x1_1l x1_1c)])] H R = (
  ∀ b1 : Nat, ∀ H2 : Heap, New H b1 [(.int .i64 x1_0), (.slice x1_1 x1_1l x1_1c)] 76 H2 → (
    ∃ I3 : Int → Heap → Prop, (
      ∃ I4 : Int → Heap → Prop, ∃ μ5 : Int → Heap → Nat, (I4 0 H2) ∧
      ∀ n6 : Int, ∀ H7 : Heap, I4 n6 H7 → (
        ((((n6 : Int) < (x0l : Int)) → (
              (0 : Int) ≤ n6 ∧ (n6 : Int) < (x0l : Int) ∧ ∃ b8 o9 : Nat, x0 = some (⟨b8, o9, none⟩ : Addr) ∧ (
                ∃ n10 : Int, hcell H7 b8 (o9 + (Int.toNat n6) * 2) = some (.int .i64 n10) ∧ (
                  ∃ n11 : Int, hcell H7 b1 0 = some (.int .i64 n11) ∧ (
                    ((((n10 : Int) < n11) → (
                          (In64 (n6 + 1)) ∧
                          (I4 (n6 + 1) H7) ∧ μ5 (n6 + 1) H7 < μ5 n6 H7)) ∧ (¬ ((n10 : Int) < n11) → (
                          I3 n6 H7)))))))) ∧ (¬ ((n6 : Int) < (x0l : Int)) → (
              I3 n6 H7))))) ∧
    ∀ n12 : Int, ∀ H13 : Heap, I3 n12 H13 → (
      ∀ b14 : Nat, ∀ H15 : Heap, New H13 b14 [] 76 H15 → (
        (0 : Int) ≤ n12 ∧ (n12 : Int) ≤ (x0c : Int) ∧ (
          ∃ old16 new17 : List Value, SRow H15 2 0 (.slice (some (⟨b14, 0, none⟩ : Addr)) 0 0) old16 ∧ SRow H15 2 (Int.toNat n12) (.slice x0 (Int.toNat n12) x0c) new17 ∧ (∀ u ∈ new17, Value.oneCell' u = true) ∧ (0 + (Int.toNat n12)) * 32 ≤ 140737488355328 ∧ (0 + (Int.toNat n12) ≤ 0 → roomOf H15 (some (⟨b14, 0, none⟩ : Addr)) (0 * 2) ((Int.toNat n12) * 2)) ∧ ∀ a18 : Option Addr, ∀ c19 : Nat, ∀ H20 : Heap, App H15 2 76 [(.int .i64 0), (.slice none 0 0)] (some (⟨b14, 0, none⟩ : Addr)) 0 0 old16 new17 (Int.toNat n12) a18 c19 H20 → (
            ∃ n21 : Int, hcell H20 b1 0 = some (.int .i64 n21) ∧ (
              ∃ a22 : Option Addr, ∃ l23 : Nat, ∃ c24 : Nat, hcell H20 b1 (0 + 1) = some (.slice a22 l23 c24) ∧ (
                ∀ b25 : Nat, ∀ H26 : Heap, New H20 b25 [(.int .i64 n21), (.slice a22 l23 c24)] 76 H26 → (
                  ∃ old27 new28 : List Value, SRow H26 2 (0 + (Int.toNat n12)) (.slice a18 (0 + (Int.toNat n12)) c19) old27 ∧ SRow H26 2 1 (.slice (some (⟨b25, 0, none⟩ : Addr)) 1 1) new28 ∧ (∀ u ∈ new28, Value.oneCell' u = true) ∧ ((0 + (Int.toNat n12)) + 1) * 32 ≤ 140737488355328 ∧ ((0 + (Int.toNat n12)) + 1 ≤ c19 → roomOf H26 a18 ((0 + (Int.toNat n12)) * 2) (1 * 2)) ∧ ∀ a29 : Option Addr, ∀ c30 : Nat, ∀ H31 : Heap, App H26 2 76 [(.int .i64 0), (.slice none 0 0)] a18 (0 + (Int.toNat n12)) c19 old27 new28 1 a29 c30 H31 → (
                    ∃ I32 : Int → Heap → Prop, (
                      ((((n12 : Int) < (x0l : Int)) → (
                            (0 : Int) ≤ n12 ∧ (n12 : Int) < (x0l : Int) ∧ ∃ b33 o34 : Nat, x0 = some (⟨b33, o34, none⟩ : Addr) ∧ (
                              ∃ n35 : Int, hcell H31 b33 (o34 + (Int.toNat n12) * 2) = some (.int .i64 n35) ∧ (
                                ∃ n36 : Int, hcell H31 b1 0 = some (.int .i64 n36) ∧ (
                                  ((((n35 : Int) = n36) → (
                                        (In64 (n12 + 1)) ∧
                                        I32 (n12 + 1) H31)) ∧ (¬ ((n35 : Int) = n36) → (
                                        I32 n12 H31)))))))) ∧ (¬ ((n12 : Int) < (x0l : Int)) → (
                            I32 n12 H31)))) ∧
                    ∀ n37 : Int, ∀ H38 : Heap, I32 n37 H38 → (
                      (0 : Int) ≤ n37 ∧ (n37 : Int) ≤ (x0l : Int) ∧ ∀ a39 : Option Addr, a39 = (if x0c = (Int.toNat n37) then x0 else Option.map (fun x => Addr.add x ((Int.toNat n37) * 2)) x0) → (
                        ∃ old40 new41 : List Value, SRow H38 2 ((0 + (Int.toNat n12)) + 1) (.slice a29 ((0 + (Int.toNat n12)) + 1) c30) old40 ∧ SRow H38 2 (x0l - (Int.toNat n37)) (.slice a39 (x0l - (Int.toNat n37)) (x0c - (Int.toNat n37))) new41 ∧ (∀ u ∈ new41, Value.oneCell' u = true) ∧ (((0 + (Int.toNat n12)) + 1) + (x0l - (Int.toNat n37))) * 32 ≤ 140737488355328 ∧ (((0 + (Int.toNat n12)) + 1) + (x0l - (Int.toNat n37)) ≤ c30 → roomOf H38 a29 (((0 + (Int.toNat n12)) + 1) * 2) ((x0l - (Int.toNat n37)) * 2)) ∧ ∀ a42 : Option Addr, ∀ c43 : Nat, ∀ H44 : Heap, App H38 2 76 [(.int .i64 0), (.slice none 0 0)] a29 ((0 + (Int.toNat n12)) + 1) c30 old40 new41 (x0l - (Int.toNat n37)) a42 c43 H44 → (
                          R (.slice a42 (((0 + (Int.toNat n12)) + 1) + (x0l - (Int.toNat n37))) c43) H44))))))))))))) := by kernel_rfl


/-- (*pentimento/pentimentoref4.Journal).Home -/
theorem vc_rhome (pb0 : Nat) (H : Heap) (R : Value → Heap → Prop) : Walk Tryz.prog 22 [] [(.pointer (some (⟨pb0, 0, none⟩ : Addr)))] H R = (
  ∃ b1 o2 : Nat, (some (⟨pb0, 0, none⟩ : Addr)) = some (⟨b1, o2, none⟩ : Addr) ∧ (
    ∃ p3 : Option Addr, hcell H b1 o2 = some (.pointer p3) ∧ (
      ∃ b4 o5 : Nat, p3 = some (⟨b4, o5, none⟩ : Addr) ∧ (
        ∃ a6 : Option Addr, ∃ l7 : Nat, ∃ c8 : Nat, hcell H b4 o5 = some (.slice a6 l7 c8) ∧ (
          (In64 ((l7 : Int) - 1)) ∧
          ∃ b9 o10 : Nat, (some (⟨pb0, 0, none⟩ : Addr)) = some (⟨b9, o10, none⟩ : Addr) ∧ (
            ∃ n11 : Int, hcell H b9 (o10 + 1) = some (.int .i64 n11) ∧ (
              (In64 (((l7 : Int) - 1) - n11)) ∧
              R (.int .i64 (((l7 : Int) - 1) - n11)) H))))))) := by kernel_rfl


/-- (*pentimento/pentimentoref4.Journal).Free -/
theorem vc_rfree (pb0 : Nat) (H : Heap) (R : Value → Heap → Prop) : Walk Tryz.prog 56 [] [(.pointer (some (⟨pb0, 0, none⟩ : Addr)))] H R = (
  ∃ b1 o2 : Nat, (some (⟨pb0, 0, none⟩ : Addr)) = some (⟨b1, o2, none⟩ : Addr) ∧ (
    ∃ n3 : Int, hcell H b1 (o2 + 1) = some (.int .i64 n3) ∧ (
      ∃ b4 o5 : Nat, (some (⟨pb0, 0, none⟩ : Addr)) = some (⟨b4, o5, none⟩ : Addr) ∧ (
        ∃ n6 : Int, hcell H b4 (o5 + 4) = some (.int .i64 n6) ∧ (
          (In64 (n3 - n6)) ∧
          R (.int .i64 (n3 - n6)) H))))) := by kernel_rfl


/-- (*pentimento/pentimentoref4.Journal).take -/
theorem vc_rtake (pb0 : Nat) (x1 : Int) (x2 : Int) (H : Heap) (R : Value → Heap → Prop) : Walk Tryz.prog 38 [(15, []), (32, [(16, (.slice none 0 0))])] [(.pointer (some (⟨pb0, 0, none⟩ : Addr))), (.int .i64 x1), (.int .i64 x2)] H R = (
  ∃ I1 : Int → Option Addr → Nat → Nat → Int → Heap → Prop, ∃ μ2 : Int → Option Addr → Nat → Nat → Int → Heap → Nat, (I1 1 none 0 0 0 H) ∧
  ∀ n3 : Int, ∀ a4 : Option Addr, ∀ l5 : Nat, ∀ c6 : Nat, ∀ n7 : Int, ∀ H8 : Heap, I1 n3 a4 l5 c6 n7 H8 → (
    ((((n7 : Int) < n3) → (
          (In64 (x1 + n7)) ∧
          ∃ b9 o10 : Nat, (some (⟨pb0, 0, none⟩ : Addr)) = some (⟨b9, o10, none⟩ : Addr) ∧ (
            ∃ n11 : Int, hcell H8 b9 (o10 + 1) = some (.int .i64 n11) ∧ (
              ((((n11 : Int) ≤ (x1 + n7)) → (
                    R (.tuple #[(.slice none 0 0), (.int .i64 0)]) H8)) ∧ (¬ ((n11 : Int) ≤ (x1 + n7)) → (
                    ∃ b12 o13 : Nat, (some (⟨pb0, 0, none⟩ : Addr)) = some (⟨b12, o13, none⟩ : Addr) ∧ (
                      ∃ p14 : Option Addr, hcell H8 b12 o13 = some (.pointer p14) ∧ (
                        (In64 (1 + x1)) ∧
                        (In64 ((1 + x1) + n7)) ∧
                        Does Tryz.prog 36 [(.pointer p14), (.int .i64 ((1 + x1) + n7))] H8 fun v15 H16 => ∃ a17 : Option Addr, ∃ l18 : Nat, ∃ c19 : Nat, ∃ n20 : Int, v15 = (.tuple #[(.slice a17 l18 c19), (.int .i64 n20)]) ∧ (
                          ∀ b21 : Nat, ∀ H22 : Heap, New H16 b21 [(.slice a17 l18 c19), (.bool false)] 70 H22 → (
                            ∃ b23 o24 : Nat, (some (⟨pb0, 0, none⟩ : Addr)) = some (⟨b23, o24, none⟩ : Addr) ∧ (
                              ∃ n25 : Int, hcell H22 b23 (o24 + 2) = some (.int .i64 n25) ∧ (
                                Does Tryz.prog 37 [(.pointer (some (⟨b21, 0, none⟩ : Addr)))] H22 fun v26 H27 => ∃ n28 : Int, v26 = (.int .i64 n28) ∧ (
                                  isL H27 b23 (o24 + 2) [(.int .i64 n25)] ∧ (((((n28 : Int) ≠ n25) → (
                                          R (.tuple #[(.slice none 0 0), (.int .i64 0)]) H27)) ∧ (¬ ((n28 : Int) ≠ n25) → (
                                          Does Tryz.prog 37 [(.pointer (some (⟨b21, 0, none⟩ : Addr)))] H27 fun v29 H30 => ∃ n31 : Int, v29 = (.int .i64 n31) ∧ (
                                            (((((n31 : Int) ≠ x2) → (
                                                    R (.tuple #[(.slice none 0 0), (.int .i64 0)]) H30)) ∧ (¬ ((n31 : Int) ≠ x2) → (
                                                    Does Tryz.prog 67 [(.pointer (some (⟨b21, 0, none⟩ : Addr)))] H30 fun v32 H33 => ∃ n34 : Int, v32 = (.int .i64 n34) ∧ (
                                                      (((((n34 : Int) ≠ n7) → (
                                                            R (.tuple #[(.slice none 0 0), (.int .i64 0)]) H33)) ∧ (¬ ((n34 : Int) ≠ n7) → (
                                                            Does Tryz.prog 67 [(.pointer (some (⟨b21, 0, none⟩ : Addr)))] H33 fun v35 H36 => ∃ n37 : Int, v35 = (.int .i64 n37) ∧ (
                                                            ∃ I38 : Heap → Prop, (
                                                            ((((n37 : Int) = 0) → (
                                                            R (.tuple #[(.slice none 0 0), (.int .i64 0)]) H36)) ∧ (¬ ((n37 : Int) = 0) → (
                                                            ((((0 : Int) < n7) → (
                                                            ((((n37 : Int) ≠ n3) → (
                                                            R (.tuple #[(.slice none 0 0), (.int .i64 0)]) H36)) ∧ (¬ ((n37 : Int) ≠ n3) → (
                                                            I38 H36))))) ∧ (¬ ((0 : Int) < n7) → (
                                                            I38 H36))))))) ∧
                                                            ∀ H39 : Heap, I38 H39 → (
                                                            ∃ b40 o41 : Nat, (some (⟨b21, 0, none⟩ : Addr)) = some (⟨b40, o41, none⟩ : Addr) ∧ (
                                                            ∃ a42 : Option Addr, ∃ l43 : Nat, ∃ c44 : Nat, hcell H39 b40 o41 = some (.slice a42 l43 c44) ∧ (
                                                            ∃ old45 new46 : List Value, SRow H39 1 l5 (.slice a4 l5 c6) old45 ∧ SRow H39 1 l43 (.slice a42 l43 c44) new46 ∧ (∀ u ∈ new46, Value.oneCell' u = true) ∧ (l5 + l43) * 1 ≤ 140737488355328 ∧ (l5 + l43 ≤ c6 → roomOf H39 a4 (l5 * 1) (l43 * 1)) ∧ ∀ a47 : Option Addr, ∀ c48 : Nat, ∀ H49 : Heap, App H39 1 5 [(.int .u8 0)] a4 l5 c6 old45 new46 l43 a47 c48 H49 → (
                                                            (In64 (n7 + 1)) ∧
                                                            (I1 n37 a47 (l5 + l43) c48 (n7 + 1) H49) ∧ μ2 n37 a47 (l5 + l43) c48 (n7 + 1) H49 < μ2 n3 a4 l5 c6 n7 H8))))))))))))))))))))))))))))))))) ∧ (¬ ((n7 : Int) < n3) → (
          ∀ b50 : Nat, ∀ H51 : Heap, New H8 b50 [(.slice a4 l5 c6), (.bool false)] 70 H51 → (
            ∃ I52 : Option Addr → Nat → Nat → Heap → Prop, (
              Does Tryz.prog 67 [(.pointer (some (⟨b50, 0, none⟩ : Addr)))] H51 fun v53 H54 => ∃ n55 : Int, v53 = (.int .i64 n55) ∧ (
                ∃ I56 : Option Addr → Nat → Nat → Int → Heap → Prop, ∃ μ57 : Option Addr → Nat → Nat → Int → Heap → Nat, (I56 none 0 0 n55 H54) ∧
                ∀ a58 : Option Addr, ∀ l59 : Nat, ∀ c60 : Nat, ∀ n61 : Int, ∀ H62 : Heap, I56 a58 l59 c60 n61 H62 → (
                  ((((0 : Int) < n61) → (
                        ∃ b63 o64 : Nat, (some (⟨b50, 0, none⟩ : Addr)) = some (⟨b63, o64, none⟩ : Addr) ∧ (
                          ∃ t65 : Bool, hcell H62 b63 (o64 + 1) = some (.bool t65) ∧ (
                            (((t65 = false) → (
                                  Does Tryz.prog 37 [(.pointer (some (⟨b50, 0, none⟩ : Addr)))] H62 fun v66 H67 => ∃ n68 : Int, v66 = (.int .i64 n68) ∧ (
                                    ∀ b69 : Nat, ∀ H70 : Heap, New H67 b69 [(.int .i64 0), (.slice none 0 0)] 76 H70 → (
                                      Cells H70 b69 0 2 ∧ ∀ H71 : Heap, Puts H70 b69 0 [(.int .i64 n68), (.slice none 0 0)] H71 → (
                                        Does Tryz.prog 68 [(.pointer (some (⟨b50, 0, none⟩ : Addr))), (.int .i64 128)] H71 fun v72 H73 => ∃ a74 : Option Addr, ∃ l75 : Nat, ∃ c76 : Nat, v72 = (.slice a74 l75 c76) ∧ (
                                          Cells H73 b69 (0 + 1) 1 ∧ ∀ H77 : Heap, Puts H73 b69 (0 + 1) [(.slice a74 l75 c76)] H77 → (
                                            ∃ I78 : Int → Heap → Prop, ∃ μ79 : Int → Heap → Nat, (I78 0 H77) ∧
                                            ∀ n80 : Int, ∀ H81 : Heap, I78 n80 H81 → (
                                              ((((n80 : Int) < (l59 : Int)) → (
                                                    (0 : Int) ≤ n80 ∧ (n80 : Int) < (l59 : Int) ∧ ∃ b82 o83 : Nat, a58 = some (⟨b82, o83, none⟩ : Addr) ∧ (
                                                      ∃ n84 : Int, hcell H81 b82 (o83 + (Int.toNat n80) * 2) = some (.int .i64 n84) ∧ (
                                                        ∃ n85 : Int, hcell H81 b69 0 = some (.int .i64 n85) ∧ (
                                                          ((((n84 : Int) = n85) → (
                                                            R (.tuple #[(.slice none 0 0), (.int .i64 0)]) H81)) ∧ (¬ ((n84 : Int) = n85) → (
                                                            (In64 (n80 + 1)) ∧
                                                            (I78 (n80 + 1) H81) ∧ μ79 (n80 + 1) H81 < μ79 n80 H81)))))))) ∧ (¬ ((n80 : Int) < (l59 : Int)) → (
                                                    ∃ b86 o87 : Nat, (some (⟨b50, 0, none⟩ : Addr)) = some (⟨b86, o87, none⟩ : Addr) ∧ (
                                                      ∃ t88 : Bool, hcell H81 b86 (o87 + 1) = some (.bool t88) ∧ (
                                                        ((t88 = true → (
                                                            R (.tuple #[(.slice none 0 0), (.int .i64 0)]) H81)) ∧ (t88 = false → (
                                                            ∃ n89 : Int, hcell H81 b69 0 = some (.int .i64 n89) ∧ (
                                                            Does Tryz.prog 22 [(.pointer (some (⟨pb0, 0, none⟩ : Addr)))] H81 fun v90 H91 => ∃ n92 : Int, v90 = (.int .i64 n92) ∧ (
                                                            isL H91 b69 0 [(.int .i64 n89)] ∧ (((((n92 : Int) ≤ n89) → (
                                                            R (.tuple #[(.slice none 0 0), (.int .i64 0)]) H91)) ∧ (¬ ((n92 : Int) ≤ n89) → (
                                                            ∃ n93 : Int, hcell H91 b69 0 = some (.int .i64 n93) ∧ (
                                                            ∃ a94 : Option Addr, ∃ l95 : Nat, ∃ c96 : Nat, hcell H91 b69 (0 + 1) = some (.slice a94 l95 c96) ∧ (
                                                            ∀ b97 : Nat, ∀ H98 : Heap, New H91 b97 [(.int .i64 n93), (.slice a94 l95 c96)] 76 H98 → (
                                                            ∃ old99 new100 : List Value, SRow H98 2 l59 (.slice a58 l59 c60) old99 ∧ SRow H98 2 1 (.slice (some (⟨b97, 0, none⟩ : Addr)) 1 1) new100 ∧ (∀ u ∈ new100, Value.oneCell' u = true) ∧ (l59 + 1) * 32 ≤ 140737488355328 ∧ (l59 + 1 ≤ c60 → roomOf H98 a58 (l59 * 2) (1 * 2)) ∧ ∀ a101 : Option Addr, ∀ c102 : Nat, ∀ H103 : Heap, App H98 2 76 [(.int .i64 0), (.slice none 0 0)] a58 l59 c60 old99 new100 1 a101 c102 H103 → (
                                                            (In64 (n61 - 1)) ∧
                                                            (I56 a101 (l59 + 1) c102 (n61 - 1) H103) ∧ μ57 a101 (l59 + 1) c102 (n61 - 1) H103 < μ57 a58 l59 c60 n61 H62)))))))))))))))))))))))))) ∧ (¬ (t65 = false) → (
                                  I52 a58 l59 c60 H62))))))) ∧ (¬ ((0 : Int) < n61) → (
                        I52 a58 l59 c60 H62)))))) ∧
            ∀ a104 : Option Addr, ∀ l105 : Nat, ∀ c106 : Nat, ∀ H107 : Heap, I52 a104 l105 c106 H107 → (
              (((((l105 : Int) : Int) = 0) → (
                    R (.tuple #[(.slice none 0 0), (.int .i64 0)]) H107)) ∧ (¬ (((l105 : Int) : Int) = 0) → (
                    ∃ b108 o109 : Nat, (some (⟨b50, 0, none⟩ : Addr)) = some (⟨b108, o109, none⟩ : Addr) ∧ (
                      ∃ t110 : Bool, hcell H107 b108 (o109 + 1) = some (.bool t110) ∧ (
                        ((t110 = true → (
                              R (.tuple #[(.slice none 0 0), (.int .i64 0)]) H107)) ∧ (t110 = false → (
                              Does Tryz.prog 55 [(.int .i64 (l105 : Int))] H107 fun v111 H112 => ∃ n113 : Int, v111 = (.int .i64 n113) ∧ (
                                ((((n113 : Int) ≠ n3) → (
                                      R (.tuple #[(.slice none 0 0), (.int .i64 0)]) H112)) ∧ (¬ ((n113 : Int) ≠ n3) → (
                                      ∃ I114 : Int → Heap → Prop, ∃ μ115 : Int → Heap → Nat, (I114 0 H112) ∧
                                      ∀ n116 : Int, ∀ H117 : Heap, I114 n116 H117 → (
                                        ∃ b118 o119 : Nat, (some (⟨b50, 0, none⟩ : Addr)) = some (⟨b118, o119, none⟩ : Addr) ∧ (
                                          ∃ a120 : Option Addr, ∃ l121 : Nat, ∃ c122 : Nat, hcell H117 b118 o119 = some (.slice a120 l121 c122) ∧ (
                                            ((((n116 : Int) < (l121 : Int)) → (
                                                  ∃ b123 o124 : Nat, (some (⟨b50, 0, none⟩ : Addr)) = some (⟨b123, o124, none⟩ : Addr) ∧ (
                                                    ∃ a125 : Option Addr, ∃ l126 : Nat, ∃ c127 : Nat, hcell H117 b123 o124 = some (.slice a125 l126 c127) ∧ (
                                                      (0 : Int) ≤ n116 ∧ (n116 : Int) < (l126 : Int) ∧ ∃ b128 o129 : Nat, a125 = some (⟨b128, o129, none⟩ : Addr) ∧ (
                                                        ∃ n130 : Int, hcell H117 b128 (o129 + (Int.toNat n116)) = some (.int .u8 n130) ∧ (
                                                          ((((n130 : Int) ≠ 0) → (
                                                            R (.tuple #[(.slice none 0 0), (.int .i64 0)]) H117)) ∧ (¬ ((n130 : Int) ≠ 0) → (
                                                            (In64 (n116 + 1)) ∧
                                                            (I114 (n116 + 1) H117) ∧ μ115 (n116 + 1) H117 < μ115 n116 H117))))))))) ∧ (¬ ((n116 : Int) < (l121 : Int)) → (
                                                  R (.tuple #[(.slice a104 l105 c106), (.int .i64 n3)]) H117))))))))))))))))))))))))) := by kernel_rfl


/-- (*pentimento/pentimentoref4.Journal).done -/
theorem vc_rdone (pb0 : Nat) (x1 : Bool) (H : Heap) (R : Value → Heap → Prop) : Walk Tryz.prog 43 [] [(.pointer (some (⟨pb0, 0, none⟩ : Addr))), (.bool x1)] H R = (
  ((x1 = true → (
        R (.int .i64 0) H)) ∧ (x1 = false → (
        ∃ b1 o2 : Nat, (some (⟨pb0, 0, none⟩ : Addr)) = some (⟨b1, o2, none⟩ : Addr) ∧ (
          Cells H b1 (o2 + 6) 1 ∧ ∀ H3 : Heap, Puts H b1 (o2 + 6) [(.bool true)] H3 → (
            R (.int .i64 4) H3)))))) := by kernel_rfl


/-- (*pentimento/pentimentoref4.Journal).home -/
theorem vc_rgohome (pb0 : Nat) (H : Heap) (R : Value → Heap → Prop) : Walk Tryz.prog 40 [] [(.pointer (some (⟨pb0, 0, none⟩ : Addr)))] H R = (
  ∃ I1 : Int → Heap → Prop, ∃ μ2 : Int → Heap → Nat, (I1 0 H) ∧
  ∀ n3 : Int, ∀ H4 : Heap, I1 n3 H4 → (
    ∃ b5 o6 : Nat, (some (⟨pb0, 0, none⟩ : Addr)) = some (⟨b5, o6, none⟩ : Addr) ∧ (
      ∃ a7 : Option Addr, ∃ l8 : Nat, ∃ c9 : Nat, hcell H4 b5 (o6 + 5) = some (.slice a7 l8 c9) ∧ (
        ((((n3 : Int) < (l8 : Int)) → (
              ∃ b10 o11 : Nat, (some (⟨pb0, 0, none⟩ : Addr)) = some (⟨b10, o11, none⟩ : Addr) ∧ (
                ∃ p12 : Option Addr, hcell H4 b10 o11 = some (.pointer p12) ∧ (
                  ∃ b13 o14 : Nat, (some (⟨pb0, 0, none⟩ : Addr)) = some (⟨b13, o14, none⟩ : Addr) ∧ (
                    ∃ n15 : Int, hcell H4 b13 (o14 + 1) = some (.int .i64 n15) ∧ (
                      (In64 (1 + n15)) ∧
                      ∃ b16 o17 : Nat, (some (⟨pb0, 0, none⟩ : Addr)) = some (⟨b16, o17, none⟩ : Addr) ∧ (
                        ∃ a18 : Option Addr, ∃ l19 : Nat, ∃ c20 : Nat, hcell H4 b16 (o17 + 5) = some (.slice a18 l19 c20) ∧ (
                          (0 : Int) ≤ n3 ∧ (n3 : Int) < (l19 : Int) ∧ ∃ b21 o22 : Nat, a18 = some (⟨b21, o22, none⟩ : Addr) ∧ (
                            ∃ n23 : Int, hcell H4 b21 (o22 + (Int.toNat n3) * 2) = some (.int .i64 n23) ∧ (
                              (In64 ((1 + n15) + n23)) ∧
                              ∃ b24 o25 : Nat, (some (⟨pb0, 0, none⟩ : Addr)) = some (⟨b24, o25, none⟩ : Addr) ∧ (
                                ∃ a26 : Option Addr, ∃ l27 : Nat, ∃ c28 : Nat, hcell H4 b24 (o25 + 5) = some (.slice a26 l27 c28) ∧ (
                                  (0 : Int) ≤ n3 ∧ (n3 : Int) < (l27 : Int) ∧ ∃ b29 o30 : Nat, a26 = some (⟨b29, o30, none⟩ : Addr) ∧ (
                                    ∃ a31 : Option Addr, ∃ l32 : Nat, ∃ c33 : Nat, hcell H4 b29 ((o30 + (Int.toNat n3) * 2) + 1) = some (.slice a31 l32 c33) ∧ (
                                      Does Tryz.prog 33 [(.pointer p12), (.int .i64 ((1 + n15) + n23)), (.slice a31 l32 c33)] H4 fun v34 H35 => ∃ n36 : Int, v34 = (.int .i64 n36) ∧ (
                                        (((((n36 : Int) ≠ 0) → (
                                                R (.bool false) H35)) ∧ (¬ ((n36 : Int) ≠ 0) → (
                                                (In64 (n3 + 1)) ∧
                                                (I1 (n3 + 1) H35) ∧ μ2 (n3 + 1) H35 < μ2 n3 H4))))))))))))))))))) ∧ (¬ ((n3 : Int) < (l8 : Int)) → (
              ∃ b37 o38 : Nat, (some (⟨pb0, 0, none⟩ : Addr)) = some (⟨b37, o38, none⟩ : Addr) ∧ (
                ∃ p39 : Option Addr, hcell H4 b37 o38 = some (.pointer p39) ∧ (
                  Does Tryz.prog 35 [(.pointer p39)] H4 fun v40 H41 => ∃ n42 : Int, v40 = (.int .i64 n42) ∧ (
                    (((((n42 : Int) ≠ 0) → (
                            R (.bool false) H41)) ∧ (¬ ((n42 : Int) ≠ 0) → (
                            ∃ b43 o44 : Nat, (some (⟨pb0, 0, none⟩ : Addr)) = some (⟨b43, o44, none⟩ : Addr) ∧ (
                              ∃ p45 : Option Addr, hcell H41 b43 o44 = some (.pointer p45) ∧ (
                                ∃ b46 o47 : Nat, (some (⟨pb0, 0, none⟩ : Addr)) = some (⟨b46, o47, none⟩ : Addr) ∧ (
                                  ∃ n48 : Int, hcell H41 b46 (o47 + 2) = some (.int .i64 n48) ∧ (
                                    ∃ b49 o50 : Nat, (some (⟨pb0, 0, none⟩ : Addr)) = some (⟨b49, o50, none⟩ : Addr) ∧ (
                                      ∃ n51 : Int, hcell H41 b49 (o50 + 3) = some (.int .i64 n51) ∧ (
                                        ∃ b52 o53 : Nat, (some (⟨pb0, 0, none⟩ : Addr)) = some (⟨b52, o53, none⟩ : Addr) ∧ (
                                          ∃ n54 : Int, hcell H41 b52 (o53 + 1) = some (.int .i64 n54) ∧ (
                                            Does Tryz.prog 34 [(.int .i64 n48), (.int .i64 n51), (.int .i64 n54)] H41 fun v55 H56 => ∃ a57 : Option Addr, ∃ l58 : Nat, ∃ c59 : Nat, v55 = (.slice a57 l58 c59) ∧ (
                                              isL H56 b43 o44 [(.pointer p45)] ∧ (Does Tryz.prog 33 [(.pointer p45), (.int .i64 0), (.slice a57 l58 c59)] H56 fun v60 H61 => ∃ n62 : Int, v60 = (.int .i64 n62) ∧ (
                                                  (((((n62 : Int) ≠ 0) → (
                                                          R (.bool false) H61)) ∧ (¬ ((n62 : Int) ≠ 0) → (
                                                          ∃ b63 o64 : Nat, (some (⟨pb0, 0, none⟩ : Addr)) = some (⟨b63, o64, none⟩ : Addr) ∧ (
                                                            ∃ p65 : Option Addr, hcell H61 b63 o64 = some (.pointer p65) ∧ (
                                                            Does Tryz.prog 35 [(.pointer p65)] H61 fun v66 H67 => ∃ n68 : Int, v66 = (.int .i64 n68) ∧ (
                                                            (((((n68 : Int) ≠ 0) → (
                                                            R (.bool false) H67)) ∧ (¬ ((n68 : Int) ≠ 0) → (
                                                            ∃ b69 o70 : Nat, (some (⟨pb0, 0, none⟩ : Addr)) = some (⟨b69, o70, none⟩ : Addr) ∧ (
                                                            Cells H67 b69 (o70 + 5) 1 ∧ ∀ H71 : Heap, Puts H67 b69 (o70 + 5) [(.slice none 0 0)] H71 → (
                                                            ∃ b72 o73 : Nat, (some (⟨pb0, 0, none⟩ : Addr)) = some (⟨b72, o73, none⟩ : Addr) ∧ (
                                                            Cells H71 b72 (o73 + 4) 1 ∧ ∀ H74 : Heap, Puts H71 b72 (o73 + 4) [(.int .i64 0)] H74 → (
                                                            R (.bool true) H74)))))))))))))))))))))))))))))))))))))))) := by kernel_rfl


/-- pentimento/pentimentoref4.Format -/
theorem vc_rformat (pb0 : Nat) (x1 : Int) (H : Heap) (R : Value → Heap → Prop) : Walk Tryz.prog 8 [] [(.pointer (some (⟨pb0, 0, none⟩ : Addr))), (.int .i64 x1)] H R = (
  ((((x1 : Int) < 4) → (
        R (.int .i64 1) H)) ∧ (¬ ((x1 : Int) < 4) → (
        ∃ b1 o2 : Nat, (some (⟨pb0, 0, none⟩ : Addr)) = some (⟨b1, o2, none⟩ : Addr) ∧ (
          ∃ a3 : Option Addr, ∃ l4 : Nat, ∃ c5 : Nat, hcell H b1 o2 = some (.slice a3 l4 c5) ∧ (
            (In64 ((l4 : Int) - 4)) ∧
            ((((((l4 : Int) - 4) : Int) < x1) → (
                  R (.int .i64 1) H)) ∧ (¬ ((((l4 : Int) - 4) : Int) < x1) → (
                  ∃ I6 : Int → Heap → Prop, ∃ μ7 : Int → Heap → Nat, (I6 1 H) ∧
                  ∀ n8 : Int, ∀ H9 : Heap, I6 n8 H9 → (
                    ((((n8 : Int) ≤ x1) → (
                          (0 : Int) ≤ 128 ∧ (128 : Int) ≤ 128 ∧ (1 : Int) * 128 ≤ 281474976710656 ∧ ∀ b10 : Nat, ∀ H11 : Heap, New H9 b10 (List.replicate (Int.toNat 128) (.int .u8 0)) 5 H11 → (
                            Does Tryz.prog 33 [(.pointer (some (⟨pb0, 0, none⟩ : Addr))), (.int .i64 n8), (.slice (some (⟨b10, 0, none⟩ : Addr)) (Int.toNat 128) (Int.toNat 128))] H11 fun v12 H13 => ∃ n14 : Int, v12 = (.int .i64 n14) ∧ (
                              ((((n14 : Int) ≠ 0) → (
                                    R (.int .i64 n14) H13)) ∧ (¬ ((n14 : Int) ≠ 0) → (
                                    (In64 (n8 + 1)) ∧
                                    (I6 (n8 + 1) H13) ∧ μ7 (n8 + 1) H13 < μ7 n8 H9))))))) ∧ (¬ ((n8 : Int) ≤ x1) → (
                          Does Tryz.prog 34 [(.int .i64 1), (.int .i64 1), (.int .i64 x1)] H9 fun v15 H16 => ∃ a17 : Option Addr, ∃ l18 : Nat, ∃ c19 : Nat, v15 = (.slice a17 l18 c19) ∧ (
                            Does Tryz.prog 33 [(.pointer (some (⟨pb0, 0, none⟩ : Addr))), (.int .i64 0), (.slice a17 l18 c19)] H16 fun v20 H21 => ∃ n22 : Int, v20 = (.int .i64 n22) ∧ (
                              ((((n22 : Int) ≠ 0) → (
                                    R (.int .i64 n22) H21)) ∧ (¬ ((n22 : Int) ≠ 0) → (
                                    Does Tryz.prog 35 [(.pointer (some (⟨pb0, 0, none⟩ : Addr)))] H21 fun v23 H24 => ∃ n25 : Int, v23 = (.int .i64 n25) ∧ (
                                      R (.int .i64 n25) H24))))))))))))))))))) := by kernel_rfl


/-- pentimento/pentimentoref4.Open -/
theorem vc_ropen (pb0 : Nat) (H : Heap) (R : Value → Heap → Prop) : Walk Tryz.prog 9 [] [(.pointer (some (⟨pb0, 0, none⟩ : Addr)))] H R = (
  Does Tryz.prog 36 [(.pointer (some (⟨pb0, 0, none⟩ : Addr))), (.int .i64 0)] H fun v1 H2 => ∃ a3 : Option Addr, ∃ l4 : Nat, ∃ c5 : Nat, ∃ n6 : Int, v1 = (.tuple #[(.slice a3 l4 c5), (.int .i64 n6)]) ∧ (
    ((((n6 : Int) ≠ 0) → (
          R (.tuple #[(.pointer none), (.int .i64 n6)]) H2)) ∧ (¬ ((n6 : Int) ≠ 0) → (
          ∀ b7 : Nat, ∀ H8 : Heap, New H2 b7 [(.slice a3 l4 c5), (.bool false)] 70 H8 → (
            Does Tryz.prog 37 [(.pointer (some (⟨b7, 0, none⟩ : Addr)))] H8 fun v9 H10 => ∃ n11 : Int, v9 = (.int .i64 n11) ∧ (
              Does Tryz.prog 37 [(.pointer (some (⟨b7, 0, none⟩ : Addr)))] H10 fun v12 H13 => ∃ n14 : Int, v12 = (.int .i64 n14) ∧ (
                Does Tryz.prog 37 [(.pointer (some (⟨b7, 0, none⟩ : Addr)))] H13 fun v15 H16 => ∃ n17 : Int, v15 = (.int .i64 n17) ∧ (
                  Does Tryz.prog 37 [(.pointer (some (⟨b7, 0, none⟩ : Addr)))] H16 fun v18 H19 => ∃ n20 : Int, v18 = (.int .i64 n20) ∧ (
                    ∀ b21 : Nat, ∀ H22 : Heap, New H19 b21 [(.pointer (some (⟨pb0, 0, none⟩ : Addr))), (.int .i64 n20), (.int .i64 n14), (.int .i64 n17), (.int .i64 0), (.slice none 0 0), (.bool false)] 72 H22 → (
                      ((((n11 : Int) ≠ 1885695604) → (
                            R (.tuple #[(.pointer none), (.int .i64 2)]) H22)) ∧ (¬ ((n11 : Int) ≠ 1885695604) → (
                            ∃ b23 o24 : Nat, (some (⟨b21, 0, none⟩ : Addr)) = some (⟨b23, o24, none⟩ : Addr) ∧ (
                              ∃ n25 : Int, hcell H22 b23 (o24 + 1) = some (.int .i64 n25) ∧ (
                                ((((n25 : Int) < 4) → (
                                      R (.tuple #[(.pointer none), (.int .i64 2)]) H22)) ∧ (¬ ((n25 : Int) < 4) → (
                                      ∃ b26 o27 : Nat, (some (⟨b21, 0, none⟩ : Addr)) = some (⟨b26, o27, none⟩ : Addr) ∧ (
                                        ∃ n28 : Int, hcell H22 b26 (o27 + 1) = some (.int .i64 n28) ∧ (
                                          ∃ b29 o30 : Nat, (some (⟨pb0, 0, none⟩ : Addr)) = some (⟨b29, o30, none⟩ : Addr) ∧ (
                                            ∃ a31 : Option Addr, ∃ l32 : Nat, ∃ c33 : Nat, hcell H22 b29 o30 = some (.slice a31 l32 c33) ∧ (
                                              (In64 ((l32 : Int) - 4)) ∧
                                              ((((((l32 : Int) - 4) : Int) < n28) → (
                                                    R (.tuple #[(.pointer none), (.int .i64 2)]) H22)) ∧ (¬ ((((l32 : Int) - 4) : Int) < n28) → (
                                                    ∃ b34 o35 : Nat, (some (⟨b21, 0, none⟩ : Addr)) = some (⟨b34, o35, none⟩ : Addr) ∧ (
                                                      ∃ n36 : Int, hcell H22 b34 (o35 + 3) = some (.int .i64 n36) ∧ (
                                                        ((((n36 : Int) = 0) → (
                                                            R (.tuple #[(.pointer none), (.int .i64 2)]) H22)) ∧ (¬ ((n36 : Int) = 0) → (
                                                            ∃ I37 : Int → Heap → Prop, ∃ μ38 : Int → Heap → Nat, (I37 0 H22) ∧
                                                            ∀ n39 : Int, ∀ H40 : Heap, I37 n39 H40 → (
                                                            ∃ b41 o42 : Nat, (some (⟨b7, 0, none⟩ : Addr)) = some (⟨b41, o42, none⟩ : Addr) ∧ (
                                                            ∃ a43 : Option Addr, ∃ l44 : Nat, ∃ c45 : Nat, hcell H40 b41 o42 = some (.slice a43 l44 c45) ∧ (
                                                            ((((n39 : Int) < (l44 : Int)) → (
                                                            ∃ b46 o47 : Nat, (some (⟨b7, 0, none⟩ : Addr)) = some (⟨b46, o47, none⟩ : Addr) ∧ (
                                                            ∃ a48 : Option Addr, ∃ l49 : Nat, ∃ c50 : Nat, hcell H40 b46 o47 = some (.slice a48 l49 c50) ∧ (
                                                            (0 : Int) ≤ n39 ∧ (n39 : Int) < (l49 : Int) ∧ ∃ b51 o52 : Nat, a48 = some (⟨b51, o52, none⟩ : Addr) ∧ (
                                                            ∃ n53 : Int, hcell H40 b51 (o52 + (Int.toNat n39)) = some (.int .u8 n53) ∧ (
                                                            ((((n53 : Int) ≠ 0) → (
                                                            R (.tuple #[(.pointer none), (.int .i64 2)]) H40)) ∧ (¬ ((n53 : Int) ≠ 0) → (
                                                            (In64 (n39 + 1)) ∧
                                                            (I37 (n39 + 1) H40) ∧ μ38 (n39 + 1) H40 < μ38 n39 H40))))))))) ∧ (¬ ((n39 : Int) < (l44 : Int)) → (
                                                            ∃ I54 : Int → Heap → Prop, ∃ μ55 : Int → Heap → Nat, (I54 0 H40) ∧
                                                            ∀ n56 : Int, ∀ H57 : Heap, I54 n56 H57 → (
                                                            ∃ b58 o59 : Nat, (some (⟨b21, 0, none⟩ : Addr)) = some (⟨b58, o59, none⟩ : Addr) ∧ (
                                                            ∃ n60 : Int, hcell H57 b58 (o59 + 3) = some (.int .i64 n60) ∧ (
                                                            Does Tryz.prog 38 [(.pointer (some (⟨b21, 0, none⟩ : Addr))), (.int .i64 n56), (.int .i64 n60)] H57 fun v61 H62 => ∃ a63 : Option Addr, ∃ l64 : Nat, ∃ c65 : Nat, ∃ n66 : Int, v61 = (.tuple #[(.slice a63 l64 c65), (.int .i64 n66)]) ∧ (
                                                            ((((n66 : Int) = 0) → (
                                                            ∃ b67 o68 : Nat, (some (⟨b21, 0, none⟩ : Addr)) = some (⟨b67, o68, none⟩ : Addr) ∧ (
                                                            ∃ n69 : Int, hcell H62 b67 (o68 + 2) = some (.int .i64 n69) ∧ (
                                                            (In64 (n69 + 1)) ∧
                                                            ∃ b70 o71 : Nat, (some (⟨b21, 0, none⟩ : Addr)) = some (⟨b70, o71, none⟩ : Addr) ∧ (
                                                            Cells H62 b70 (o71 + 2) 1 ∧ ∀ H72 : Heap, Puts H62 b70 (o71 + 2) [(.int .i64 (n69 + 1))] H72 → (
                                                            ∃ b73 o74 : Nat, (some (⟨b21, 0, none⟩ : Addr)) = some (⟨b73, o74, none⟩ : Addr) ∧ (
                                                            Cells H72 b73 (o74 + 3) 1 ∧ ∀ H75 : Heap, Puts H72 b73 (o74 + 3) [(.int .i64 1)] H75 → (
                                                            Does Tryz.prog 40 [(.pointer (some (⟨b21, 0, none⟩ : Addr)))] H75 fun v76 H77 => ∃ t78 : Bool, v76 = (.bool t78) ∧ (
                                                            (((t78 = false) → (
                                                            R (.tuple #[(.pointer none), (.int .i64 4)]) H77)) ∧ (¬ (t78 = false) → (
                                                            R (.tuple #[(.pointer (some (⟨b21, 0, none⟩ : Addr))), (.int .i64 0)]) H77)))))))))))) ∧ (¬ ((n66 : Int) = 0) → (
                                                            ∃ I79 : Int → Heap → Prop, ∃ μ80 : Int → Heap → Nat, (I79 0 H62) ∧
                                                            ∀ n81 : Int, ∀ H82 : Heap, I79 n81 H82 → (
                                                            ((((n81 : Int) < (l64 : Int)) → (
                                                            ∃ b83 o84 : Nat, (some (⟨b21, 0, none⟩ : Addr)) = some (⟨b83, o84, none⟩ : Addr) ∧ (
                                                            ∃ a85 : Option Addr, ∃ l86 : Nat, ∃ c87 : Nat, hcell H82 b83 (o84 + 5) = some (.slice a85 l86 c87) ∧ (
                                                            (0 : Int) ≤ n81 ∧ (n81 : Int) < (l64 : Int) ∧ ∃ b88 o89 : Nat, a63 = some (⟨b88, o89, none⟩ : Addr) ∧ (
                                                            ∃ n90 : Int, hcell H82 b88 (o89 + (Int.toNat n81) * 2) = some (.int .i64 n90) ∧ (
                                                            ∃ a91 : Option Addr, ∃ l92 : Nat, ∃ c93 : Nat, hcell H82 b88 ((o89 + (Int.toNat n81) * 2) + 1) = some (.slice a91 l92 c93) ∧ (
                                                            Does Tryz.prog 39 [(.slice a85 l86 c87), (.agg #[(.int .i64 n90), (.slice a91 l92 c93)])] H82 fun v94 H95 => ∃ a96 : Option Addr, ∃ l97 : Nat, ∃ c98 : Nat, v94 = (.slice a96 l97 c98) ∧ (
                                                            (∃ b99 o100 : Nat, (some (⟨b21, 0, none⟩ : Addr)) = some (⟨b99, o100, none⟩ : Addr) ∧ (
                                                            Cells H95 b99 (o100 + 5) 1 ∧ ∀ H101 : Heap, Puts H95 b99 (o100 + 5) [(.slice a96 l97 c98)] H101 → (
                                                            ((In64 (n81 + 1)) ∧
                                                            (I79 (n81 + 1) H101) ∧ μ80 (n81 + 1) H101 < μ80 n81 H82)))))))))))) ∧ (¬ ((n81 : Int) < (l64 : Int)) → (
                                                            (In64 (n56 + n66)) ∧
                                                            ∃ b102 o103 : Nat, (some (⟨b21, 0, none⟩ : Addr)) = some (⟨b102, o103, none⟩ : Addr) ∧ (
                                                            ∃ n104 : Int, hcell H82 b102 (o103 + 3) = some (.int .i64 n104) ∧ (
                                                            (In64 (n104 + 1)) ∧
                                                            ∃ b105 o106 : Nat, (some (⟨b21, 0, none⟩ : Addr)) = some (⟨b105, o106, none⟩ : Addr) ∧ (
                                                            Cells H82 b105 (o106 + 3) 1 ∧ ∀ H107 : Heap, Puts H82 b105 (o106 + 3) [(.int .i64 (n104 + 1))] H107 → (
                                                            (I54 (n56 + n66) H107) ∧ μ55 (n56 + n66) H107 < μ55 n56 H57)))))))))))))))))))))))))))))))))))))))))))))))))))) := by kernel_rfl


/-- (*pentimento/pentimentoref4.Journal).Sync -/
theorem vc_rsync (pb0 : Nat) (H : Heap) (R : Value → Heap → Prop) : Walk Tryz.prog 11 [] [(.pointer (some (⟨pb0, 0, none⟩ : Addr)))] H R = (
  ∃ b1 o2 : Nat, (some (⟨pb0, 0, none⟩ : Addr)) = some (⟨b1, o2, none⟩ : Addr) ∧ (
    ∃ t3 : Bool, hcell H b1 (o2 + 6) = some (.bool t3) ∧ (
      ((t3 = true → (
            R (.int .i64 4) H)) ∧ (t3 = false → (
            ∃ b4 o5 : Nat, (some (⟨pb0, 0, none⟩ : Addr)) = some (⟨b4, o5, none⟩ : Addr) ∧ (
              ∃ p6 : Option Addr, hcell H b4 o5 = some (.pointer p6) ∧ (
                Does Tryz.prog 35 [(.pointer p6)] H fun v7 H8 => ∃ n9 : Int, v7 = (.int .i64 n9) ∧ (
                  Does Tryz.prog 43 [(.pointer (some (⟨pb0, 0, none⟩ : Addr))), (.bool (@decide ((n9 : Int) = 0) (Classical.propDecidable _)))] H8 fun v10 H11 => ∃ n12 : Int, v10 = (.int .i64 n12) ∧ (
                    R (.int .i64 n12) H11)))))))))) := by kernel_rfl


/-- (*pentimento/pentimentoref4.Journal).Checkpoint -/
theorem vc_rcheckpoint (pb0 : Nat) (H : Heap) (R : Value → Heap → Prop) : Walk Tryz.prog 13 [] [(.pointer (some (⟨pb0, 0, none⟩ : Addr)))] H R = (
  ∃ b1 o2 : Nat, (some (⟨pb0, 0, none⟩ : Addr)) = some (⟨b1, o2, none⟩ : Addr) ∧ (
    ∃ t3 : Bool, hcell H b1 (o2 + 6) = some (.bool t3) ∧ (
      ((t3 = true → (
            R (.int .i64 4) H)) ∧ (t3 = false → (
            ∃ b4 o5 : Nat, (some (⟨pb0, 0, none⟩ : Addr)) = some (⟨b4, o5, none⟩ : Addr) ∧ (
              ∃ p6 : Option Addr, hcell H b4 o5 = some (.pointer p6) ∧ (
                Does Tryz.prog 35 [(.pointer p6)] H fun v7 H8 => ∃ n9 : Int, v7 = (.int .i64 n9) ∧ (
                  ((((n9 : Int) = 0) → (
                        Does Tryz.prog 40 [(.pointer (some (⟨pb0, 0, none⟩ : Addr)))] H8 fun v10 H11 => ∃ t12 : Bool, v10 = (.bool t12) ∧ (
                          Does Tryz.prog 43 [(.pointer (some (⟨pb0, 0, none⟩ : Addr))), (.bool t12)] H11 fun v13 H14 => ∃ n15 : Int, v13 = (.int .i64 n15) ∧ (
                            R (.int .i64 n15) H14)))) ∧ (¬ ((n9 : Int) = 0) → (
                        Does Tryz.prog 43 [(.pointer (some (⟨pb0, 0, none⟩ : Addr))), (.bool false)] H8 fun v16 H17 => ∃ n18 : Int, v16 = (.int .i64 n18) ∧ (
                          R (.int .i64 n18) H17))))))))))))) := by kernel_rfl


/-- (*pentimento/pentimentoref4.Journal).Commit -/
theorem vc_rcommit (pb0 : Nat) (x1 : Option Addr) (x1l : Nat) (x1c : Nat) (H : Heap) (R : Value → Heap → Prop) : Walk Tryz.prog 24 [(22, [])] [(.pointer (some (⟨pb0, 0, none⟩ : Addr))), (.slice x1 x1l x1c)] H R = (
  (((((x1l : Int) : Int) = 0) → (
        R (.int .i64 1) H)) ∧ (¬ (((x1l : Int) : Int) = 0) → (
        ∃ I1 : Int → Heap → Prop, ∃ μ2 : Int → Heap → Nat, (I1 0 H) ∧
        ∀ n3 : Int, ∀ H4 : Heap, I1 n3 H4 → (
          ((((n3 : Int) < (x1l : Int)) → (
                (0 : Int) ≤ n3 ∧ (n3 : Int) < (x1l : Int) ∧ ∃ b5 o6 : Nat, x1 = some (⟨b5, o6, none⟩ : Addr) ∧ (
                  ∃ n7 : Int, hcell H4 b5 (o6 + (Int.toNat n3) * 2) = some (.int .i64 n7) ∧ (
                    ((((n7 : Int) < 0) → (
                          R (.int .i64 1) H4)) ∧ (¬ ((n7 : Int) < 0) → (
                          (0 : Int) ≤ n3 ∧ (n3 : Int) < (x1l : Int) ∧ ∃ b8 o9 : Nat, x1 = some (⟨b8, o9, none⟩ : Addr) ∧ (
                            ∃ n10 : Int, hcell H4 b8 (o9 + (Int.toNat n3) * 2) = some (.int .i64 n10) ∧ (
                              Does Tryz.prog 22 [(.pointer (some (⟨pb0, 0, none⟩ : Addr)))] H4 fun v11 H12 => ∃ n13 : Int, v11 = (.int .i64 n13) ∧ (
                                isL H12 b8 (o9 + (Int.toNat n3) * 2) [(.int .i64 n10)] ∧ (((((n13 : Int) ≤ n10) → (
                                        R (.int .i64 1) H12)) ∧ (¬ ((n13 : Int) ≤ n10) → (
                                        (0 : Int) ≤ n3 ∧ (n3 : Int) < (x1l : Int) ∧ ∃ b14 o15 : Nat, x1 = some (⟨b14, o15, none⟩ : Addr) ∧ (
                                          ∃ a16 : Option Addr, ∃ l17 : Nat, ∃ c18 : Nat, hcell H12 b14 ((o15 + (Int.toNat n3) * 2) + 1) = some (.slice a16 l17 c18) ∧ (
                                            (((((l17 : Int) : Int) ≠ 128) → (
                                                  R (.int .i64 1) H12)) ∧ (¬ (((l17 : Int) : Int) ≠ 128) → (
                                                  ∃ I19 : Int → Heap → Prop, ∃ μ20 : Int → Heap → Nat, (I19 0 H12) ∧
                                                  ∀ n21 : Int, ∀ H22 : Heap, I19 n21 H22 → (
                                                    ((((n21 : Int) < n3) → (
                                                          (0 : Int) ≤ n21 ∧ (n21 : Int) < (x1l : Int) ∧ ∃ b23 o24 : Nat, x1 = some (⟨b23, o24, none⟩ : Addr) ∧ (
                                                            ∃ n25 : Int, hcell H22 b23 (o24 + (Int.toNat n21) * 2) = some (.int .i64 n25) ∧ (
                                                            (0 : Int) ≤ n3 ∧ (n3 : Int) < (x1l : Int) ∧ ∃ b26 o27 : Nat, x1 = some (⟨b26, o27, none⟩ : Addr) ∧ (
                                                            ∃ n28 : Int, hcell H22 b26 (o27 + (Int.toNat n3) * 2) = some (.int .i64 n28) ∧ (
                                                            ((((n25 : Int) = n28) → (
                                                            R (.int .i64 1) H22)) ∧ (¬ ((n25 : Int) = n28) → (
                                                            (In64 (n21 + 1)) ∧
                                                            (I19 (n21 + 1) H22) ∧ μ20 (n21 + 1) H22 < μ20 n21 H22))))))))) ∧ (¬ ((n21 : Int) < n3) → (
                                                          (In64 (n3 + 1)) ∧
                                                          (I1 (n3 + 1) H22) ∧ μ2 (n3 + 1) H22 < μ2 n3 H4))))))))))))))))))))))) ∧ (¬ ((n3 : Int) < (x1l : Int)) → (
                Does Tryz.prog 55 [(.int .i64 (x1l : Int))] H4 fun v29 H30 => ∃ n31 : Int, v29 = (.int .i64 n31) ∧ (
                  ∃ b32 o33 : Nat, (some (⟨pb0, 0, none⟩ : Addr)) = some (⟨b32, o33, none⟩ : Addr) ∧ (
                    ∃ t34 : Bool, hcell H30 b32 (o33 + 6) = some (.bool t34) ∧ (
                      ((t34 = true → (
                            R (.int .i64 4) H30)) ∧ (t34 = false → (
                            ∃ b35 o36 : Nat, (some (⟨pb0, 0, none⟩ : Addr)) = some (⟨b35, o36, none⟩ : Addr) ∧ (
                              ∃ n37 : Int, hcell H30 b35 (o36 + 1) = some (.int .i64 n37) ∧ (
                                ((((n37 : Int) < n31) → (
                                      R (.int .i64 5) H30)) ∧ (¬ ((n37 : Int) < n31) → (
                                      ∃ I38 : Heap → Prop, (
                                        Does Tryz.prog 56 [(.pointer (some (⟨pb0, 0, none⟩ : Addr)))] H30 fun v39 H40 => ∃ n41 : Int, v39 = (.int .i64 n41) ∧ (
                                          ((((n41 : Int) < n31) → (
                                                Does Tryz.prog 13 [(.pointer (some (⟨pb0, 0, none⟩ : Addr)))] H40 fun v42 H43 => ∃ n44 : Int, v42 = (.int .i64 n44) ∧ (
                                                  ((((n44 : Int) ≠ 0) → (
                                                        R (.int .i64 n44) H43)) ∧ (¬ ((n44 : Int) ≠ 0) → (
                                                        I38 H43)))))) ∧ (¬ ((n41 : Int) < n31) → (
                                                I38 H40))))) ∧
                                      ∀ H45 : Heap, I38 H45 → (
                                        ∃ b46 o47 : Nat, (some (⟨pb0, 0, none⟩ : Addr)) = some (⟨b46, o47, none⟩ : Addr) ∧ (
                                          ∃ n48 : Int, hcell H45 b46 (o47 + 2) = some (.int .i64 n48) ∧ (
                                            ∃ b49 o50 : Nat, (some (⟨pb0, 0, none⟩ : Addr)) = some (⟨b49, o50, none⟩ : Addr) ∧ (
                                              ∃ n51 : Int, hcell H45 b49 (o50 + 3) = some (.int .i64 n51) ∧ (
                                                Does Tryz.prog 57 [(.int .i64 n48), (.int .i64 n51), (.slice x1 x1l x1c)] H45 fun v52 H53 => ∃ a54 : Option Addr, ∃ l55 : Nat, ∃ c56 : Nat, v52 = (.slice a54 l55 c56) ∧ (
                                                  (∃ I57 : Int → Heap → Prop, ∃ μ58 : Int → Heap → Nat, (I57 0 H53) ∧
                                                    ∀ n59 : Int, ∀ H60 : Heap, I57 n59 H60 → (
                                                      ((((n59 : Int) < (l55 : Int)) → (
                                                            ∃ b61 o62 : Nat, (some (⟨pb0, 0, none⟩ : Addr)) = some (⟨b61, o62, none⟩ : Addr) ∧ (
                                                            ∃ p63 : Option Addr, hcell H60 b61 o62 = some (.pointer p63) ∧ (
                                                            ∃ b64 o65 : Nat, (some (⟨pb0, 0, none⟩ : Addr)) = some (⟨b64, o65, none⟩ : Addr) ∧ (
                                                            ∃ n66 : Int, hcell H60 b64 (o65 + 4) = some (.int .i64 n66) ∧ (
                                                            (In64 (1 + n66)) ∧
                                                            (In64 ((1 + n66) + n59)) ∧
                                                            (0 : Int) ≤ n59 ∧ (n59 : Int) < (l55 : Int) ∧ ∃ b67 o68 : Nat, a54 = some (⟨b67, o68, none⟩ : Addr) ∧ (
                                                            ∃ a69 : Option Addr, ∃ l70 : Nat, ∃ c71 : Nat, hcell H60 b67 (o68 + (Int.toNat n59)) = some (.slice a69 l70 c71) ∧ (
                                                            Does Tryz.prog 33 [(.pointer p63), (.int .i64 ((1 + n66) + n59)), (.slice a69 l70 c71)] H60 fun v72 H73 => ∃ n74 : Int, v72 = (.int .i64 n74) ∧ (
                                                            (((((n74 : Int) ≠ 0) → (
                                                            Does Tryz.prog 43 [(.pointer (some (⟨pb0, 0, none⟩ : Addr))), (.bool false)] H73 fun v75 H76 => ∃ n77 : Int, v75 = (.int .i64 n77) ∧ (
                                                            R (.int .i64 n77) H76))) ∧ (¬ ((n74 : Int) ≠ 0) → (
                                                            (In64 (n59 + 1)) ∧
                                                            (I57 (n59 + 1) H73) ∧ μ58 (n59 + 1) H73 < μ58 n59 H60))))))))))))) ∧ (¬ ((n59 : Int) < (l55 : Int)) → (
                                                            ∃ b78 o79 : Nat, (some (⟨pb0, 0, none⟩ : Addr)) = some (⟨b78, o79, none⟩ : Addr) ∧ (
                                                            ∃ n80 : Int, hcell H60 b78 (o79 + 4) = some (.int .i64 n80) ∧ (
                                                            (In64 (n80 + n31)) ∧
                                                            ∃ b81 o82 : Nat, (some (⟨pb0, 0, none⟩ : Addr)) = some (⟨b81, o82, none⟩ : Addr) ∧ (
                                                            Cells H60 b81 (o82 + 4) 1 ∧ ∀ H83 : Heap, Puts H60 b81 (o82 + 4) [(.int .i64 (n80 + n31))] H83 → (
                                                            ∃ b84 o85 : Nat, (some (⟨pb0, 0, none⟩ : Addr)) = some (⟨b84, o85, none⟩ : Addr) ∧ (
                                                            ∃ n86 : Int, hcell H83 b84 (o85 + 3) = some (.int .i64 n86) ∧ (
                                                            (In64 (n86 + 1)) ∧
                                                            ∃ b87 o88 : Nat, (some (⟨pb0, 0, none⟩ : Addr)) = some (⟨b87, o88, none⟩ : Addr) ∧ (
                                                            Cells H83 b87 (o88 + 3) 1 ∧ ∀ H89 : Heap, Puts H83 b87 (o88 + 3) [(.int .i64 (n86 + 1))] H89 → (
                                                            ∃ I90 : Int → Heap → Prop, ∃ μ91 : Int → Heap → Nat, (I90 0 H89) ∧
                                                            ∀ n92 : Int, ∀ H93 : Heap, I90 n92 H93 → (
                                                            ((((n92 : Int) < (x1l : Int)) → (
                                                            ∃ b94 o95 : Nat, (some (⟨pb0, 0, none⟩ : Addr)) = some (⟨b94, o95, none⟩ : Addr) ∧ (
                                                            ∃ a96 : Option Addr, ∃ l97 : Nat, ∃ c98 : Nat, hcell H93 b94 (o95 + 5) = some (.slice a96 l97 c98) ∧ (
                                                            (0 : Int) ≤ n92 ∧ (n92 : Int) < (x1l : Int) ∧ ∃ b99 o100 : Nat, x1 = some (⟨b99, o100, none⟩ : Addr) ∧ (
                                                            ∃ n101 : Int, hcell H93 b99 (o100 + (Int.toNat n92) * 2) = some (.int .i64 n101) ∧ (
                                                            (0 : Int) ≤ n92 ∧ (n92 : Int) < (x1l : Int) ∧ ∃ b102 o103 : Nat, x1 = some (⟨b102, o103, none⟩ : Addr) ∧ (
                                                            ∃ a104 : Option Addr, ∃ l105 : Nat, ∃ c106 : Nat, hcell H93 b102 ((o103 + (Int.toNat n92) * 2) + 1) = some (.slice a104 l105 c106) ∧ (
                                                            ∀ b107 : Nat, ∀ H108 : Heap, New H93 b107 [] 5 H108 → (
                                                            isL H108 b102 ((o103 + (Int.toNat n92) * 2) + 1) [(.slice a104 l105 c106)] ∧ isL H108 b99 (o100 + (Int.toNat n92) * 2) [(.int .i64 n101)] ∧ isL H108 b94 (o95 + 5) [(.slice a96 l97 c98)] ∧ (∃ old109 new110 : List Value, SRow H108 1 0 (.slice (some (⟨b107, 0, none⟩ : Addr)) 0 0) old109 ∧ SRow H108 1 l105 (.slice a104 l105 c106) new110 ∧ (∀ u ∈ new110, Value.oneCell' u = true) ∧ (0 + l105) * 1 ≤ 140737488355328 ∧ (0 + l105 ≤ 0 → roomOf H108 (some (⟨b107, 0, none⟩ : Addr)) (0 * 1) (l105 * 1)) ∧ ∀ a111 : Option Addr, ∀ c112 : Nat, ∀ H113 : Heap, App H108 1 5 [(.int .u8 0)] (some (⟨b107, 0, none⟩ : Addr)) 0 0 old109 new110 l105 a111 c112 H113 → (
                                                            isL H113 b99 (o100 + (Int.toNat n92) * 2) [(.int .i64 n101)] ∧ isL H113 b94 (o95 + 5) [(.slice a96 l97 c98)] ∧ (Does Tryz.prog 39 [(.slice a96 l97 c98), (.agg #[(.int .i64 n101), (.slice a111 (0 + l105) c112)])] H113 fun v114 H115 => ∃ a116 : Option Addr, ∃ l117 : Nat, ∃ c118 : Nat, v114 = (.slice a116 l117 c118) ∧ (
                                                            (∃ b119 o120 : Nat, (some (⟨pb0, 0, none⟩ : Addr)) = some (⟨b119, o120, none⟩ : Addr) ∧ (
                                                            Cells H115 b119 (o120 + 5) 1 ∧ ∀ H121 : Heap, Puts H115 b119 (o120 + 5) [(.slice a116 l117 c118)] H121 → (
                                                            ((In64 (n92 + 1)) ∧
                                                            (I90 (n92 + 1) H121) ∧ μ91 (n92 + 1) H121 < μ91 n92 H93))))))))))))))))) ∧ (¬ ((n92 : Int) < (x1l : Int)) → (
                                                            R (.int .i64 0) H93)))))))))))))))))))))))))))))))))))))))))) := by kernel_rfl


/-- (*pentimento/pentimentoref4.Journal).Read -/
theorem vc_rread (pb0 : Nat) (x1 : Int) (H : Heap) (R : Value → Heap → Prop) : Walk Tryz.prog 27 [] [(.pointer (some (⟨pb0, 0, none⟩ : Addr))), (.int .i64 x1)] H R = (
  ((((x1 : Int) < 0) → (
        R (.tuple #[(.slice none 0 0), (.int .i64 1)]) H)) ∧ (¬ ((x1 : Int) < 0) → (
        Does Tryz.prog 22 [(.pointer (some (⟨pb0, 0, none⟩ : Addr)))] H fun v1 H2 => ∃ n3 : Int, v1 = (.int .i64 n3) ∧ (
          ((((n3 : Int) ≤ x1) → (
                R (.tuple #[(.slice none 0 0), (.int .i64 1)]) H2)) ∧ (¬ ((n3 : Int) ≤ x1) → (
                ∃ b4 o5 : Nat, (some (⟨pb0, 0, none⟩ : Addr)) = some (⟨b4, o5, none⟩ : Addr) ∧ (
                  ∃ t6 : Bool, hcell H2 b4 (o5 + 6) = some (.bool t6) ∧ (
                    ((t6 = true → (
                          R (.tuple #[(.slice none 0 0), (.int .i64 4)]) H2)) ∧ (t6 = false → (
                          ∃ I7 : Int → Heap → Prop, ∃ μ8 : Int → Heap → Nat, (I7 0 H2) ∧
                          ∀ n9 : Int, ∀ H10 : Heap, I7 n9 H10 → (
                            ∃ b11 o12 : Nat, (some (⟨pb0, 0, none⟩ : Addr)) = some (⟨b11, o12, none⟩ : Addr) ∧ (
                              ∃ a13 : Option Addr, ∃ l14 : Nat, ∃ c15 : Nat, hcell H10 b11 (o12 + 5) = some (.slice a13 l14 c15) ∧ (
                                ((((n9 : Int) < (l14 : Int)) → (
                                      ∃ b16 o17 : Nat, (some (⟨pb0, 0, none⟩ : Addr)) = some (⟨b16, o17, none⟩ : Addr) ∧ (
                                        ∃ a18 : Option Addr, ∃ l19 : Nat, ∃ c20 : Nat, hcell H10 b16 (o17 + 5) = some (.slice a18 l19 c20) ∧ (
                                          (0 : Int) ≤ n9 ∧ (n9 : Int) < (l19 : Int) ∧ ∃ b21 o22 : Nat, a18 = some (⟨b21, o22, none⟩ : Addr) ∧ (
                                            ∃ n23 : Int, hcell H10 b21 (o22 + (Int.toNat n9) * 2) = some (.int .i64 n23) ∧ (
                                              ((((n23 : Int) = x1) → (
                                                    ∃ b24 o25 : Nat, (some (⟨pb0, 0, none⟩ : Addr)) = some (⟨b24, o25, none⟩ : Addr) ∧ (
                                                      ∃ a26 : Option Addr, ∃ l27 : Nat, ∃ c28 : Nat, hcell H10 b24 (o25 + 5) = some (.slice a26 l27 c28) ∧ (
                                                        (0 : Int) ≤ n9 ∧ (n9 : Int) < (l27 : Int) ∧ ∃ b29 o30 : Nat, a26 = some (⟨b29, o30, none⟩ : Addr) ∧ (
                                                          ∃ a31 : Option Addr, ∃ l32 : Nat, ∃ c33 : Nat, hcell H10 b29 ((o30 + (Int.toNat n9) * 2) + 1) = some (.slice a31 l32 c33) ∧ (
                                                            R (.tuple #[(.slice a31 l32 c33), (.int .i64 0)]) H10)))))) ∧ (¬ ((n23 : Int) = x1) → (
                                                    (In64 (n9 + 1)) ∧
                                                    (I7 (n9 + 1) H10) ∧ μ8 (n9 + 1) H10 < μ8 n9 H10))))))))) ∧ (¬ ((n9 : Int) < (l14 : Int)) → (
                                      ∃ b34 o35 : Nat, (some (⟨pb0, 0, none⟩ : Addr)) = some (⟨b34, o35, none⟩ : Addr) ∧ (
                                        ∃ p36 : Option Addr, hcell H10 b34 o35 = some (.pointer p36) ∧ (
                                          ∃ b37 o38 : Nat, (some (⟨pb0, 0, none⟩ : Addr)) = some (⟨b37, o38, none⟩ : Addr) ∧ (
                                            ∃ n39 : Int, hcell H10 b37 (o38 + 1) = some (.int .i64 n39) ∧ (
                                              (In64 (1 + n39)) ∧
                                              (In64 ((1 + n39) + x1)) ∧
                                              Does Tryz.prog 36 [(.pointer p36), (.int .i64 ((1 + n39) + x1))] H10 fun v40 H41 => ∃ a42 : Option Addr, ∃ l43 : Nat, ∃ c44 : Nat, ∃ n45 : Int, v40 = (.tuple #[(.slice a42 l43 c44), (.int .i64 n45)]) ∧ (
                                                (((((n45 : Int) ≠ 0) → (
                                                        Does Tryz.prog 43 [(.pointer (some (⟨pb0, 0, none⟩ : Addr))), (.bool false)] H41 fun v46 H47 => ∃ n48 : Int, v46 = (.int .i64 n48) ∧ (
                                                          R (.tuple #[(.slice none 0 0), (.int .i64 n48)]) H47))) ∧ (¬ ((n45 : Int) ≠ 0) → (
                                                        R (.tuple #[(.slice a42 l43 c44), (.int .i64 0)]) H41)))))))))))))))))))))))))))) := by kernel_rfl


/-- pentimento/pentimentolaw5.same -/
theorem vcl_same (x0 : Option Addr) (x1 : Option Addr) (x2 : Option Addr) (x3 : Option Addr) (H : Heap) (R : Value → Heap → Prop) : Walk Tryz.prog 25 [] [(.pointer x0), (.pointer x1), (.pointer x2), (.pointer x3)] H R = (
  ∃ b1 o2 : Nat, x1 = some (⟨b1, o2, none⟩ : Addr) ∧ (
    ∃ t3 : Bool, hcell H b1 (o2 + 6) = some (.bool t3) ∧ (
      Does Tryz.prog 58 [(.pointer x0)] H fun v4 H5 => ∃ t6 : Bool, v4 = (.bool t6) ∧ (
        isL H5 b1 (o2 + 6) [(.bool t3)] ∧ ((((¬ ((t6 = true) ↔ (t3 = true))) → (
                R (.bool false) H5)) ∧ (¬ (¬ ((t6 = true) ↔ (t3 = true))) → (
                ∃ b7 o8 : Nat, x1 = some (⟨b7, o8, none⟩ : Addr) ∧ (
                  ∃ t9 : Bool, hcell H5 b7 (o8 + 6) = some (.bool t9) ∧ (
                    (((t9 = false) → (
                          Does Tryz.prog 32 [(.pointer x0)] H5 fun v10 H11 => ∃ n12 : Int, v10 = (.int .i64 n12) ∧ (
                            (Does Tryz.prog 56 [(.pointer x1)] H11 fun v13 H14 => ∃ n15 : Int, v13 = (.int .i64 n15) ∧ (
                                (((((n12 : Int) ≠ n15) → (
                                        R (.bool false) H14)) ∧ (¬ ((n12 : Int) ≠ n15) → (
                                        ∃ b16 o17 : Nat, x3 = some (⟨b16, o17, none⟩ : Addr) ∧ (
                                          ∃ n18 : Int, hcell H14 b16 (o17 + 4) = some (.int .i64 n18) ∧ (
                                            Does Tryz.prog 59 [(.pointer x2)] H14 fun v19 H20 => ∃ n21 : Int, v19 = (.int .i64 n21) ∧ (
                                              isL H20 b16 (o17 + 4) [(.int .i64 n18)] ∧ (((((n21 : Int) ≠ n18) → (
                                                      R (.bool false) H20)) ∧ (¬ ((n21 : Int) ≠ n18) → (
                                                      ∃ b22 o23 : Nat, x3 = some (⟨b22, o23, none⟩ : Addr) ∧ (
                                                        ∃ a24 : Option Addr, ∃ l25 : Nat, ∃ c26 : Nat, hcell H20 b22 (o23 + 1) = some (.slice a24 l25 c26) ∧ (
                                                          Does Tryz.prog 60 [(.pointer x2)] H20 fun v27 H28 => ∃ n29 : Int, v27 = (.int .i64 n29) ∧ (
                                                            isL H28 b22 (o23 + 1) [(.slice a24 l25 c26)] ∧ (((((n29 : Int) ≠ (l25 : Int)) → (
                                                            R (.bool false) H28)) ∧ (¬ ((n29 : Int) ≠ (l25 : Int)) → (
                                                            Does Tryz.prog 31 [(.pointer x0)] H28 fun v30 H31 => ∃ n32 : Int, v30 = (.int .i64 n32) ∧ (
                                                            (Does Tryz.prog 22 [(.pointer x1)] H31 fun v33 H34 => ∃ n35 : Int, v33 = (.int .i64 n35) ∧ (
                                                            (((((n32 : Int) ≠ n35) → (
                                                            R (.bool false) H34)) ∧ (¬ ((n32 : Int) ≠ n35) → (
                                                            ∃ I36 : Int → Heap → Prop, ∃ μ37 : Int → Heap → Nat, (I36 0 H34) ∧
                                                            ∀ n38 : Int, ∀ H39 : Heap, I36 n38 H39 → (
                                                            ∃ b40 o41 : Nat, x3 = some (⟨b40, o41, none⟩ : Addr) ∧ (
                                                            ∃ a42 : Option Addr, ∃ l43 : Nat, ∃ c44 : Nat, hcell H39 b40 o41 = some (.slice a42 l43 c44) ∧ (
                                                            ((((n38 : Int) < (l43 : Int)) → (
                                                            Does Tryz.prog 61 [(.pointer x2), (.int .i64 n38)] H39 fun v45 H46 => ∃ a47 : Option Addr, ∃ l48 : Nat, ∃ c49 : Nat, ∃ n50 : Int, v45 = (.tuple #[(.slice a47 l48 c49), (.int .i64 n50)]) ∧ (
                                                            Does Tryz.prog 36 [(.pointer x3), (.int .i64 n38)] H46 fun v51 H52 => ∃ a53 : Option Addr, ∃ l54 : Nat, ∃ c55 : Nat, ∃ n56 : Int, v51 = (.tuple #[(.slice a53 l54 c55), (.int .i64 n56)]) ∧ (
                                                            ((((n50 : Int) ≠ n56) → (
                                                            R (.bool false) H52)) ∧ (¬ ((n50 : Int) ≠ n56) → (
                                                            ∃ l57 : List UInt8, SRow H52 1 l48 (.slice a47 l48 c49) (List.map (fun (b : UInt8) => Value.int .u8 b.toNat) l57) ∧ (
                                                            ∃ l58 : List UInt8, SRow H52 1 l54 (.slice a53 l54 c55) (List.map (fun (b : UInt8) => Value.int .u8 b.toNat) l58) ∧ (
                                                            (((((ByteArray.mk (List.toArray l57)) : ByteArray) ≠ (ByteArray.mk (List.toArray l58))) → (
                                                            R (.bool false) H52)) ∧ (¬ (((ByteArray.mk (List.toArray l57)) : ByteArray) ≠ (ByteArray.mk (List.toArray l58))) → (
                                                            (In64 (n38 + 1)) ∧
                                                            (I36 (n38 + 1) H52) ∧ μ37 (n38 + 1) H52 < μ37 n38 H39)))))))))))) ∧ (¬ ((n38 : Int) < (l43 : Int)) → (
                                                            R (.bool true) H39)))))))))))))))))))))))))))))))))))) ∧ (¬ (t9 = false) → (
                          ∃ b59 o60 : Nat, x3 = some (⟨b59, o60, none⟩ : Addr) ∧ (
                            ∃ n61 : Int, hcell H5 b59 (o60 + 4) = some (.int .i64 n61) ∧ (
                              Does Tryz.prog 59 [(.pointer x2)] H5 fun v62 H63 => ∃ n64 : Int, v62 = (.int .i64 n64) ∧ (
                                isL H63 b59 (o60 + 4) [(.int .i64 n61)] ∧ (((((n64 : Int) ≠ n61) → (
                                        R (.bool false) H63)) ∧ (¬ ((n64 : Int) ≠ n61) → (
                                        ∃ b65 o66 : Nat, x3 = some (⟨b65, o66, none⟩ : Addr) ∧ (
                                          ∃ a67 : Option Addr, ∃ l68 : Nat, ∃ c69 : Nat, hcell H63 b65 (o66 + 1) = some (.slice a67 l68 c69) ∧ (
                                            Does Tryz.prog 60 [(.pointer x2)] H63 fun v70 H71 => ∃ n72 : Int, v70 = (.int .i64 n72) ∧ (
                                              isL H71 b65 (o66 + 1) [(.slice a67 l68 c69)] ∧ (((((n72 : Int) ≠ (l68 : Int)) → (
                                                      R (.bool false) H71)) ∧ (¬ ((n72 : Int) ≠ (l68 : Int)) → (
                                                      Does Tryz.prog 31 [(.pointer x0)] H71 fun v73 H74 => ∃ n75 : Int, v73 = (.int .i64 n75) ∧ (
                                                        (Does Tryz.prog 22 [(.pointer x1)] H74 fun v76 H77 => ∃ n78 : Int, v76 = (.int .i64 n78) ∧ (
                                                            (((((n75 : Int) ≠ n78) → (
                                                            R (.bool false) H77)) ∧ (¬ ((n75 : Int) ≠ n78) → (
                                                            ∃ I79 : Int → Heap → Prop, ∃ μ80 : Int → Heap → Nat, (I79 0 H77) ∧
                                                            ∀ n81 : Int, ∀ H82 : Heap, I79 n81 H82 → (
                                                            ∃ b83 o84 : Nat, x3 = some (⟨b83, o84, none⟩ : Addr) ∧ (
                                                            ∃ a85 : Option Addr, ∃ l86 : Nat, ∃ c87 : Nat, hcell H82 b83 o84 = some (.slice a85 l86 c87) ∧ (
                                                            ((((n81 : Int) < (l86 : Int)) → (
                                                            Does Tryz.prog 61 [(.pointer x2), (.int .i64 n81)] H82 fun v88 H89 => ∃ a90 : Option Addr, ∃ l91 : Nat, ∃ c92 : Nat, ∃ n93 : Int, v88 = (.tuple #[(.slice a90 l91 c92), (.int .i64 n93)]) ∧ (
                                                            Does Tryz.prog 36 [(.pointer x3), (.int .i64 n81)] H89 fun v94 H95 => ∃ a96 : Option Addr, ∃ l97 : Nat, ∃ c98 : Nat, ∃ n99 : Int, v94 = (.tuple #[(.slice a96 l97 c98), (.int .i64 n99)]) ∧ (
                                                            ((((n93 : Int) ≠ n99) → (
                                                            R (.bool false) H95)) ∧ (¬ ((n93 : Int) ≠ n99) → (
                                                            ∃ l100 : List UInt8, SRow H95 1 l91 (.slice a90 l91 c92) (List.map (fun (b : UInt8) => Value.int .u8 b.toNat) l100) ∧ (
                                                            ∃ l101 : List UInt8, SRow H95 1 l97 (.slice a96 l97 c98) (List.map (fun (b : UInt8) => Value.int .u8 b.toNat) l101) ∧ (
                                                            (((((ByteArray.mk (List.toArray l100)) : ByteArray) ≠ (ByteArray.mk (List.toArray l101))) → (
                                                            R (.bool false) H95)) ∧ (¬ (((ByteArray.mk (List.toArray l100)) : ByteArray) ≠ (ByteArray.mk (List.toArray l101))) → (
                                                            (In64 (n81 + 1)) ∧
                                                            (I79 (n81 + 1) H95) ∧ μ80 (n81 + 1) H95 < μ80 n81 H82)))))))))))) ∧ (¬ ((n81 : Int) < (l86 : Int)) → (
                                                            R (.bool true) H82)))))))))))))))))))))))))))))))))))))))) := by kernel_rfl


end Go.Proofs
end

