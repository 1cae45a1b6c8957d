/-
  The contracts of the functions that the law reaches, part 3. No condition.
-/
import Derived.Test.YtmoelmapcdmllaaGreatDoorProg
import Derived.Test.YtmoelmapcdmllaaGreatDoorVb
import Derived.Test.YtmoelmapcdmllaaGreatDoorPb

section
open Go Go.Vc
namespace Go.Proofs
set_option maxRecDepth 100000
/-- pentimento/pentimentoref21.untext -/
theorem RUntextV (x0 : ByteArray) (H : Heap) (R : Value → Heap → Prop) : Walk Tryz.prog 28 [] [(.string x0)] H R = (
 ((((0 : Int) < (ByteArray.size x0 : Int)) → (
 (0 : Int) ≤ 0 ∧ (0 : Int) < (ByteArray.size x0 : Int) ∧ ∀ q1 : Int, q1 = (((ByteArray.data x0).toList.getD (Int.toNat 0) 0).toNat : Int) → (
 ((((q1 : Int) = 37) → (
 Does Tryz.prog 32 [(.string x0)] H fun v2 H3 => ∃ a4 : Option Addr, ∃ l5 : Nat, ∃ c6 : Nat, v2 = (.slice a4 l5 c6) ∧ (
 ∃ l7 : List UInt8, SRow H3 1 l5 (.slice a4 l5 c6) (List.map (fun (b : UInt8) => Value.int .u8 b.toNat) l7) ∧ (
 R (.string (ByteArray.mk (List.toArray l7))) H3)))) ∧ (¬ ((q1 : Int) = 37) → (
 R (.string x0) H)))))) ∧ (¬ ((0 : Int) < (ByteArray.size x0 : Int)) → (
 R (.string x0) H)))) := by kernel_rfl


/-- pentimento/pentimentoref21.at -/
theorem RAtV (x0 : Option Addr) (x0l : Nat) (x0c : Nat) (x1 : Int) (H : Heap) (R : Value → Heap → Prop) : Walk Tryz.prog 29 [] [(.slice x0 x0l x0c), (.int .i64 x1)] H R = (
 ((((x1 : Int) < (x0l : Int)) → (
 (0 : Int) ≤ x1 ∧ (x1 : Int) < (x0l : Int) ∧ ∃ b1 o2 : Nat, x0 = some (⟨b1, o2, none⟩ : Addr) ∧ (
 ∃ s3 : ByteArray, hcell H b1 (o2 + (Int.toNat x1)) = some (.string s3) ∧ (
 R (.string s3) H)))) ∧ (¬ ((x1 : Int) < (x0l : Int)) → (
 R (.string (ByteArray.mk #[])) H)))) := by kernel_rfl


/-- pentimento/pentimentoref21.number -/
theorem RNumberV (x0 : ByteArray) (H : Heap) (R : Value → Heap → Prop) : Walk Tryz.prog 31 [] [(.string x0)] H R = (
 (((((ByteArray.size x0 : Int) : Int) < 1) → (
 R (.int .i64 (-1)) H)) ∧ (¬ (((ByteArray.size x0 : Int) : Int) < 1) → (
 ((((6 : Int) < (ByteArray.size x0 : Int)) → (
 R (.int .i64 (-1)) H)) ∧ (¬ ((6 : Int) < (ByteArray.size x0 : Int)) → (
 ∃ I1 : Int → Int → Heap → Prop, ∃ μ2 : Int → Int → Heap → Nat, (I1 0 0 H) ∧
 ∀ n3 : Int, ∀ n4 : Int, ∀ H5 : Heap, I1 n3 n4 H5 → (
 ((((n4 : Int) < (ByteArray.size x0 : Int)) → (
 (0 : Int) ≤ n4 ∧ (n4 : Int) < (ByteArray.size x0 : Int) ∧ ∀ q6 : Int, q6 = (((ByteArray.data x0).toList.getD (Int.toNat n4) 0).toNat : Int) → (
 ((((q6 : Int) < 48) → (
 R (.int .i64 (-1)) H5)) ∧ (¬ ((q6 : Int) < 48) → (
 (0 : Int) ≤ n4 ∧ (n4 : Int) < (ByteArray.size x0 : Int) ∧ ∀ q7 : Int, q7 = (((ByteArray.data x0).toList.getD (Int.toNat n4) 0).toNat : Int) → (
 ((((57 : Int) < q7) → (
 R (.int .i64 (-1)) H5)) ∧ (¬ ((57 : Int) < q7) → (
 (In64 (10 * n3)) ∧
 (0 : Int) ≤ n4 ∧ (n4 : Int) < (ByteArray.size x0 : Int) ∧ ∀ q8 : Int, q8 = (((ByteArray.data x0).toList.getD (Int.toNat n4) 0).toNat : Int) → (
 ∀ q9 : Int, q9 = IntKind.wrap .u8 (q8 - 48) → (
 (In64 q9) ∧
 (In64 ((10 * n3) + q9)) ∧
 (In64 (n4 + 1)) ∧
 (I1 ((10 * n3) + q9) (n4 + 1) H5) ∧ μ2 ((10 * n3) + q9) (n4 + 1) H5 < μ2 n3 n4 H5)))))))))))) ∧ (¬ ((n4 : Int) < (ByteArray.size x0 : Int)) → (
 R (.int .i64 n3) H5))))))))))) := by kernel_rfl


/-- pentimento/pentimentoref21.digit -/
theorem RDigitV (x0 : Int) (H : Heap) (R : Value → Heap → Prop) : Walk Tryz.prog 53 [] [(.int .u8 x0)] H R = (
 ((((48 : Int) ≤ x0) → (
 ((((x0 : Int) ≤ 57) → (
 ∀ q1 : Int, q1 = IntKind.wrap .u8 (x0 - 48) → (
 (In64 q1) ∧
 R (.int .i64 q1) H))) ∧ (¬ ((x0 : Int) ≤ 57) → (
 ((((97 : Int) ≤ x0) → (
 ((((x0 : Int) ≤ 102) → (
 ∀ q2 : Int, q2 = IntKind.wrap .u8 (x0 - 97) → (
 (In64 q2) ∧
 (In64 (q2 + 10)) ∧
 R (.int .i64 (q2 + 10)) H))) ∧ (¬ ((x0 : Int) ≤ 102) → (
 R (.int .i64 0) H))))) ∧ (¬ ((97 : Int) ≤ x0) → (
 R (.int .i64 0) H)))))))) ∧ (¬ ((48 : Int) ≤ x0) → (
 ((((97 : Int) ≤ x0) → (
 ((((x0 : Int) ≤ 102) → (
 ∀ q3 : Int, q3 = IntKind.wrap .u8 (x0 - 97) → (
 (In64 q3) ∧
 (In64 (q3 + 10)) ∧
 R (.int .i64 (q3 + 10)) H))) ∧ (¬ ((x0 : Int) ≤ 102) → (
 R (.int .i64 0) H))))) ∧ (¬ ((97 : Int) ≤ x0) → (
 R (.int .i64 0) H))))))) := by kernel_rfl


/-- pentimento/pentimentoref21.unhex -/
theorem RUnhexV (x0 : ByteArray) (H : Heap) (R : Value → Heap → Prop) : Walk Tryz.prog 32 [] [(.string x0)] H R = (
 ∃ I1 : Option Addr → Nat → Nat → Int → Heap → Prop, ∃ μ2 : Option Addr → Nat → Nat → Int → Heap → Nat, (I1 none 0 0 1 H) ∧
 ∀ a3 : Option Addr, ∀ l4 : Nat, ∀ c5 : Nat, ∀ n6 : Int, ∀ H7 : Heap, I1 a3 l4 c5 n6 H7 → (
 (In64 (n6 + 1)) ∧
 (((((n6 + 1) : Int) < (ByteArray.size x0 : Int)) → (
 (0 : Int) ≤ n6 ∧ (n6 : Int) < (ByteArray.size x0 : Int) ∧ ∀ q8 : Int, q8 = (((ByteArray.data x0).toList.getD (Int.toNat n6) 0).toNat : Int) → (
 (In64 (n6 + 1)) ∧
 (0 : Int) ≤ (n6 + 1) ∧ ((n6 + 1) : Int) < (ByteArray.size x0 : Int) ∧ ∀ q9 : Int, q9 = (((ByteArray.data x0).toList.getD (Int.toNat (n6 + 1)) 0).toNat : Int) → (
 Does Tryz.prog 53 [(.int .u8 q8)] H7 fun v10 H11 => ∃ n12 : Int, v10 = (.int .i64 n12) ∧ (
 ((In64 (16 * n12)) ∧
 Does Tryz.prog 53 [(.int .u8 q9)] H11 fun v13 H14 => ∃ n15 : Int, v13 = (.int .i64 n15) ∧ (
 ((In64 ((16 * n12) + n15)) ∧
 ∀ q16 : Int, q16 = IntKind.wrap .u8 ((16 * n12) + n15) → (
 ∀ b17 : Nat, ∀ H18 : Heap, New H14 b17 [(.int .u8 q16)] 5 H18 → (
 (∃ old19 new20 : List Value, SRow H18 1 l4 (.slice a3 l4 c5) old19 ∧ SRow H18 1 1 (.slice (some (⟨b17, 0, none⟩ : Addr)) 1 1) new20 ∧ (∀ u ∈ new20, Value.oneCell' u = true) ∧ (l4 + 1) * 1 ≤ 140737488355328 ∧ (l4 + 1 ≤ c5 → roomOf H18 a3 (l4 * 1) (1 * 1)) ∧ ∀ a21 : Option Addr, ∀ c22 : Nat, ∀ H23 : Heap, App H18 1 5 [(.int .u8 0)] a3 l4 c5 old19 new20 1 a21 c22 H23 → (
 ((In64 (n6 + 2)) ∧
 (I1 a21 (l4 + 1) c22 (n6 + 2) H23) ∧ μ2 a21 (l4 + 1) c22 (n6 + 2) H23 < μ2 a3 l4 c5 n6 H7))))))))))))) ∧ (¬ (((n6 + 1) : Int) < (ByteArray.size x0 : Int)) → (
 R (.slice a3 l4 c5) H7))))) := by kernel_rfl


/-- pentimento/pentimentoref21.time -/
theorem RTimeV (x0 : ByteArray) (H : Heap) (R : Value → Heap → Prop) : Walk Tryz.prog 52 [] [(.string x0)] H R = (
 Does Tryz.prog 76 [(.string x0)] H fun v1 H2 => ∃ f3 : Nat, ∃ t4 : Bool, v1 = (.tuple #[(.float .f64 f3), (.bool t4)]) ∧ (
 R (.float .f64 f3) H2)) := by kernel_rfl


/-- pentimento/pentimentoref21.parseCall -/
theorem RPCallV (x0 : Option Addr) (x0l : Nat) (x0c : Nat) (H : Heap) (R : Value → Heap → Prop) : Walk Tryz.prog 30 [(4, []), (31, [])] [(.slice x0 x0l x0c)] H R = (
 ∀ b1 : Nat, ∀ H2 : Heap, New H b1 [(.int .i64 0), (.string (ByteArray.mk #[])), (.string (ByteArray.mk #[])), (.int .i64 0), (.float .f64 0), (.int .i64 0), (.int .i64 0), (.slice none 0 0)] 31 H2 → (
 Does Tryz.prog 29 [(.slice x0 x0l x0c), (.int .i64 1)] H2 fun v3 H4 => ∃ s5 : ByteArray, v3 = (.string s5) ∧ (
 Does Tryz.prog 28 [(.string s5)] H4 fun v6 H7 => ∃ s8 : ByteArray, v6 = (.string s8) ∧ (
 ∀ b9 : Nat, ∀ H10 : Heap, New H7 b9 [(.int .i64 0), (.string (ByteArray.mk #[])), (.string (ByteArray.mk #[])), (.int .i64 0), (.float .f64 0), (.int .i64 0), (.int .i64 0), (.slice none 0 0)] 31 H10 → (
 Cells H10 b9 0 8 ∧ ∀ H11 : Heap, Puts H10 b9 0 [(.int .i64 0), (.string s8), (.string (ByteArray.mk #[])), (.int .i64 0), (.float .f64 0), (.int .i64 0), (.int .i64 0), (.slice none 0 0)] H11 → (
 ∃ I12 : Int → Heap → Prop, ∃ μ13 : Int → Heap → Nat, (I12 1 H11) ∧
 ∀ n14 : Int, ∀ H15 : Heap, I12 n14 H15 → (
 ((((n14 : Int) ≤ 15) → (
 ∃ I16 : Heap → Prop, (
 Does Tryz.prog 44 [(.int .i64 n14)] H15 fun v17 H18 => ∃ s19 : ByteArray, v17 = (.string s19) ∧ (
 Does Tryz.prog 29 [(.slice x0 x0l x0c), (.int .i64 0)] H18 fun v20 H21 => ∃ s22 : ByteArray, v20 = (.string s22) ∧ (
 ((((s19 : ByteArray) = s22) → (
 Cells H21 b9 0 1 ∧ ∀ H23 : Heap, Puts H21 b9 0 [(.int .i64 n14)] H23 → (
 I16 H23))) ∧ (¬ ((s19 : ByteArray) = s22) → (
 I16 H21)))))) ∧
 ∀ H24 : Heap, I16 H24 → (
 (In64 (n14 + 1)) ∧
 (I12 (n14 + 1) H24) ∧ μ13 (n14 + 1) H24 < μ13 n14 H15))) ∧ (¬ ((n14 : Int) ≤ 15) → (
 ∃ I25 : Heap → Prop, (
 ∃ n26 : Int, hcell H15 b9 0 = some (.int .i64 n26) ∧ (
 ((((n26 : Int) = 1) → (
 ((((n26 : Int) = 1) → (
 Does Tryz.prog 29 [(.slice x0 x0l x0c), (.int .i64 2)] H15 fun v27 H28 => ∃ s29 : ByteArray, v27 = (.string s29) ∧ (
 Does Tryz.prog 31 [(.string s29)] H28 fun v30 H31 => ∃ n32 : Int, v30 = (.int .i64 n32) ∧ (
 Cells H31 b9 (0 + 3) 1 ∧ ∀ H33 : Heap, Puts H31 b9 (0 + 3) [(.int .i64 n32)] H33 → (
 Does Tryz.prog 29 [(.slice x0 x0l x0c), (.int .i64 3)] H33 fun v34 H35 => ∃ s36 : ByteArray, v34 = (.string s36) ∧ (
 Does Tryz.prog 52 [(.string s36)] H35 fun v37 H38 => ∃ f39 : Nat, v37 = (.float .f64 f39) ∧ (
 Cells H38 b9 (0 + 4) 1 ∧ ∀ H40 : Heap, Puts H38 b9 (0 + 4) [(.float .f64 f39)] H40 → (
 ∃ n41 : Int, hcell H40 b9 0 = some (.int .i64 n41) ∧ (
 ((((n41 : Int) = 2) → (
 Does Tryz.prog 29 [(.slice x0 x0l x0c), (.int .i64 4)] H40 fun v42 H43 => ∃ s44 : ByteArray, v42 = (.string s44) ∧ (
 Does Tryz.prog 32 [(.string s44)] H43 fun v45 H46 => ∃ a47 : Option Addr, ∃ l48 : Nat, ∃ c49 : Nat, v45 = (.slice a47 l48 c49) ∧ (
 Cells H46 b9 (0 + 7) 1 ∧ ∀ H50 : Heap, Puts H46 b9 (0 + 7) [(.slice a47 l48 c49)] H50 → (
 I25 H50))))) ∧ (¬ ((n41 : Int) = 2) → (
 I25 H40)))))))))))) ∧ (¬ ((n26 : Int) = 1) → (
 ((((n26 : Int) = 3) → (
 Does Tryz.prog 29 [(.slice x0 x0l x0c), (.int .i64 2)] H15 fun v51 H52 => ∃ s53 : ByteArray, v51 = (.string s53) ∧ (
 Does Tryz.prog 31 [(.string s53)] H52 fun v54 H55 => ∃ n56 : Int, v54 = (.int .i64 n56) ∧ (
 Cells H55 b9 (0 + 5) 1 ∧ ∀ H57 : Heap, Puts H55 b9 (0 + 5) [(.int .i64 n56)] H57 → (
 Does Tryz.prog 29 [(.slice x0 x0l x0c), (.int .i64 3)] H57 fun v58 H59 => ∃ s60 : ByteArray, v58 = (.string s60) ∧ (
 Does Tryz.prog 32 [(.string s60)] H59 fun v61 H62 => ∃ a63 : Option Addr, ∃ l64 : Nat, ∃ c65 : Nat, v61 = (.slice a63 l64 c65) ∧ (
 Cells H62 b9 (0 + 7) 1 ∧ ∀ H66 : Heap, Puts H62 b9 (0 + 7) [(.slice a63 l64 c65)] H66 → (
 I25 H66)))))))) ∧ (¬ ((n26 : Int) = 3) → (
 ((((n26 : Int) = 4) → (
 Does Tryz.prog 29 [(.slice x0 x0l x0c), (.int .i64 2)] H15 fun v67 H68 => ∃ s69 : ByteArray, v67 = (.string s69) ∧ (
 Does Tryz.prog 31 [(.string s69)] H68 fun v70 H71 => ∃ n72 : Int, v70 = (.int .i64 n72) ∧ (
 Cells H71 b9 (0 + 6) 1 ∧ ∀ H73 : Heap, Puts H71 b9 (0 + 6) [(.int .i64 n72)] H73 → (
 I25 H73))))) ∧ (¬ ((n26 : Int) = 4) → (
 ((((n26 : Int) = 7) → (
 Does Tryz.prog 29 [(.slice x0 x0l x0c), (.int .i64 2)] H15 fun v74 H75 => ∃ s76 : ByteArray, v74 = (.string s76) ∧ (
 Does Tryz.prog 52 [(.string s76)] H75 fun v77 H78 => ∃ f79 : Nat, v77 = (.float .f64 f79) ∧ (
 Cells H78 b9 (0 + 4) 1 ∧ ∀ H80 : Heap, Puts H78 b9 (0 + 4) [(.float .f64 f79)] H80 → (
 Does Tryz.prog 29 [(.slice x0 x0l x0c), (.int .i64 3)] H80 fun v81 H82 => ∃ s83 : ByteArray, v81 = (.string s83) ∧ (
 Does Tryz.prog 32 [(.string s83)] H82 fun v84 H85 => ∃ a86 : Option Addr, ∃ l87 : Nat, ∃ c88 : Nat, v84 = (.slice a86 l87 c88) ∧ (
 Cells H85 b9 (0 + 7) 1 ∧ ∀ H89 : Heap, Puts H85 b9 (0 + 7) [(.slice a86 l87 c88)] H89 → (
 I25 H89)))))))) ∧ (¬ ((n26 : Int) = 7) → (
 ((((n26 : Int) = 9) → (
 Does Tryz.prog 29 [(.slice x0 x0l x0c), (.int .i64 2)] H15 fun v90 H91 => ∃ s92 : ByteArray, v90 = (.string s92) ∧ (
 Does Tryz.prog 28 [(.string s92)] H91 fun v93 H94 => ∃ s95 : ByteArray, v93 = (.string s95) ∧ (
 Cells H94 b9 (0 + 2) 1 ∧ ∀ H96 : Heap, Puts H94 b9 (0 + 2) [(.string s95)] H96 → (
 I25 H96))))) ∧ (¬ ((n26 : Int) = 9) → (
 ((((n26 : Int) = 10) → (
 Does Tryz.prog 29 [(.slice x0 x0l x0c), (.int .i64 2)] H15 fun v97 H98 => ∃ s99 : ByteArray, v97 = (.string s99) ∧ (
 Does Tryz.prog 31 [(.string s99)] H98 fun v100 H101 => ∃ n102 : Int, v100 = (.int .i64 n102) ∧ (
 Cells H101 b9 (0 + 3) 1 ∧ ∀ H103 : Heap, Puts H101 b9 (0 + 3) [(.int .i64 n102)] H103 → (
 I25 H103))))) ∧ (¬ ((n26 : Int) = 10) → (
 ((((n26 : Int) = 11) → (
 Does Tryz.prog 29 [(.slice x0 x0l x0c), (.int .i64 2)] H15 fun v104 H105 => ∃ s106 : ByteArray, v104 = (.string s106) ∧ (
 Does Tryz.prog 52 [(.string s106)] H105 fun v107 H108 => ∃ f109 : Nat, v107 = (.float .f64 f109) ∧ (
 Cells H108 b9 (0 + 4) 1 ∧ ∀ H110 : Heap, Puts H108 b9 (0 + 4) [(.float .f64 f109)] H110 → (
 I25 H110))))) ∧ (¬ ((n26 : Int) = 11) → (
 ((((n26 : Int) = 14) → (
 Does Tryz.prog 29 [(.slice x0 x0l x0c), (.int .i64 2)] H15 fun v111 H112 => ∃ s113 : ByteArray, v111 = (.string s113) ∧ (
 Does Tryz.prog 31 [(.string s113)] H112 fun v114 H115 => ∃ n116 : Int, v114 = (.int .i64 n116) ∧ (
 Cells H115 b9 (0 + 5) 1 ∧ ∀ H117 : Heap, Puts H115 b9 (0 + 5) [(.int .i64 n116)] H117 → (
 Does Tryz.prog 29 [(.slice x0 x0l x0c), (.int .i64 3)] H117 fun v118 H119 => ∃ s120 : ByteArray, v118 = (.string s120) ∧ (
 Does Tryz.prog 31 [(.string s120)] H119 fun v121 H122 => ∃ n123 : Int, v121 = (.int .i64 n123) ∧ (
 Cells H122 b9 (0 + 6) 1 ∧ ∀ H124 : Heap, Puts H122 b9 (0 + 6) [(.int .i64 n123)] H124 → (
 I25 H124)))))))) ∧ (¬ ((n26 : Int) = 14) → (
 I25 H15)))))))))))))))))))))))))) ∧ (¬ ((n26 : Int) = 1) → (
 ((((n26 : Int) = 2) → (
 Does Tryz.prog 29 [(.slice x0 x0l x0c), (.int .i64 2)] H15 fun v125 H126 => ∃ s127 : ByteArray, v125 = (.string s127) ∧ (
 Does Tryz.prog 31 [(.string s127)] H126 fun v128 H129 => ∃ n130 : Int, v128 = (.int .i64 n130) ∧ (
 Cells H129 b9 (0 + 3) 1 ∧ ∀ H131 : Heap, Puts H129 b9 (0 + 3) [(.int .i64 n130)] H131 → (
 Does Tryz.prog 29 [(.slice x0 x0l x0c), (.int .i64 3)] H131 fun v132 H133 => ∃ s134 : ByteArray, v132 = (.string s134) ∧ (
 Does Tryz.prog 52 [(.string s134)] H133 fun v135 H136 => ∃ f137 : Nat, v135 = (.float .f64 f137) ∧ (
 Cells H136 b9 (0 + 4) 1 ∧ ∀ H138 : Heap, Puts H136 b9 (0 + 4) [(.float .f64 f137)] H138 → (
 ∃ n139 : Int, hcell H138 b9 0 = some (.int .i64 n139) ∧ (
 ((((n139 : Int) = 2) → (
 Does Tryz.prog 29 [(.slice x0 x0l x0c), (.int .i64 4)] H138 fun v140 H141 => ∃ s142 : ByteArray, v140 = (.string s142) ∧ (
 Does Tryz.prog 32 [(.string s142)] H141 fun v143 H144 => ∃ a145 : Option Addr, ∃ l146 : Nat, ∃ c147 : Nat, v143 = (.slice a145 l146 c147) ∧ (
 Cells H144 b9 (0 + 7) 1 ∧ ∀ H148 : Heap, Puts H144 b9 (0 + 7) [(.slice a145 l146 c147)] H148 → (
 I25 H148))))) ∧ (¬ ((n139 : Int) = 2) → (
 I25 H138)))))))))))) ∧ (¬ ((n26 : Int) = 2) → (
 ((((n26 : Int) = 3) → (
 Does Tryz.prog 29 [(.slice x0 x0l x0c), (.int .i64 2)] H15 fun v149 H150 => ∃ s151 : ByteArray, v149 = (.string s151) ∧ (
 Does Tryz.prog 31 [(.string s151)] H150 fun v152 H153 => ∃ n154 : Int, v152 = (.int .i64 n154) ∧ (
 Cells H153 b9 (0 + 5) 1 ∧ ∀ H155 : Heap, Puts H153 b9 (0 + 5) [(.int .i64 n154)] H155 → (
 Does Tryz.prog 29 [(.slice x0 x0l x0c), (.int .i64 3)] H155 fun v156 H157 => ∃ s158 : ByteArray, v156 = (.string s158) ∧ (
 Does Tryz.prog 32 [(.string s158)] H157 fun v159 H160 => ∃ a161 : Option Addr, ∃ l162 : Nat, ∃ c163 : Nat, v159 = (.slice a161 l162 c163) ∧ (
 Cells H160 b9 (0 + 7) 1 ∧ ∀ H164 : Heap, Puts H160 b9 (0 + 7) [(.slice a161 l162 c163)] H164 → (
 I25 H164)))))))) ∧ (¬ ((n26 : Int) = 3) → (
 ((((n26 : Int) = 4) → (
 Does Tryz.prog 29 [(.slice x0 x0l x0c), (.int .i64 2)] H15 fun v165 H166 => ∃ s167 : ByteArray, v165 = (.string s167) ∧ (
 Does Tryz.prog 31 [(.string s167)] H166 fun v168 H169 => ∃ n170 : Int, v168 = (.int .i64 n170) ∧ (
 Cells H169 b9 (0 + 6) 1 ∧ ∀ H171 : Heap, Puts H169 b9 (0 + 6) [(.int .i64 n170)] H171 → (
 I25 H171))))) ∧ (¬ ((n26 : Int) = 4) → (
 ((((n26 : Int) = 7) → (
 Does Tryz.prog 29 [(.slice x0 x0l x0c), (.int .i64 2)] H15 fun v172 H173 => ∃ s174 : ByteArray, v172 = (.string s174) ∧ (
 Does Tryz.prog 52 [(.string s174)] H173 fun v175 H176 => ∃ f177 : Nat, v175 = (.float .f64 f177) ∧ (
 Cells H176 b9 (0 + 4) 1 ∧ ∀ H178 : Heap, Puts H176 b9 (0 + 4) [(.float .f64 f177)] H178 → (
 Does Tryz.prog 29 [(.slice x0 x0l x0c), (.int .i64 3)] H178 fun v179 H180 => ∃ s181 : ByteArray, v179 = (.string s181) ∧ (
 Does Tryz.prog 32 [(.string s181)] H180 fun v182 H183 => ∃ a184 : Option Addr, ∃ l185 : Nat, ∃ c186 : Nat, v182 = (.slice a184 l185 c186) ∧ (
 Cells H183 b9 (0 + 7) 1 ∧ ∀ H187 : Heap, Puts H183 b9 (0 + 7) [(.slice a184 l185 c186)] H187 → (
 I25 H187)))))))) ∧ (¬ ((n26 : Int) = 7) → (
 ((((n26 : Int) = 9) → (
 Does Tryz.prog 29 [(.slice x0 x0l x0c), (.int .i64 2)] H15 fun v188 H189 => ∃ s190 : ByteArray, v188 = (.string s190) ∧ (
 Does Tryz.prog 28 [(.string s190)] H189 fun v191 H192 => ∃ s193 : ByteArray, v191 = (.string s193) ∧ (
 Cells H192 b9 (0 + 2) 1 ∧ ∀ H194 : Heap, Puts H192 b9 (0 + 2) [(.string s193)] H194 → (
 I25 H194))))) ∧ (¬ ((n26 : Int) = 9) → (
 ((((n26 : Int) = 10) → (
 Does Tryz.prog 29 [(.slice x0 x0l x0c), (.int .i64 2)] H15 fun v195 H196 => ∃ s197 : ByteArray, v195 = (.string s197) ∧ (
 Does Tryz.prog 31 [(.string s197)] H196 fun v198 H199 => ∃ n200 : Int, v198 = (.int .i64 n200) ∧ (
 Cells H199 b9 (0 + 3) 1 ∧ ∀ H201 : Heap, Puts H199 b9 (0 + 3) [(.int .i64 n200)] H201 → (
 I25 H201))))) ∧ (¬ ((n26 : Int) = 10) → (
 ((((n26 : Int) = 11) → (
 Does Tryz.prog 29 [(.slice x0 x0l x0c), (.int .i64 2)] H15 fun v202 H203 => ∃ s204 : ByteArray, v202 = (.string s204) ∧ (
 Does Tryz.prog 52 [(.string s204)] H203 fun v205 H206 => ∃ f207 : Nat, v205 = (.float .f64 f207) ∧ (
 Cells H206 b9 (0 + 4) 1 ∧ ∀ H208 : Heap, Puts H206 b9 (0 + 4) [(.float .f64 f207)] H208 → (
 I25 H208))))) ∧ (¬ ((n26 : Int) = 11) → (
 ((((n26 : Int) = 14) → (
 Does Tryz.prog 29 [(.slice x0 x0l x0c), (.int .i64 2)] H15 fun v209 H210 => ∃ s211 : ByteArray, v209 = (.string s211) ∧ (
 Does Tryz.prog 31 [(.string s211)] H210 fun v212 H213 => ∃ n214 : Int, v212 = (.int .i64 n214) ∧ (
 Cells H213 b9 (0 + 5) 1 ∧ ∀ H215 : Heap, Puts H213 b9 (0 + 5) [(.int .i64 n214)] H215 → (
 Does Tryz.prog 29 [(.slice x0 x0l x0c), (.int .i64 3)] H215 fun v216 H217 => ∃ s218 : ByteArray, v216 = (.string s218) ∧ (
 Does Tryz.prog 31 [(.string s218)] H217 fun v219 H220 => ∃ n221 : Int, v219 = (.int .i64 n221) ∧ (
 Cells H220 b9 (0 + 6) 1 ∧ ∀ H222 : Heap, Puts H220 b9 (0 + 6) [(.int .i64 n221)] H222 → (
 I25 H222)))))))) ∧ (¬ ((n26 : Int) = 14) → (
 I25 H15))))))))))))))))))))))))))))) ∧
 ∀ H223 : Heap, I25 H223 → (
 ∃ n224 : Int, hcell H223 b9 0 = some (.int .i64 n224) ∧ (
 ∃ s225 : ByteArray, hcell H223 b9 (0 + 1) = some (.string s225) ∧ (
 ∃ s226 : ByteArray, hcell H223 b9 ((0 + 1) + 1) = some (.string s226) ∧ (
 ∃ n227 : Int, hcell H223 b9 (((0 + 1) + 1) + 1) = some (.int .i64 n227) ∧ (
 ∃ f228 : Nat, hcell H223 b9 ((((0 + 1) + 1) + 1) + 1) = some (.float .f64 f228) ∧ (
 ∃ n229 : Int, hcell H223 b9 (((((0 + 1) + 1) + 1) + 1) + 1) = some (.int .i64 n229) ∧ (
 ∃ n230 : Int, hcell H223 b9 ((((((0 + 1) + 1) + 1) + 1) + 1) + 1) = some (.int .i64 n230) ∧ (
 ∃ a231 : Option Addr, ∃ l232 : Nat, ∃ c233 : Nat, hcell H223 b9 (((((((0 + 1) + 1) + 1) + 1) + 1) + 1) + 1) = some (.slice a231 l232 c233) ∧ (
 Cells H223 b1 0 8 ∧ ∀ H234 : Heap, Puts H223 b1 0 [(.int .i64 n224), (.string s225), (.string s226), (.int .i64 n227), (.float .f64 f228), (.int .i64 n229), (.int .i64 n230), (.slice a231 l232 c233)] H234 → (
 ∃ n235 : Int, hcell H234 b1 0 = some (.int .i64 n235) ∧ (
 ∃ s236 : ByteArray, hcell H234 b1 (0 + 1) = some (.string s236) ∧ (
 ∃ s237 : ByteArray, hcell H234 b1 ((0 + 1) + 1) = some (.string s237) ∧ (
 ∃ n238 : Int, hcell H234 b1 (((0 + 1) + 1) + 1) = some (.int .i64 n238) ∧ (
 ∃ f239 : Nat, hcell H234 b1 ((((0 + 1) + 1) + 1) + 1) = some (.float .f64 f239) ∧ (
 ∃ n240 : Int, hcell H234 b1 (((((0 + 1) + 1) + 1) + 1) + 1) = some (.int .i64 n240) ∧ (
 ∃ n241 : Int, hcell H234 b1 ((((((0 + 1) + 1) + 1) + 1) + 1) + 1) = some (.int .i64 n241) ∧ (
 ∃ a242 : Option Addr, ∃ l243 : Nat, ∃ c244 : Nat, hcell H234 b1 (((((((0 + 1) + 1) + 1) + 1) + 1) + 1) + 1) = some (.slice a242 l243 c244) ∧ (
 R (.agg #[(.int .i64 n235), (.string s236), (.string s237), (.int .i64 n238), (.float .f64 f239), (.int .i64 n240), (.int .i64 n241), (.slice a242 l243 c244)]) H234)))))))))))))))))))))))))))) := by kernel_rfl


/-- pentimento/pentimentoref21.words -/
theorem RWordsV (x0 : ByteArray) (H : Heap) (R : Value → Heap → Prop) : Walk Tryz.prog 27 [(5, [(3, (.slice none 0 0)), (4, (.string (ByteArray.mk #[])))])] [(.string x0)] H R = (
 ∃ I1 : Option Addr → Nat → Nat → ByteArray → Int → Heap → Prop, ∃ μ2 : Option Addr → Nat → Nat → ByteArray → Int → Heap → Nat, (I1 none 0 0 (ByteArray.mk #[]) 0 H) ∧
 ∀ a3 : Option Addr, ∀ l4 : Nat, ∀ c5 : Nat, ∀ s6 : ByteArray, ∀ n7 : Int, ∀ H8 : Heap, I1 a3 l4 c5 s6 n7 H8 → (
 ((((n7 : Int) < (ByteArray.size x0 : Int)) → (
 ∃ I9 : Option Addr → Nat → Nat → ByteArray → Heap → Prop, (
 (0 : Int) ≤ n7 ∧ (n7 : Int) < (ByteArray.size x0 : Int) ∧ ∀ q10 : Int, q10 = (((ByteArray.data x0).toList.getD (Int.toNat n7) 0).toNat : Int) → (
 ((((q10 : Int) = 32) → (
 ∀ b11 : Nat, ∀ H12 : Heap, New H8 b11 [(.string s6)] 9 H12 → (
 ∃ old13 new14 : List Value, SRow H12 1 l4 (.slice a3 l4 c5) old13 ∧ SRow H12 1 1 (.slice (some (⟨b11, 0, none⟩ : Addr)) 1 1) new14 ∧ (∀ u ∈ new14, Value.oneCell' u = true) ∧ (l4 + 1) * 16 ≤ 140737488355328 ∧ (l4 + 1 ≤ c5 → roomOf H12 a3 (l4 * 1) (1 * 1)) ∧ ∀ a15 : Option Addr, ∀ c16 : Nat, ∀ H17 : Heap, App H12 1 9 [(.string (ByteArray.mk #[]))] a3 l4 c5 old13 new14 1 a15 c16 H17 → (
 I9 a15 (l4 + 1) c16 (ByteArray.mk #[]) H17)))) ∧ (¬ ((q10 : Int) = 32) → (
 (In64 (n7 + 1)) ∧
 (0 : Int) ≤ n7 ∧ (n7 : Int) ≤ (n7 + 1) ∧ ((n7 + 1) : Int) ≤ ((ByteArray.size x0) : Int) ∧ (
 (In64 (((ByteArray.size s6) + (ByteArray.size (ByteArray.extract x0 (Int.toNat n7) (Int.toNat (n7 + 1)))) : Nat) : Int)) ∧
 I9 a3 l4 c5 (s6 ++ (ByteArray.extract x0 (Int.toNat n7) (Int.toNat (n7 + 1)))) H8)))))) ∧
 ∀ a18 : Option Addr, ∀ l19 : Nat, ∀ c20 : Nat, ∀ s21 : ByteArray, ∀ H22 : Heap, I9 a18 l19 c20 s21 H22 → (
 (In64 (n7 + 1)) ∧
 (I1 a18 l19 c20 s21 (n7 + 1) H22) ∧ μ2 a18 l19 c20 s21 (n7 + 1) H22 < μ2 a3 l4 c5 s6 n7 H8))) ∧ (¬ ((n7 : Int) < (ByteArray.size x0 : Int)) → (
 ∀ b23 : Nat, ∀ H24 : Heap, New H8 b23 [(.string s6)] 9 H24 → (
 ∃ old25 new26 : List Value, SRow H24 1 l4 (.slice a3 l4 c5) old25 ∧ SRow H24 1 1 (.slice (some (⟨b23, 0, none⟩ : Addr)) 1 1) new26 ∧ (∀ u ∈ new26, Value.oneCell' u = true) ∧ (l4 + 1) * 16 ≤ 140737488355328 ∧ (l4 + 1 ≤ c5 → roomOf H24 a3 (l4 * 1) (1 * 1)) ∧ ∀ a27 : Option Addr, ∀ c28 : Nat, ∀ H29 : Heap, App H24 1 9 [(.string (ByteArray.mk #[]))] a3 l4 c5 old25 new26 1 a27 c28 H29 → (
 R (.slice a27 (l4 + 1) c28) H29))))))) := by kernel_rfl


/-- pentimento/pentimentoref21.Parse -/
theorem RParseEV (x0 : ByteArray) (H : Heap) (R : Value → Heap → Prop) : Walk Tryz.prog 10 [(5, []), (29, [])] [(.string x0)] H R = (
 ∀ b1 : Nat, ∀ H2 : Heap, New H b1 [(.int .i64 0), (.string (ByteArray.mk #[])), (.string (ByteArray.mk #[])), (.string (ByteArray.mk #[])), (.int .i64 0), (.string (ByteArray.mk #[])), (.string (ByteArray.mk #[])), (.int .i64 0), (.float .f64 0), (.int .i64 0), (.int .i64 0), (.slice none 0 0), (.int .i64 0), (.slice none 0 0)] 33 H2 → (
 Does Tryz.prog 27 [(.string x0)] H2 fun v3 H4 => ∃ a5 : Option Addr, ∃ l6 : Nat, ∃ c7 : Nat, v3 = (.slice a5 l6 c7) ∧ (
 ∀ b8 : Nat, ∀ H9 : Heap, New H4 b8 [(.int .i64 0), (.string (ByteArray.mk #[])), (.string (ByteArray.mk #[])), (.string (ByteArray.mk #[])), (.int .i64 0), (.string (ByteArray.mk #[])), (.string (ByteArray.mk #[])), (.int .i64 0), (.float .f64 0), (.int .i64 0), (.int .i64 0), (.slice none 0 0), (.int .i64 0), (.slice none 0 0)] 33 H9 → (
 ∃ I10 : Int → Heap → Prop, ∃ μ11 : Int → Heap → Nat, (I10 1 H9) ∧
 ∀ n12 : Int, ∀ H13 : Heap, I10 n12 H13 → (
 ((((n12 : Int) ≤ 11) → (
 ∃ I14 : Heap → Prop, (
 (0 : Int) ≤ 0 ∧ (0 : Int) < (l6 : Int) ∧ ∃ b15 o16 : Nat, a5 = some (⟨b15, o16, none⟩ : Addr) ∧ (
 ∃ s17 : ByteArray, hcell H13 b15 (o16 + (Int.toNat 0)) = some (.string s17) ∧ (
 Does Tryz.prog 16 [(.int .i64 n12)] H13 fun v18 H19 => ∃ s20 : ByteArray, v18 = (.string s20) ∧ (
 isL H19 b15 (o16 + (Int.toNat 0)) [(.string s17)] ∧ (((((s20 : ByteArray) = s17) → (
 Cells H19 b8 0 1 ∧ ∀ H21 : Heap, Puts H19 b8 0 [(.int .i64 n12)] H21 → (
 I14 H21))) ∧ (¬ ((s20 : ByteArray) = s17) → (
 I14 H19)))))))) ∧
 ∀ H22 : Heap, I14 H22 → (
 (In64 (n12 + 1)) ∧
 (I10 (n12 + 1) H22) ∧ μ11 (n12 + 1) H22 < μ11 n12 H13))) ∧ (¬ ((n12 : Int) ≤ 11) → (
 ∃ I23 : Heap → Prop, (
 ∃ n24 : Int, hcell H13 b8 0 = some (.int .i64 n24) ∧ (
 ((((n24 : Int) = 1) → (
 Does Tryz.prog 29 [(.slice a5 l6 c7), (.int .i64 1)] H13 fun v25 H26 => ∃ s27 : ByteArray, v25 = (.string s27) ∧ (
 Does Tryz.prog 28 [(.string s27)] H26 fun v28 H29 => ∃ s30 : ByteArray, v28 = (.string s30) ∧ (
 Cells H29 b8 (0 + 1) 1 ∧ ∀ H31 : Heap, Puts H29 b8 (0 + 1) [(.string s30)] H31 → (
 (0 : Int) ≤ (min 2 (l6 : Int)) ∧ ((min 2 (l6 : Int)) : Int) ≤ (l6 : Int) ∧ ∀ a32 : Option Addr, a32 = (if c7 = (Int.toNat (min 2 (l6 : Int))) then a5 else Option.map (fun x => Addr.add x ((Int.toNat (min 2 (l6 : Int))) * 1)) a5) → (
 Does Tryz.prog 30 [(.slice a32 (l6 - (Int.toNat (min 2 (l6 : Int)))) (c7 - (Int.toNat (min 2 (l6 : Int)))))] H31 fun v33 H34 => ∃ n35 : Int, ∃ s36 : ByteArray, ∃ s37 : ByteArray, ∃ n38 : Int, ∃ f39 : Nat, ∃ n40 : Int, ∃ n41 : Int, ∃ a42 : Option Addr, ∃ l43 : Nat, ∃ c44 : Nat, v33 = (.agg #[(.int .i64 n35), (.string s36), (.string s37), (.int .i64 n38), (.float .f64 f39), (.int .i64 n40), (.int .i64 n41), (.slice a42 l43 c44)]) ∧ (
 Cells H34 b8 (0 + 4) 8 ∧ ∀ H45 : Heap, Puts H34 b8 (0 + 4) [(.int .i64 n35), (.string s36), (.string s37), (.int .i64 n38), (.float .f64 f39), (.int .i64 n40), (.int .i64 n41), (.slice a42 l43 c44)] H45 → (
 I23 H45)))))))) ∧ (¬ ((n24 : Int) = 1) → (
 ((((n24 : Int) = 2) → (
 ((((n24 : Int) = 2) → (
 Does Tryz.prog 29 [(.slice a5 l6 c7), (.int .i64 1)] H13 fun v46 H47 => ∃ s48 : ByteArray, v46 = (.string s48) ∧ (
 Does Tryz.prog 28 [(.string s48)] H47 fun v49 H50 => ∃ s51 : ByteArray, v49 = (.string s51) ∧ (
 Cells H50 b8 (0 + 1) 1 ∧ ∀ H52 : Heap, Puts H50 b8 (0 + 1) [(.string s51)] H52 → (
 Does Tryz.prog 29 [(.slice a5 l6 c7), (.int .i64 2)] H52 fun v53 H54 => ∃ s55 : ByteArray, v53 = (.string s55) ∧ (
 Does Tryz.prog 28 [(.string s55)] H54 fun v56 H57 => ∃ s58 : ByteArray, v56 = (.string s58) ∧ (
 Cells H57 b8 (0 + 2) 1 ∧ ∀ H59 : Heap, Puts H57 b8 (0 + 2) [(.string s58)] H59 → (
 I23 H59)))))))) ∧ (¬ ((n24 : Int) = 2) → (
 ((((n24 : Int) = 5) → (
 ((((n24 : Int) = 5) → (
 Does Tryz.prog 29 [(.slice a5 l6 c7), (.int .i64 1)] H13 fun v60 H61 => ∃ s62 : ByteArray, v60 = (.string s62) ∧ (
 Does Tryz.prog 28 [(.string s62)] H61 fun v63 H64 => ∃ s65 : ByteArray, v63 = (.string s65) ∧ (
 Cells H64 b8 (0 + 1) 1 ∧ ∀ H66 : Heap, Puts H64 b8 (0 + 1) [(.string s65)] H66 → (
 Does Tryz.prog 29 [(.slice a5 l6 c7), (.int .i64 2)] H66 fun v67 H68 => ∃ s69 : ByteArray, v67 = (.string s69) ∧ (
 Does Tryz.prog 28 [(.string s69)] H68 fun v70 H71 => ∃ s72 : ByteArray, v70 = (.string s72) ∧ (
 Cells H71 b8 (0 + 2) 1 ∧ ∀ H73 : Heap, Puts H71 b8 (0 + 2) [(.string s72)] H73 → (
 Does Tryz.prog 29 [(.slice a5 l6 c7), (.int .i64 3)] H73 fun v74 H75 => ∃ s76 : ByteArray, v74 = (.string s76) ∧ (
 Does Tryz.prog 28 [(.string s76)] H75 fun v77 H78 => ∃ s79 : ByteArray, v77 = (.string s79) ∧ (
 Cells H78 b8 (0 + 3) 1 ∧ ∀ H80 : Heap, Puts H78 b8 (0 + 3) [(.string s79)] H80 → (
 I23 H80))))))))))) ∧ (¬ ((n24 : Int) = 5) → (
 ((((n24 : Int) = 8) → (
 Does Tryz.prog 29 [(.slice a5 l6 c7), (.int .i64 1)] H13 fun v81 H82 => ∃ s83 : ByteArray, v81 = (.string s83) ∧ (
 Does Tryz.prog 28 [(.string s83)] H82 fun v84 H85 => ∃ s86 : ByteArray, v84 = (.string s86) ∧ (
 Cells H85 b8 (0 + 1) 1 ∧ ∀ H87 : Heap, Puts H85 b8 (0 + 1) [(.string s86)] H87 → (
 I23 H87))))) ∧ (¬ ((n24 : Int) = 8) → (
 ((((n24 : Int) = 10) → (
 Does Tryz.prog 29 [(.slice a5 l6 c7), (.int .i64 1)] H13 fun v88 H89 => ∃ s90 : ByteArray, v88 = (.string s90) ∧ (
 Does Tryz.prog 31 [(.string s90)] H89 fun v91 H92 => ∃ n93 : Int, v91 = (.int .i64 n93) ∧ (
 Cells H92 b8 (0 + 12) 1 ∧ ∀ H94 : Heap, Puts H92 b8 (0 + 12) [(.int .i64 n93)] H94 → (
 I23 H94))))) ∧ (¬ ((n24 : Int) = 10) → (
 ((((n24 : Int) = 11) → (
 Does Tryz.prog 29 [(.slice a5 l6 c7), (.int .i64 1)] H13 fun v95 H96 => ∃ s97 : ByteArray, v95 = (.string s97) ∧ (
 Does Tryz.prog 32 [(.string s97)] H96 fun v98 H99 => ∃ a100 : Option Addr, ∃ l101 : Nat, ∃ c102 : Nat, v98 = (.slice a100 l101 c102) ∧ (
 Cells H99 b8 (0 + 13) 1 ∧ ∀ H103 : Heap, Puts H99 b8 (0 + 13) [(.slice a100 l101 c102)] H103 → (
 I23 H103))))) ∧ (¬ ((n24 : Int) = 11) → (
 I23 H13)))))))))))))) ∧ (¬ ((n24 : Int) = 5) → (
 ((((n24 : Int) = 6) → (
 Does Tryz.prog 29 [(.slice a5 l6 c7), (.int .i64 1)] H13 fun v104 H105 => ∃ s106 : ByteArray, v104 = (.string s106) ∧ (
 Does Tryz.prog 28 [(.string s106)] H105 fun v107 H108 => ∃ s109 : ByteArray, v107 = (.string s109) ∧ (
 Cells H108 b8 (0 + 1) 1 ∧ ∀ H110 : Heap, Puts H108 b8 (0 + 1) [(.string s109)] H110 → (
 Does Tryz.prog 29 [(.slice a5 l6 c7), (.int .i64 2)] H110 fun v111 H112 => ∃ s113 : ByteArray, v111 = (.string s113) ∧ (
 Does Tryz.prog 28 [(.string s113)] H112 fun v114 H115 => ∃ s116 : ByteArray, v114 = (.string s116) ∧ (
 Cells H115 b8 (0 + 2) 1 ∧ ∀ H117 : Heap, Puts H115 b8 (0 + 2) [(.string s116)] H117 → (
 Does Tryz.prog 29 [(.slice a5 l6 c7), (.int .i64 3)] H117 fun v118 H119 => ∃ s120 : ByteArray, v118 = (.string s120) ∧ (
 Does Tryz.prog 28 [(.string s120)] H119 fun v121 H122 => ∃ s123 : ByteArray, v121 = (.string s123) ∧ (
 Cells H122 b8 (0 + 3) 1 ∧ ∀ H124 : Heap, Puts H122 b8 (0 + 3) [(.string s123)] H124 → (
 I23 H124))))))))))) ∧ (¬ ((n24 : Int) = 6) → (
 ((((n24 : Int) = 8) → (
 Does Tryz.prog 29 [(.slice a5 l6 c7), (.int .i64 1)] H13 fun v125 H126 => ∃ s127 : ByteArray, v125 = (.string s127) ∧ (
 Does Tryz.prog 28 [(.string s127)] H126 fun v128 H129 => ∃ s130 : ByteArray, v128 = (.string s130) ∧ (
 Cells H129 b8 (0 + 1) 1 ∧ ∀ H131 : Heap, Puts H129 b8 (0 + 1) [(.string s130)] H131 → (
 I23 H131))))) ∧ (¬ ((n24 : Int) = 8) → (
 ((((n24 : Int) = 10) → (
 Does Tryz.prog 29 [(.slice a5 l6 c7), (.int .i64 1)] H13 fun v132 H133 => ∃ s134 : ByteArray, v132 = (.string s134) ∧ (
 Does Tryz.prog 31 [(.string s134)] H133 fun v135 H136 => ∃ n137 : Int, v135 = (.int .i64 n137) ∧ (
 Cells H136 b8 (0 + 12) 1 ∧ ∀ H138 : Heap, Puts H136 b8 (0 + 12) [(.int .i64 n137)] H138 → (
 I23 H138))))) ∧ (¬ ((n24 : Int) = 10) → (
 ((((n24 : Int) = 11) → (
 Does Tryz.prog 29 [(.slice a5 l6 c7), (.int .i64 1)] H13 fun v139 H140 => ∃ s141 : ByteArray, v139 = (.string s141) ∧ (
 Does Tryz.prog 32 [(.string s141)] H140 fun v142 H143 => ∃ a144 : Option Addr, ∃ l145 : Nat, ∃ c146 : Nat, v142 = (.slice a144 l145 c146) ∧ (
 Cells H143 b8 (0 + 13) 1 ∧ ∀ H147 : Heap, Puts H143 b8 (0 + 13) [(.slice a144 l145 c146)] H147 → (
 I23 H147))))) ∧ (¬ ((n24 : Int) = 11) → (
 I23 H13)))))))))))))))))))) ∧ (¬ ((n24 : Int) = 2) → (
 ((((n24 : Int) = 3) → (
 ((((n24 : Int) = 3) → (
 Does Tryz.prog 29 [(.slice a5 l6 c7), (.int .i64 1)] H13 fun v148 H149 => ∃ s150 : ByteArray, v148 = (.string s150) ∧ (
 Does Tryz.prog 28 [(.string s150)] H149 fun v151 H152 => ∃ s153 : ByteArray, v151 = (.string s153) ∧ (
 Cells H152 b8 (0 + 1) 1 ∧ ∀ H154 : Heap, Puts H152 b8 (0 + 1) [(.string s153)] H154 → (
 Does Tryz.prog 29 [(.slice a5 l6 c7), (.int .i64 2)] H154 fun v155 H156 => ∃ s157 : ByteArray, v155 = (.string s157) ∧ (
 Does Tryz.prog 28 [(.string s157)] H156 fun v158 H159 => ∃ s160 : ByteArray, v158 = (.string s160) ∧ (
 Cells H159 b8 (0 + 2) 1 ∧ ∀ H161 : Heap, Puts H159 b8 (0 + 2) [(.string s160)] H161 → (
 I23 H161)))))))) ∧ (¬ ((n24 : Int) = 3) → (
 ((((n24 : Int) = 5) → (
 ((((n24 : Int) = 5) → (
 Does Tryz.prog 29 [(.slice a5 l6 c7), (.int .i64 1)] H13 fun v162 H163 => ∃ s164 : ByteArray, v162 = (.string s164) ∧ (
 Does Tryz.prog 28 [(.string s164)] H163 fun v165 H166 => ∃ s167 : ByteArray, v165 = (.string s167) ∧ (
 Cells H166 b8 (0 + 1) 1 ∧ ∀ H168 : Heap, Puts H166 b8 (0 + 1) [(.string s167)] H168 → (
 Does Tryz.prog 29 [(.slice a5 l6 c7), (.int .i64 2)] H168 fun v169 H170 => ∃ s171 : ByteArray, v169 = (.string s171) ∧ (
 Does Tryz.prog 28 [(.string s171)] H170 fun v172 H173 => ∃ s174 : ByteArray, v172 = (.string s174) ∧ (
 Cells H173 b8 (0 + 2) 1 ∧ ∀ H175 : Heap, Puts H173 b8 (0 + 2) [(.string s174)] H175 → (
 Does Tryz.prog 29 [(.slice a5 l6 c7), (.int .i64 3)] H175 fun v176 H177 => ∃ s178 : ByteArray, v176 = (.string s178) ∧ (
 Does Tryz.prog 28 [(.string s178)] H177 fun v179 H180 => ∃ s181 : ByteArray, v179 = (.string s181) ∧ (
 Cells H180 b8 (0 + 3) 1 ∧ ∀ H182 : Heap, Puts H180 b8 (0 + 3) [(.string s181)] H182 → (
 I23 H182))))))))))) ∧ (¬ ((n24 : Int) = 5) → (
 ((((n24 : Int) = 8) → (
 Does Tryz.prog 29 [(.slice a5 l6 c7), (.int .i64 1)] H13 fun v183 H184 => ∃ s185 : ByteArray, v183 = (.string s185) ∧ (
 Does Tryz.prog 28 [(.string s185)] H184 fun v186 H187 => ∃ s188 : ByteArray, v186 = (.string s188) ∧ (
 Cells H187 b8 (0 + 1) 1 ∧ ∀ H189 : Heap, Puts H187 b8 (0 + 1) [(.string s188)] H189 → (
 I23 H189))))) ∧ (¬ ((n24 : Int) = 8) → (
 ((((n24 : Int) = 10) → (
 Does Tryz.prog 29 [(.slice a5 l6 c7), (.int .i64 1)] H13 fun v190 H191 => ∃ s192 : ByteArray, v190 = (.string s192) ∧ (
 Does Tryz.prog 31 [(.string s192)] H191 fun v193 H194 => ∃ n195 : Int, v193 = (.int .i64 n195) ∧ (
 Cells H194 b8 (0 + 12) 1 ∧ ∀ H196 : Heap, Puts H194 b8 (0 + 12) [(.int .i64 n195)] H196 → (
 I23 H196))))) ∧ (¬ ((n24 : Int) = 10) → (
 ((((n24 : Int) = 11) → (
 Does Tryz.prog 29 [(.slice a5 l6 c7), (.int .i64 1)] H13 fun v197 H198 => ∃ s199 : ByteArray, v197 = (.string s199) ∧ (
 Does Tryz.prog 32 [(.string s199)] H198 fun v200 H201 => ∃ a202 : Option Addr, ∃ l203 : Nat, ∃ c204 : Nat, v200 = (.slice a202 l203 c204) ∧ (
 Cells H201 b8 (0 + 13) 1 ∧ ∀ H205 : Heap, Puts H201 b8 (0 + 13) [(.slice a202 l203 c204)] H205 → (
 I23 H205))))) ∧ (¬ ((n24 : Int) = 11) → (
 I23 H13)))))))))))))) ∧ (¬ ((n24 : Int) = 5) → (
 ((((n24 : Int) = 6) → (
 Does Tryz.prog 29 [(.slice a5 l6 c7), (.int .i64 1)] H13 fun v206 H207 => ∃ s208 : ByteArray, v206 = (.string s208) ∧ (
 Does Tryz.prog 28 [(.string s208)] H207 fun v209 H210 => ∃ s211 : ByteArray, v209 = (.string s211) ∧ (
 Cells H210 b8 (0 + 1) 1 ∧ ∀ H212 : Heap, Puts H210 b8 (0 + 1) [(.string s211)] H212 → (
 Does Tryz.prog 29 [(.slice a5 l6 c7), (.int .i64 2)] H212 fun v213 H214 => ∃ s215 : ByteArray, v213 = (.string s215) ∧ (
 Does Tryz.prog 28 [(.string s215)] H214 fun v216 H217 => ∃ s218 : ByteArray, v216 = (.string s218) ∧ (
 Cells H217 b8 (0 + 2) 1 ∧ ∀ H219 : Heap, Puts H217 b8 (0 + 2) [(.string s218)] H219 → (
 Does Tryz.prog 29 [(.slice a5 l6 c7), (.int .i64 3)] H219 fun v220 H221 => ∃ s222 : ByteArray, v220 = (.string s222) ∧ (
 Does Tryz.prog 28 [(.string s222)] H221 fun v223 H224 => ∃ s225 : ByteArray, v223 = (.string s225) ∧ (
 Cells H224 b8 (0 + 3) 1 ∧ ∀ H226 : Heap, Puts H224 b8 (0 + 3) [(.string s225)] H226 → (
 I23 H226))))))))))) ∧ (¬ ((n24 : Int) = 6) → (
 ((((n24 : Int) = 8) → (
 Does Tryz.prog 29 [(.slice a5 l6 c7), (.int .i64 1)] H13 fun v227 H228 => ∃ s229 : ByteArray, v227 = (.string s229) ∧ (
 Does Tryz.prog 28 [(.string s229)] H228 fun v230 H231 => ∃ s232 : ByteArray, v230 = (.string s232) ∧ (
 Cells H231 b8 (0 + 1) 1 ∧ ∀ H233 : Heap, Puts H231 b8 (0 + 1) [(.string s232)] H233 → (
 I23 H233))))) ∧ (¬ ((n24 : Int) = 8) → (
 ((((n24 : Int) = 10) → (
 Does Tryz.prog 29 [(.slice a5 l6 c7), (.int .i64 1)] H13 fun v234 H235 => ∃ s236 : ByteArray, v234 = (.string s236) ∧ (
 Does Tryz.prog 31 [(.string s236)] H235 fun v237 H238 => ∃ n239 : Int, v237 = (.int .i64 n239) ∧ (
 Cells H238 b8 (0 + 12) 1 ∧ ∀ H240 : Heap, Puts H238 b8 (0 + 12) [(.int .i64 n239)] H240 → (
 I23 H240))))) ∧ (¬ ((n24 : Int) = 10) → (
 ((((n24 : Int) = 11) → (
 Does Tryz.prog 29 [(.slice a5 l6 c7), (.int .i64 1)] H13 fun v241 H242 => ∃ s243 : ByteArray, v241 = (.string s243) ∧ (
 Does Tryz.prog 32 [(.string s243)] H242 fun v244 H245 => ∃ a246 : Option Addr, ∃ l247 : Nat, ∃ c248 : Nat, v244 = (.slice a246 l247 c248) ∧ (
 Cells H245 b8 (0 + 13) 1 ∧ ∀ H249 : Heap, Puts H245 b8 (0 + 13) [(.slice a246 l247 c248)] H249 → (
 I23 H249))))) ∧ (¬ ((n24 : Int) = 11) → (
 I23 H13)))))))))))))))))))) ∧ (¬ ((n24 : Int) = 3) → (
 ((((n24 : Int) = 4) → (
 ((((n24 : Int) = 4) → (
 Does Tryz.prog 29 [(.slice a5 l6 c7), (.int .i64 1)] H13 fun v250 H251 => ∃ s252 : ByteArray, v250 = (.string s252) ∧ (
 Does Tryz.prog 28 [(.string s252)] H251 fun v253 H254 => ∃ s255 : ByteArray, v253 = (.string s255) ∧ (
 Cells H254 b8 (0 + 1) 1 ∧ ∀ H256 : Heap, Puts H254 b8 (0 + 1) [(.string s255)] H256 → (
 Does Tryz.prog 29 [(.slice a5 l6 c7), (.int .i64 2)] H256 fun v257 H258 => ∃ s259 : ByteArray, v257 = (.string s259) ∧ (
 Does Tryz.prog 28 [(.string s259)] H258 fun v260 H261 => ∃ s262 : ByteArray, v260 = (.string s262) ∧ (
 Cells H261 b8 (0 + 2) 1 ∧ ∀ H263 : Heap, Puts H261 b8 (0 + 2) [(.string s262)] H263 → (
 I23 H263)))))))) ∧ (¬ ((n24 : Int) = 4) → (
 ((((n24 : Int) = 5) → (
 ((((n24 : Int) = 5) → (
 Does Tryz.prog 29 [(.slice a5 l6 c7), (.int .i64 1)] H13 fun v264 H265 => ∃ s266 : ByteArray, v264 = (.string s266) ∧ (
 Does Tryz.prog 28 [(.string s266)] H265 fun v267 H268 => ∃ s269 : ByteArray, v267 = (.string s269) ∧ (
 Cells H268 b8 (0 + 1) 1 ∧ ∀ H270 : Heap, Puts H268 b8 (0 + 1) [(.string s269)] H270 → (
 Does Tryz.prog 29 [(.slice a5 l6 c7), (.int .i64 2)] H270 fun v271 H272 => ∃ s273 : ByteArray, v271 = (.string s273) ∧ (
 Does Tryz.prog 28 [(.string s273)] H272 fun v274 H275 => ∃ s276 : ByteArray, v274 = (.string s276) ∧ (
 Cells H275 b8 (0 + 2) 1 ∧ ∀ H277 : Heap, Puts H275 b8 (0 + 2) [(.string s276)] H277 → (
 Does Tryz.prog 29 [(.slice a5 l6 c7), (.int .i64 3)] H277 fun v278 H279 => ∃ s280 : ByteArray, v278 = (.string s280) ∧ (
 Does Tryz.prog 28 [(.string s280)] H279 fun v281 H282 => ∃ s283 : ByteArray, v281 = (.string s283) ∧ (
 Cells H282 b8 (0 + 3) 1 ∧ ∀ H284 : Heap, Puts H282 b8 (0 + 3) [(.string s283)] H284 → (
 I23 H284))))))))))) ∧ (¬ ((n24 : Int) = 5) → (
 ((((n24 : Int) = 8) → (
 Does Tryz.prog 29 [(.slice a5 l6 c7), (.int .i64 1)] H13 fun v285 H286 => ∃ s287 : ByteArray, v285 = (.string s287) ∧ (
 Does Tryz.prog 28 [(.string s287)] H286 fun v288 H289 => ∃ s290 : ByteArray, v288 = (.string s290) ∧ (
 Cells H289 b8 (0 + 1) 1 ∧ ∀ H291 : Heap, Puts H289 b8 (0 + 1) [(.string s290)] H291 → (
 I23 H291))))) ∧ (¬ ((n24 : Int) = 8) → (
 ((((n24 : Int) = 10) → (
 Does Tryz.prog 29 [(.slice a5 l6 c7), (.int .i64 1)] H13 fun v292 H293 => ∃ s294 : ByteArray, v292 = (.string s294) ∧ (
 Does Tryz.prog 31 [(.string s294)] H293 fun v295 H296 => ∃ n297 : Int, v295 = (.int .i64 n297) ∧ (
 Cells H296 b8 (0 + 12) 1 ∧ ∀ H298 : Heap, Puts H296 b8 (0 + 12) [(.int .i64 n297)] H298 → (
 I23 H298))))) ∧ (¬ ((n24 : Int) = 10) → (
 ((((n24 : Int) = 11) → (
 Does Tryz.prog 29 [(.slice a5 l6 c7), (.int .i64 1)] H13 fun v299 H300 => ∃ s301 : ByteArray, v299 = (.string s301) ∧ (
 Does Tryz.prog 32 [(.string s301)] H300 fun v302 H303 => ∃ a304 : Option Addr, ∃ l305 : Nat, ∃ c306 : Nat, v302 = (.slice a304 l305 c306) ∧ (
 Cells H303 b8 (0 + 13) 1 ∧ ∀ H307 : Heap, Puts H303 b8 (0 + 13) [(.slice a304 l305 c306)] H307 → (
 I23 H307))))) ∧ (¬ ((n24 : Int) = 11) → (
 I23 H13)))))))))))))) ∧ (¬ ((n24 : Int) = 5) → (
 ((((n24 : Int) = 6) → (
 Does Tryz.prog 29 [(.slice a5 l6 c7), (.int .i64 1)] H13 fun v308 H309 => ∃ s310 : ByteArray, v308 = (.string s310) ∧ (
 Does Tryz.prog 28 [(.string s310)] H309 fun v311 H312 => ∃ s313 : ByteArray, v311 = (.string s313) ∧ (
 Cells H312 b8 (0 + 1) 1 ∧ ∀ H314 : Heap, Puts H312 b8 (0 + 1) [(.string s313)] H314 → (
 Does Tryz.prog 29 [(.slice a5 l6 c7), (.int .i64 2)] H314 fun v315 H316 => ∃ s317 : ByteArray, v315 = (.string s317) ∧ (
 Does Tryz.prog 28 [(.string s317)] H316 fun v318 H319 => ∃ s320 : ByteArray, v318 = (.string s320) ∧ (
 Cells H319 b8 (0 + 2) 1 ∧ ∀ H321 : Heap, Puts H319 b8 (0 + 2) [(.string s320)] H321 → (
 Does Tryz.prog 29 [(.slice a5 l6 c7), (.int .i64 3)] H321 fun v322 H323 => ∃ s324 : ByteArray, v322 = (.string s324) ∧ (
 Does Tryz.prog 28 [(.string s324)] H323 fun v325 H326 => ∃ s327 : ByteArray, v325 = (.string s327) ∧ (
 Cells H326 b8 (0 + 3) 1 ∧ ∀ H328 : Heap, Puts H326 b8 (0 + 3) [(.string s327)] H328 → (
 I23 H328))))))))))) ∧ (¬ ((n24 : Int) = 6) → (
 ((((n24 : Int) = 8) → (
 Does Tryz.prog 29 [(.slice a5 l6 c7), (.int .i64 1)] H13 fun v329 H330 => ∃ s331 : ByteArray, v329 = (.string s331) ∧ (
 Does Tryz.prog 28 [(.string s331)] H330 fun v332 H333 => ∃ s334 : ByteArray, v332 = (.string s334) ∧ (
 Cells H333 b8 (0 + 1) 1 ∧ ∀ H335 : Heap, Puts H333 b8 (0 + 1) [(.string s334)] H335 → (
 I23 H335))))) ∧ (¬ ((n24 : Int) = 8) → (
 ((((n24 : Int) = 10) → (
 Does Tryz.prog 29 [(.slice a5 l6 c7), (.int .i64 1)] H13 fun v336 H337 => ∃ s338 : ByteArray, v336 = (.string s338) ∧ (
 Does Tryz.prog 31 [(.string s338)] H337 fun v339 H340 => ∃ n341 : Int, v339 = (.int .i64 n341) ∧ (
 Cells H340 b8 (0 + 12) 1 ∧ ∀ H342 : Heap, Puts H340 b8 (0 + 12) [(.int .i64 n341)] H342 → (
 I23 H342))))) ∧ (¬ ((n24 : Int) = 10) → (
 ((((n24 : Int) = 11) → (
 Does Tryz.prog 29 [(.slice a5 l6 c7), (.int .i64 1)] H13 fun v343 H344 => ∃ s345 : ByteArray, v343 = (.string s345) ∧ (
 Does Tryz.prog 32 [(.string s345)] H344 fun v346 H347 => ∃ a348 : Option Addr, ∃ l349 : Nat, ∃ c350 : Nat, v346 = (.slice a348 l349 c350) ∧ (
 Cells H347 b8 (0 + 13) 1 ∧ ∀ H351 : Heap, Puts H347 b8 (0 + 13) [(.slice a348 l349 c350)] H351 → (
 I23 H351))))) ∧ (¬ ((n24 : Int) = 11) → (
 I23 H13)))))))))))))))))))) ∧ (¬ ((n24 : Int) = 4) → (
 ((((n24 : Int) = 7) → (
 Does Tryz.prog 29 [(.slice a5 l6 c7), (.int .i64 1)] H13 fun v352 H353 => ∃ s354 : ByteArray, v352 = (.string s354) ∧ (
 Does Tryz.prog 28 [(.string s354)] H353 fun v355 H356 => ∃ s357 : ByteArray, v355 = (.string s357) ∧ (
 Cells H356 b8 (0 + 1) 1 ∧ ∀ H358 : Heap, Puts H356 b8 (0 + 1) [(.string s357)] H358 → (
 Does Tryz.prog 29 [(.slice a5 l6 c7), (.int .i64 2)] H358 fun v359 H360 => ∃ s361 : ByteArray, v359 = (.string s361) ∧ (
 Does Tryz.prog 28 [(.string s361)] H360 fun v362 H363 => ∃ s364 : ByteArray, v362 = (.string s364) ∧ (
 Cells H363 b8 (0 + 2) 1 ∧ ∀ H365 : Heap, Puts H363 b8 (0 + 2) [(.string s364)] H365 → (
 I23 H365)))))))) ∧ (¬ ((n24 : Int) = 7) → (
 ((((n24 : Int) = 5) → (
 ((((n24 : Int) = 5) → (
 Does Tryz.prog 29 [(.slice a5 l6 c7), (.int .i64 1)] H13 fun v366 H367 => ∃ s368 : ByteArray, v366 = (.string s368) ∧ (
 Does Tryz.prog 28 [(.string s368)] H367 fun v369 H370 => ∃ s371 : ByteArray, v369 = (.string s371) ∧ (
 Cells H370 b8 (0 + 1) 1 ∧ ∀ H372 : Heap, Puts H370 b8 (0 + 1) [(.string s371)] H372 → (
 Does Tryz.prog 29 [(.slice a5 l6 c7), (.int .i64 2)] H372 fun v373 H374 => ∃ s375 : ByteArray, v373 = (.string s375) ∧ (
 Does Tryz.prog 28 [(.string s375)] H374 fun v376 H377 => ∃ s378 : ByteArray, v376 = (.string s378) ∧ (
 Cells H377 b8 (0 + 2) 1 ∧ ∀ H379 : Heap, Puts H377 b8 (0 + 2) [(.string s378)] H379 → (
 Does Tryz.prog 29 [(.slice a5 l6 c7), (.int .i64 3)] H379 fun v380 H381 => ∃ s382 : ByteArray, v380 = (.string s382) ∧ (
 Does Tryz.prog 28 [(.string s382)] H381 fun v383 H384 => ∃ s385 : ByteArray, v383 = (.string s385) ∧ (
 Cells H384 b8 (0 + 3) 1 ∧ ∀ H386 : Heap, Puts H384 b8 (0 + 3) [(.string s385)] H386 → (
 I23 H386))))))))))) ∧ (¬ ((n24 : Int) = 5) → (
 ((((n24 : Int) = 8) → (
 Does Tryz.prog 29 [(.slice a5 l6 c7), (.int .i64 1)] H13 fun v387 H388 => ∃ s389 : ByteArray, v387 = (.string s389) ∧ (
 Does Tryz.prog 28 [(.string s389)] H388 fun v390 H391 => ∃ s392 : ByteArray, v390 = (.string s392) ∧ (
 Cells H391 b8 (0 + 1) 1 ∧ ∀ H393 : Heap, Puts H391 b8 (0 + 1) [(.string s392)] H393 → (
 I23 H393))))) ∧ (¬ ((n24 : Int) = 8) → (
 ((((n24 : Int) = 10) → (
 Does Tryz.prog 29 [(.slice a5 l6 c7), (.int .i64 1)] H13 fun v394 H395 => ∃ s396 : ByteArray, v394 = (.string s396) ∧ (
 Does Tryz.prog 31 [(.string s396)] H395 fun v397 H398 => ∃ n399 : Int, v397 = (.int .i64 n399) ∧ (
 Cells H398 b8 (0 + 12) 1 ∧ ∀ H400 : Heap, Puts H398 b8 (0 + 12) [(.int .i64 n399)] H400 → (
 I23 H400))))) ∧ (¬ ((n24 : Int) = 10) → (
 ((((n24 : Int) = 11) → (
 Does Tryz.prog 29 [(.slice a5 l6 c7), (.int .i64 1)] H13 fun v401 H402 => ∃ s403 : ByteArray, v401 = (.string s403) ∧ (
 Does Tryz.prog 32 [(.string s403)] H402 fun v404 H405 => ∃ a406 : Option Addr, ∃ l407 : Nat, ∃ c408 : Nat, v404 = (.slice a406 l407 c408) ∧ (
 Cells H405 b8 (0 + 13) 1 ∧ ∀ H409 : Heap, Puts H405 b8 (0 + 13) [(.slice a406 l407 c408)] H409 → (
 I23 H409))))) ∧ (¬ ((n24 : Int) = 11) → (
 I23 H13)))))))))))))) ∧ (¬ ((n24 : Int) = 5) → (
 ((((n24 : Int) = 6) → (
 Does Tryz.prog 29 [(.slice a5 l6 c7), (.int .i64 1)] H13 fun v410 H411 => ∃ s412 : ByteArray, v410 = (.string s412) ∧ (
 Does Tryz.prog 28 [(.string s412)] H411 fun v413 H414 => ∃ s415 : ByteArray, v413 = (.string s415) ∧ (
 Cells H414 b8 (0 + 1) 1 ∧ ∀ H416 : Heap, Puts H414 b8 (0 + 1) [(.string s415)] H416 → (
 Does Tryz.prog 29 [(.slice a5 l6 c7), (.int .i64 2)] H416 fun v417 H418 => ∃ s419 : ByteArray, v417 = (.string s419) ∧ (
 Does Tryz.prog 28 [(.string s419)] H418 fun v420 H421 => ∃ s422 : ByteArray, v420 = (.string s422) ∧ (
 Cells H421 b8 (0 + 2) 1 ∧ ∀ H423 : Heap, Puts H421 b8 (0 + 2) [(.string s422)] H423 → (
 Does Tryz.prog 29 [(.slice a5 l6 c7), (.int .i64 3)] H423 fun v424 H425 => ∃ s426 : ByteArray, v424 = (.string s426) ∧ (
 Does Tryz.prog 28 [(.string s426)] H425 fun v427 H428 => ∃ s429 : ByteArray, v427 = (.string s429) ∧ (
 Cells H428 b8 (0 + 3) 1 ∧ ∀ H430 : Heap, Puts H428 b8 (0 + 3) [(.string s429)] H430 → (
 I23 H430))))))))))) ∧ (¬ ((n24 : Int) = 6) → (
 ((((n24 : Int) = 8) → (
 Does Tryz.prog 29 [(.slice a5 l6 c7), (.int .i64 1)] H13 fun v431 H432 => ∃ s433 : ByteArray, v431 = (.string s433) ∧ (
 Does Tryz.prog 28 [(.string s433)] H432 fun v434 H435 => ∃ s436 : ByteArray, v434 = (.string s436) ∧ (
 Cells H435 b8 (0 + 1) 1 ∧ ∀ H437 : Heap, Puts H435 b8 (0 + 1) [(.string s436)] H437 → (
 I23 H437))))) ∧ (¬ ((n24 : Int) = 8) → (
 ((((n24 : Int) = 10) → (
 Does Tryz.prog 29 [(.slice a5 l6 c7), (.int .i64 1)] H13 fun v438 H439 => ∃ s440 : ByteArray, v438 = (.string s440) ∧ (
 Does Tryz.prog 31 [(.string s440)] H439 fun v441 H442 => ∃ n443 : Int, v441 = (.int .i64 n443) ∧ (
 Cells H442 b8 (0 + 12) 1 ∧ ∀ H444 : Heap, Puts H442 b8 (0 + 12) [(.int .i64 n443)] H444 → (
 I23 H444))))) ∧ (¬ ((n24 : Int) = 10) → (
 ((((n24 : Int) = 11) → (
 Does Tryz.prog 29 [(.slice a5 l6 c7), (.int .i64 1)] H13 fun v445 H446 => ∃ s447 : ByteArray, v445 = (.string s447) ∧ (
 Does Tryz.prog 32 [(.string s447)] H446 fun v448 H449 => ∃ a450 : Option Addr, ∃ l451 : Nat, ∃ c452 : Nat, v448 = (.slice a450 l451 c452) ∧ (
 Cells H449 b8 (0 + 13) 1 ∧ ∀ H453 : Heap, Puts H449 b8 (0 + 13) [(.slice a450 l451 c452)] H453 → (
 I23 H453))))) ∧ (¬ ((n24 : Int) = 11) → (
 I23 H13)))))))))))))))))))))))))))))))) ∧
 ∀ H454 : Heap, I23 H454 → (
 ∃ n455 : Int, hcell H454 b8 0 = some (.int .i64 n455) ∧ (
 ∃ s456 : ByteArray, hcell H454 b8 (0 + 1) = some (.string s456) ∧ (
 ∃ s457 : ByteArray, hcell H454 b8 ((0 + 1) + 1) = some (.string s457) ∧ (
 ∃ s458 : ByteArray, hcell H454 b8 (((0 + 1) + 1) + 1) = some (.string s458) ∧ (
 ∃ n459 : Int, hcell H454 b8 ((((0 + 1) + 1) + 1) + 1) = some (.int .i64 n459) ∧ (
 ∃ s460 : ByteArray, hcell H454 b8 (((((0 + 1) + 1) + 1) + 1) + 1) = some (.string s460) ∧ (
 ∃ s461 : ByteArray, hcell H454 b8 ((((((0 + 1) + 1) + 1) + 1) + 1) + 1) = some (.string s461) ∧ (
 ∃ n462 : Int, hcell H454 b8 (((((((0 + 1) + 1) + 1) + 1) + 1) + 1) + 1) = some (.int .i64 n462) ∧ (
 ∃ f463 : Nat, hcell H454 b8 ((((((((0 + 1) + 1) + 1) + 1) + 1) + 1) + 1) + 1) = some (.float .f64 f463) ∧ (
 ∃ n464 : Int, hcell H454 b8 (((((((((0 + 1) + 1) + 1) + 1) + 1) + 1) + 1) + 1) + 1) = some (.int .i64 n464) ∧ (
 ∃ n465 : Int, hcell H454 b8 ((((((((((0 + 1) + 1) + 1) + 1) + 1) + 1) + 1) + 1) + 1) + 1) = some (.int .i64 n465) ∧ (
 ∃ a466 : Option Addr, ∃ l467 : Nat, ∃ c468 : Nat, hcell H454 b8 (((((((((((0 + 1) + 1) + 1) + 1) + 1) + 1) + 1) + 1) + 1) + 1) + 1) = some (.slice a466 l467 c468) ∧ (
 ∃ n469 : Int, hcell H454 b8 ((((((((((((0 + 1) + 1) + 1) + 1) + 1) + 1) + 1) + 1) + 1) + 1) + 1) + 1) = some (.int .i64 n469) ∧ (
 ∃ a470 : Option Addr, ∃ l471 : Nat, ∃ c472 : Nat, hcell H454 b8 (((((((((((((0 + 1) + 1) + 1) + 1) + 1) + 1) + 1) + 1) + 1) + 1) + 1) + 1) + 1) = some (.slice a470 l471 c472) ∧ (
 Does Tryz.prog 6 [(.agg #[(.int .i64 n455), (.string s456), (.string s457), (.string s458), (.int .i64 n459), (.string s460), (.string s461), (.int .i64 n462), (.float .f64 f463), (.int .i64 n464), (.int .i64 n465), (.slice a466 l467 c468), (.int .i64 n469), (.slice a470 l471 c472)])] H454 fun v473 H474 => ∃ s475 : ByteArray, ∃ t476 : Bool, v473 = (.tuple #[(.string s475), (.bool t476)]) ∧ (
 (((t476 = false) → (
 Cells H474 b1 0 14 ∧ ∀ H477 : Heap, Puts H474 b1 0 [(.int .i64 0), (.string (ByteArray.mk #[])), (.string (ByteArray.mk #[])), (.string (ByteArray.mk #[])), (.int .i64 0), (.string (ByteArray.mk #[])), (.string (ByteArray.mk #[])), (.int .i64 0), (.float .f64 0), (.int .i64 0), (.int .i64 0), (.slice none 0 0), (.int .i64 0), (.slice none 0 0)] H477 → (
 ∃ n478 : Int, hcell H477 b1 0 = some (.int .i64 n478) ∧ (
 ∃ s479 : ByteArray, hcell H477 b1 (0 + 1) = some (.string s479) ∧ (
 ∃ s480 : ByteArray, hcell H477 b1 ((0 + 1) + 1) = some (.string s480) ∧ (
 ∃ s481 : ByteArray, hcell H477 b1 (((0 + 1) + 1) + 1) = some (.string s481) ∧ (
 ∃ n482 : Int, hcell H477 b1 ((((0 + 1) + 1) + 1) + 1) = some (.int .i64 n482) ∧ (
 ∃ s483 : ByteArray, hcell H477 b1 (((((0 + 1) + 1) + 1) + 1) + 1) = some (.string s483) ∧ (
 ∃ s484 : ByteArray, hcell H477 b1 ((((((0 + 1) + 1) + 1) + 1) + 1) + 1) = some (.string s484) ∧ (
 ∃ n485 : Int, hcell H477 b1 (((((((0 + 1) + 1) + 1) + 1) + 1) + 1) + 1) = some (.int .i64 n485) ∧ (
 ∃ f486 : Nat, hcell H477 b1 ((((((((0 + 1) + 1) + 1) + 1) + 1) + 1) + 1) + 1) = some (.float .f64 f486) ∧ (
 ∃ n487 : Int, hcell H477 b1 (((((((((0 + 1) + 1) + 1) + 1) + 1) + 1) + 1) + 1) + 1) = some (.int .i64 n487) ∧ (
 ∃ n488 : Int, hcell H477 b1 ((((((((((0 + 1) + 1) + 1) + 1) + 1) + 1) + 1) + 1) + 1) + 1) = some (.int .i64 n488) ∧ (
 ∃ a489 : Option Addr, ∃ l490 : Nat, ∃ c491 : Nat, hcell H477 b1 (((((((((((0 + 1) + 1) + 1) + 1) + 1) + 1) + 1) + 1) + 1) + 1) + 1) = some (.slice a489 l490 c491) ∧ (
 ∃ n492 : Int, hcell H477 b1 ((((((((((((0 + 1) + 1) + 1) + 1) + 1) + 1) + 1) + 1) + 1) + 1) + 1) + 1) = some (.int .i64 n492) ∧ (
 ∃ a493 : Option Addr, ∃ l494 : Nat, ∃ c495 : Nat, hcell H477 b1 (((((((((((((0 + 1) + 1) + 1) + 1) + 1) + 1) + 1) + 1) + 1) + 1) + 1) + 1) + 1) = some (.slice a493 l494 c495) ∧ (
 R (.tuple #[(.agg #[(.int .i64 n478), (.string s479), (.string s480), (.string s481), (.int .i64 n482), (.string s483), (.string s484), (.int .i64 n485), (.float .f64 f486), (.int .i64 n487), (.int .i64 n488), (.slice a489 l490 c491), (.int .i64 n492), (.slice a493 l494 c495)]), (.bool false)]) H477))))))))))))))))) ∧ (¬ (t476 = false) → (
 ((((s475 : ByteArray) ≠ x0) → (
 Cells H474 b1 0 14 ∧ ∀ H496 : Heap, Puts H474 b1 0 [(.int .i64 0), (.string (ByteArray.mk #[])), (.string (ByteArray.mk #[])), (.string (ByteArray.mk #[])), (.int .i64 0), (.string (ByteArray.mk #[])), (.string (ByteArray.mk #[])), (.int .i64 0), (.float .f64 0), (.int .i64 0), (.int .i64 0), (.slice none 0 0), (.int .i64 0), (.slice none 0 0)] H496 → (
 ∃ n497 : Int, hcell H496 b1 0 = some (.int .i64 n497) ∧ (
 ∃ s498 : ByteArray, hcell H496 b1 (0 + 1) = some (.string s498) ∧ (
 ∃ s499 : ByteArray, hcell H496 b1 ((0 + 1) + 1) = some (.string s499) ∧ (
 ∃ s500 : ByteArray, hcell H496 b1 (((0 + 1) + 1) + 1) = some (.string s500) ∧ (
 ∃ n501 : Int, hcell H496 b1 ((((0 + 1) + 1) + 1) + 1) = some (.int .i64 n501) ∧ (
 ∃ s502 : ByteArray, hcell H496 b1 (((((0 + 1) + 1) + 1) + 1) + 1) = some (.string s502) ∧ (
 ∃ s503 : ByteArray, hcell H496 b1 ((((((0 + 1) + 1) + 1) + 1) + 1) + 1) = some (.string s503) ∧ (
 ∃ n504 : Int, hcell H496 b1 (((((((0 + 1) + 1) + 1) + 1) + 1) + 1) + 1) = some (.int .i64 n504) ∧ (
 ∃ f505 : Nat, hcell H496 b1 ((((((((0 + 1) + 1) + 1) + 1) + 1) + 1) + 1) + 1) = some (.float .f64 f505) ∧ (
 ∃ n506 : Int, hcell H496 b1 (((((((((0 + 1) + 1) + 1) + 1) + 1) + 1) + 1) + 1) + 1) = some (.int .i64 n506) ∧ (
 ∃ n507 : Int, hcell H496 b1 ((((((((((0 + 1) + 1) + 1) + 1) + 1) + 1) + 1) + 1) + 1) + 1) = some (.int .i64 n507) ∧ (
 ∃ a508 : Option Addr, ∃ l509 : Nat, ∃ c510 : Nat, hcell H496 b1 (((((((((((0 + 1) + 1) + 1) + 1) + 1) + 1) + 1) + 1) + 1) + 1) + 1) = some (.slice a508 l509 c510) ∧ (
 ∃ n511 : Int, hcell H496 b1 ((((((((((((0 + 1) + 1) + 1) + 1) + 1) + 1) + 1) + 1) + 1) + 1) + 1) + 1) = some (.int .i64 n511) ∧ (
 ∃ a512 : Option Addr, ∃ l513 : Nat, ∃ c514 : Nat, hcell H496 b1 (((((((((((((0 + 1) + 1) + 1) + 1) + 1) + 1) + 1) + 1) + 1) + 1) + 1) + 1) + 1) = some (.slice a512 l513 c514) ∧ (
 R (.tuple #[(.agg #[(.int .i64 n497), (.string s498), (.string s499), (.string s500), (.int .i64 n501), (.string s502), (.string s503), (.int .i64 n504), (.float .f64 f505), (.int .i64 n506), (.int .i64 n507), (.slice a508 l509 c510), (.int .i64 n511), (.slice a512 l513 c514)]), (.bool false)]) H496))))))))))))))))) ∧ (¬ ((s475 : ByteArray) ≠ x0) → (
 ∃ n515 : Int, hcell H474 b8 0 = some (.int .i64 n515) ∧ (
 ∃ s516 : ByteArray, hcell H474 b8 (0 + 1) = some (.string s516) ∧ (
 ∃ s517 : ByteArray, hcell H474 b8 ((0 + 1) + 1) = some (.string s517) ∧ (
 ∃ s518 : ByteArray, hcell H474 b8 (((0 + 1) + 1) + 1) = some (.string s518) ∧ (
 ∃ n519 : Int, hcell H474 b8 ((((0 + 1) + 1) + 1) + 1) = some (.int .i64 n519) ∧ (
 ∃ s520 : ByteArray, hcell H474 b8 (((((0 + 1) + 1) + 1) + 1) + 1) = some (.string s520) ∧ (
 ∃ s521 : ByteArray, hcell H474 b8 ((((((0 + 1) + 1) + 1) + 1) + 1) + 1) = some (.string s521) ∧ (
 ∃ n522 : Int, hcell H474 b8 (((((((0 + 1) + 1) + 1) + 1) + 1) + 1) + 1) = some (.int .i64 n522) ∧ (
 ∃ f523 : Nat, hcell H474 b8 ((((((((0 + 1) + 1) + 1) + 1) + 1) + 1) + 1) + 1) = some (.float .f64 f523) ∧ (
 ∃ n524 : Int, hcell H474 b8 (((((((((0 + 1) + 1) + 1) + 1) + 1) + 1) + 1) + 1) + 1) = some (.int .i64 n524) ∧ (
 ∃ n525 : Int, hcell H474 b8 ((((((((((0 + 1) + 1) + 1) + 1) + 1) + 1) + 1) + 1) + 1) + 1) = some (.int .i64 n525) ∧ (
 ∃ a526 : Option Addr, ∃ l527 : Nat, ∃ c528 : Nat, hcell H474 b8 (((((((((((0 + 1) + 1) + 1) + 1) + 1) + 1) + 1) + 1) + 1) + 1) + 1) = some (.slice a526 l527 c528) ∧ (
 ∃ n529 : Int, hcell H474 b8 ((((((((((((0 + 1) + 1) + 1) + 1) + 1) + 1) + 1) + 1) + 1) + 1) + 1) + 1) = some (.int .i64 n529) ∧ (
 ∃ a530 : Option Addr, ∃ l531 : Nat, ∃ c532 : Nat, hcell H474 b8 (((((((((((((0 + 1) + 1) + 1) + 1) + 1) + 1) + 1) + 1) + 1) + 1) + 1) + 1) + 1) = some (.slice a530 l531 c532) ∧ (
 Cells H474 b1 0 14 ∧ ∀ H533 : Heap, Puts H474 b1 0 [(.int .i64 n515), (.string s516), (.string s517), (.string s518), (.int .i64 n519), (.string s520), (.string s521), (.int .i64 n522), (.float .f64 f523), (.int .i64 n524), (.int .i64 n525), (.slice a526 l527 c528), (.int .i64 n529), (.slice a530 l531 c532)] H533 → (
 ∃ n534 : Int, hcell H533 b1 0 = some (.int .i64 n534) ∧ (
 ∃ s535 : ByteArray, hcell H533 b1 (0 + 1) = some (.string s535) ∧ (
 ∃ s536 : ByteArray, hcell H533 b1 ((0 + 1) + 1) = some (.string s536) ∧ (
 ∃ s537 : ByteArray, hcell H533 b1 (((0 + 1) + 1) + 1) = some (.string s537) ∧ (
 ∃ n538 : Int, hcell H533 b1 ((((0 + 1) + 1) + 1) + 1) = some (.int .i64 n538) ∧ (
 ∃ s539 : ByteArray, hcell H533 b1 (((((0 + 1) + 1) + 1) + 1) + 1) = some (.string s539) ∧ (
 ∃ s540 : ByteArray, hcell H533 b1 ((((((0 + 1) + 1) + 1) + 1) + 1) + 1) = some (.string s540) ∧ (
 ∃ n541 : Int, hcell H533 b1 (((((((0 + 1) + 1) + 1) + 1) + 1) + 1) + 1) = some (.int .i64 n541) ∧ (
 ∃ f542 : Nat, hcell H533 b1 ((((((((0 + 1) + 1) + 1) + 1) + 1) + 1) + 1) + 1) = some (.float .f64 f542) ∧ (
 ∃ n543 : Int, hcell H533 b1 (((((((((0 + 1) + 1) + 1) + 1) + 1) + 1) + 1) + 1) + 1) = some (.int .i64 n543) ∧ (
 ∃ n544 : Int, hcell H533 b1 ((((((((((0 + 1) + 1) + 1) + 1) + 1) + 1) + 1) + 1) + 1) + 1) = some (.int .i64 n544) ∧ (
 ∃ a545 : Option Addr, ∃ l546 : Nat, ∃ c547 : Nat, hcell H533 b1 (((((((((((0 + 1) + 1) + 1) + 1) + 1) + 1) + 1) + 1) + 1) + 1) + 1) = some (.slice a545 l546 c547) ∧ (
 ∃ n548 : Int, hcell H533 b1 ((((((((((((0 + 1) + 1) + 1) + 1) + 1) + 1) + 1) + 1) + 1) + 1) + 1) + 1) = some (.int .i64 n548) ∧ (
 ∃ a549 : Option Addr, ∃ l550 : Nat, ∃ c551 : Nat, hcell H533 b1 (((((((((((((0 + 1) + 1) + 1) + 1) + 1) + 1) + 1) + 1) + 1) + 1) + 1) + 1) + 1) = some (.slice a549 l550 c551) ∧ (
 R (.tuple #[(.agg #[(.int .i64 n534), (.string s535), (.string s536), (.string s537), (.int .i64 n538), (.string s539), (.string s540), (.int .i64 n541), (.float .f64 f542), (.int .i64 n543), (.int .i64 n544), (.slice a545 l546 c547), (.int .i64 n548), (.slice a549 l550 c551)]), (.bool true)]) H533))))))))))))))))))))))))))))))))))))))))))))))))))))))))))) := by kernel_rfl


end Go.Proofs
end

section
open Go Go.Vc
namespace Go.Proofs

/-! ### The document's reading -/
def digR (c : UInt8) : Int := if 48 ≤ c.toNat ∧ c.toNat ≤ 57 then (c.toNat : Int) - 48 else if 97 ≤ c.toNat ∧ c.toNat ≤ 102 then (c.toNat : Int) - 87 else 0
theorem digR_in (c : UInt8) : 0 ≤ digR c ∧ digR c ≤ 15 := by
  unfold digR
  split
  · omega
  · split <;> omega
theorem digit_ok (c : UInt8) {q : Int} (hq : q = (c.toNat : Int)) (H : Heap) : Does Tryz.prog 53 [.int .u8 q] H fun v H' => v = .int .i64 (digR c) ∧ H = H' := by
  subst hq
  refine Fn_of_vc Tryz.mixed (RDigitV _ _ _) ?_
  have hc := c.toNat_lt
  have lo : ∀ q : Int, q = IntKind.wrap .u8 ((c.toNat : Int) - 97) → 97 ≤ c.toNat → c.toNat ≤ 102 → ¬ (48 ≤ c.toNat ∧ c.toNat ≤ 57) → In64 q ∧ In64 (q + 10) ∧ (Value.int .i64 (q + 10) = .int .i64 (digR c) ∧ H = H) := by
    intro q e h1 h2 h3
    rw [wrap_u8] at e
    refine ⟨⟨by omega, by omega⟩, ⟨by omega, by omega⟩, congrArg _ ?_, rfl⟩
    unfold digR
    rw [if_neg h3, if_pos ⟨h1, h2⟩]
    omega
  have no : ¬ (48 ≤ c.toNat ∧ c.toNat ≤ 57) → ¬ (97 ≤ c.toNat ∧ c.toNat ≤ 102) → (Value.int .i64 0 = .int .i64 (digR c) ∧ H = H) := by
    intro h1 h2
    unfold digR
    rw [if_neg h1, if_neg h2]
    exact ⟨rfl, rfl⟩
  refine ⟨fun h1 => ⟨fun h2 q1 e1 => ?_, fun h2 => ⟨fun h3 => ⟨fun h4 q2 e2 => lo q2 e2 (by omega) (by omega) (by omega), fun h4 => no (by omega) (by omega)⟩, fun h3 => no (by omega) (by omega)⟩⟩, fun h1 => ⟨fun h3 => ⟨fun h4 q2 e2 => lo q2 e2 (by omega) (by omega) (by omega), fun h4 => no (by omega) (by omega)⟩, fun h3 => no (by omega) (by omega)⟩⟩
  rw [wrap_u8] at e1
  refine ⟨⟨by omega, by omega⟩, congrArg _ ?_, rfl⟩
  unfold digR
  rw [if_pos ⟨by omega, by omega⟩]
  omega
def hR : HB := fun a b => UInt8.ofNat (16 * digR a + digR b).toNat
theorem hR_all : ∀ c : Fin 256, (16 * digR (UInt8.ofNat (digN (c.val / 16))) + digR (UInt8.ofNat (digN (c.val % 16)))) = (c.val : Int) := by decide +kernel
theorem hR_ok : HBok hR := by
  intro c
  have := hR_all ⟨c.toNat, c.toNat_lt⟩
  simp only [] at this
  unfold hR
  rw [this, Int.toNat_natCast]
  simp
theorem hR_in (a b : UInt8) : IntKind.wrap .u8 (16 * digR a + digR b) = ((hR a b).toNat : Int) := by
  have h1 := digR_in a
  have h2 := digR_in b
  rw [wrap_u8]
  unfold hR
  simp
  omega

theorem drop2 {l : List UInt8} {k : Nat} (h : k + 1 < l.length) : l.drop k = l.getD k 0 :: l.getD (k + 1) 0 :: l.drop (k + 2) := by
  rw [List.drop_eq_getElem_cons (by omega : k < l.length), List.drop_eq_getElem_cons h]
  simp [List.getD_eq_getElem?_getD, List.getElem?_eq_getElem (by omega : k < l.length), List.getElem?_eq_getElem h]

theorem runhex_ok (s : ByteArray) (hs : s.size ≤ 1000000000) (H : Heap) : Does Tryz.prog 32 [.string s] H fun v H' => ∃ a n c, v = .slice a n c ∧ Own H' 1 a n c (bytesV (unhexG hR s.data.toList.tail)) ∧ (∀ k ∈ blkOf a, H.size ≤ k) ∧ Ext [] H H' := by
  refine Fn_of_vc Tryz.mixed (RUnhexV _ _ _) ?_
  have hl := toList_size s
  refine ⟨fun a l c n H' => ∃ (xs : List UInt8), n = 1 + 2 * (xs.length : Int) ∧ 2 * xs.length ≤ s.size ∧ Own H' 1 a l c (bytesV xs) ∧ xs ++ unhexG hR (s.data.toList.drop (1 + 2 * xs.length)) = unhexG hR s.data.toList.tail ∧ (∀ k ∈ blkOf a, H.size ≤ k) ∧ Ext [] H H', fun _ _ _ n _ => (s.size + 2 - n).toNat, ⟨[], rfl, by simp, Own.nil _ _, by simp, by simp [blkOf], Ext.refl _ _⟩, ?_⟩
  rintro a l c n H10 ⟨xs, rfl, hk, ho, hxs, hnew, hx⟩
  have hxl : xs.length = l := by have := ho.1; rw [bytesV_length] at this; omega
  refine ⟨⟨by omega, by omega⟩, fun hlt => ?_, fun hge => ⟨a, l, c, rfl, ?_, hnew, hx⟩⟩
  · have en : Int.toNat (1 + 2 * (xs.length : Int)) = 1 + 2 * xs.length := by omega
    have en1 : Int.toNat (1 + 2 * (xs.length : Int) + 1) = 1 + 2 * xs.length + 1 := by omega
    refine ⟨by omega, by omega, fun q8 e8 => ⟨⟨by omega, by omega⟩, by omega, hlt, fun q9 e9 => ?_⟩⟩
    rw [en] at e8
    rw [en1] at e9
    have hd := drop2 (l := s.data.toList) (k := 1 + 2 * xs.length) (by omega)
    rw [hd] at hxs
    generalize s.data.toList.getD (1 + 2 * xs.length) 0 = x at *
    generalize s.data.toList.getD (1 + 2 * xs.length + 1) 0 = y at *
    have hx1 := digR_in x
    have hy1 := digR_in y
    refine (digit_ok x e8 H10).mono ?_
    rintro _ H11 ⟨rfl, rfl⟩
    refine ⟨_, rfl, ⟨by omega, by omega⟩, (digit_ok y e9 H10).mono ?_⟩
    rintro _ H14 ⟨rfl, rfl⟩
    refine ⟨_, rfl, ⟨by omega, by omega⟩, fun q16 e16 => ?_⟩
    rw [hR_in] at e16
    subst e16
    intro b23 H24 hn
    have ho24 := ho.ext hn.ext (by simp)
    refine ⟨bytesV xs, [Value.int .u8 ((hR x y).toNat : Int)], ho24.row _ _, ⟨rfl, .inr rfl, fun j v hj => by
      show hcell H24 b23 (0 + j) = some v
      rw [Nat.zero_add, hn.blk.cell]; exact hj⟩, by simp [Value.oneCell'], by omega, fun hle => by simpa using ho24.room (n := 1) hle, ?_⟩
    intro a27 c28 H29 happ
    obtain ⟨ho29, hx29, hfr⟩ := happ.own ho24 (ho24.row _ _) rfl rfl
    have hs10 := hx.size
    have hs24 := hn.size
    have el : (xs ++ [hR x y]).length = xs.length + 1 := by simp
    refine ⟨⟨by omega, by omega⟩, ⟨xs ++ [hR x y], by rw [el]; omega, by rw [el]; omega, ?_, ?_, fun k hk => ?_, ?_⟩, by dsimp only; omega⟩
    · rw [← bytesV_snoc]; exact ho29
    · rw [el, ← hxs]
      simp [unhexG]
      congr 2
    · rcases hfr k hk with h' | h'
      · exact hnew k h'
      · omega
    · exact (hx.trans hn.ext).trans' hx29 (fun i hi => .inl (hnew i hi))
  · have hu : unhexG hR (s.data.toList.drop (1 + 2 * xs.length)) = [] := by
      have hdl : (s.data.toList.drop (1 + 2 * xs.length)).length ≤ 1 := by rw [List.length_drop]; omega
      match hu : s.data.toList.drop (1 + 2 * xs.length) with
      | [] => rfl
      | [a] => rfl
      | a :: b :: r => rw [hu] at hdl; simp at hdl
    rw [hu, List.append_nil] at hxs
    rw [← hxs]
    exact ho

theorem runtext_ok (s : ByteArray) (hs : s.size ≤ 1000000000) (H : Heap) : Does Tryz.prog 28 [.string s] H fun v H' => v = .string (untextM hR s) ∧ Ext [] H H' := by
  refine Fn_of_vc Tryz.mixed (RUntextV _ _ _) ?_
  have hl := toList_size s
  have he : s.data.toList.headD 0 = s.data.toList.getD 0 0 := by cases s.data.toList <;> rfl
  refine ⟨fun h0 => ⟨by decide, h0, fun q1 e1 => ⟨fun h => ?_, fun h => ⟨?_, Ext.refl _ _⟩⟩⟩, fun h0 => ⟨?_, Ext.refl _ _⟩⟩
  · refine (runhex_ok s hs H).mono ?_
    rintro _ H3 ⟨a, n, c, rfl, ho, _, hx⟩
    refine ⟨_, _, _, rfl, _, ho.row _ _, ?_, hx⟩
    unfold untextM
    rw [if_pos]
    rw [he]
    have e2 : s.data.toList.getD 0 0 = UInt8.ofNat 37 := by
      apply UInt8.toNat_inj.1
      have : ((s.data.toList.getD 0 0).toNat : Int) = 37 := e1.symm.trans h
      simp
      simp at this
      omega
    exact e2
  · unfold untextM
    rw [if_neg]
    rw [he]
    intro e2
    apply h
    rw [e1]
    show ((s.data.toList.getD 0 0).toNat : Int) = 37
    rw [e2]
    rfl
  · unfold untextM
    rw [size0 (by omega : s.size = 0), if_neg (by decide)]

theorem valL_snoc {l : List UInt8} {k : Nat} (h : k < l.length) : valL 0 (l.take (k + 1)) = valL 0 (l.take k) * 10 + ((l.getD k 0).toNat - 48) := by
  rw [List.take_add_one, List.getElem?_eq_getElem h]
  show valL 0 (l.take k ++ [l[k]]) = _
  rw [valL_append, valL_cons, valL_nil]
  simp [List.getD_eq_getElem?_getD, List.getElem?_eq_getElem h]
theorem intS_data {k : Int} (h0 : 0 ≤ k) {s : ByteArray} (h : s = intS k) : s.data.toList = decL k.toNat := by
  rw [h, intS_pos h0]
theorem rnumber_ok (s : ByteArray) (H : Heap) : Does Tryz.prog 31 [.string s] H fun v H' => (∃ n, v = .int .i64 n ∧ In64 n ∧ IsInt s n) ∧ H = H' := by
  refine Fn_of_vc Tryz.mixed (RNumberV _ _ _) ?_
  have hl := toList_size s
  have none : (∀ k : Int, 0 ≤ k → k ≤ 999999 → s ≠ intS k) → (∃ n, Value.int .i64 (-1) = .int .i64 n ∧ In64 n ∧ IsInt s n) ∧ H = H := fun h => ⟨⟨-1, rfl, ⟨by decide, by decide⟩, fun k h0 h1 e => absurd e (h k h0 h1)⟩, rfl⟩
  have len : ∀ k : Int, 0 ≤ k → k ≤ 999999 → s = intS k → 1 ≤ s.size ∧ s.size ≤ 6 := by
    intro k h0 h1 e
    have hd := intS_data h0 e
    have h2 := decL_len 6 k.toNat (by omega) (by decide)
    have h3 := decL_pos k.toNat
    rw [← hd, hl] at h2 h3
    omega
  refine ⟨fun h => none fun k h0 h1 e => by have := len k h0 h1 e; omega, fun hn1 => ⟨fun h => none fun k h0 h1 e => by have := len k h0 h1 e; omega, fun hn2 => ?_⟩⟩
  refine ⟨fun n i H' => ∃ k : Nat, i = k ∧ k ≤ s.size ∧ n = (valL 0 (s.data.toList.take k) : Int) ∧ valL 0 (s.data.toList.take k) < 10 ^ k ∧ H' = H, fun _ i _ => (s.size - i).toNat, ⟨0, rfl, by omega, rfl, by rw [List.take_zero, valL_nil]; decide, rfl⟩, ?_⟩
  rintro _ _ H5 ⟨k, rfl, hk, rfl, hv, rfl⟩
  have hp : ∀ j, j ≤ 6 → 10 ^ j ≤ 1000000 := by decide
  have hp2 := hp k (by omega)
  have dig : ∀ (hlt : k < s.size), ¬ (48 ≤ (s.data.toList.getD k 0).toNat ∧ (s.data.toList.getD k 0).toNat ≤ 57) → ∀ j : Int, 0 ≤ j → j ≤ 999999 → s ≠ intS j := by
    intro hlt hn j h0 h1 e
    have hd := intS_data h0 e
    have hmem : s.data.toList.getD k 0 ∈ s.data.toList := by
      rw [List.getD_eq_getElem?_getD, List.getElem?_eq_getElem (by omega)]
      simp
    rw [hd] at hmem
    have := decL_dig _ _ hmem
    rw [hd] at hn
    exact hn this
  refine ⟨fun hlt => ?_, fun hge => ?_⟩
  · have ek : Int.toNat (k : Int) = k := Int.toNat_natCast k
    rw [ek]
    refine ⟨by omega, hlt, fun q6 e6 => ⟨fun h => none (dig (by omega) (by omega)), fun h6 => ⟨by omega, hlt, fun q7 e7 => ⟨fun h => none (dig (by omega) (by omega)), fun h7 => ⟨⟨by omega, by omega⟩, by omega, hlt, fun q8 e8 q9 e9 => ?_⟩⟩⟩⟩⟩
    have hc := (s.data.toList.getD k 0).toNat_lt
    rw [wrap_u8] at e9
    have hsn := valL_snoc (l := s.data.toList) (k := k) (by omega)
    have hpow : 10 ^ (k + 1) = 10 ^ k * 10 := Nat.pow_succ ..
    refine ⟨⟨by omega, by omega⟩, ⟨by omega, by omega⟩, ⟨by omega, by omega⟩, ⟨k + 1, by omega, by omega, by rw [hsn]; omega, by rw [hsn]; omega, rfl⟩, by dsimp only; omega⟩
  · have hkk : k = s.size := by omega
    subst hkk
    rw [← hl] at hp2
    rw [← hl, List.take_length] at hv ⊢
    refine ⟨⟨_, rfl, ⟨by omega, by omega⟩, fun j h0 h1 e => ?_⟩, rfl⟩
    rw [intS_data h0 e, valL_dec]
    omega
theorem rtime_ok (s : ByteArray) (H : Heap) : Does Tryz.prog 52 [.string s] H fun v H' => (∃ x, v = .float .f64 x ∧ x < 18446744073709551616 ∧ IsTime s x) ∧ Ext [] H H' := by
  refine Fn_of_vc Tryz.mixed (RTimeV _ _ _) ?_
  refine (rparse_ok s H).mono ?_
  rintro v H2 ⟨h, hx⟩
  obtain ⟨x, t, rfl, h2, h3⟩ := isNum_time h
  exact ⟨x, t, rfl, ⟨x, rfl, h2, h3⟩, hx⟩

def strsV (ws : List ByteArray) : List Value := ws.map Value.string
theorem at_ok {H : Heap} {a : Option Addr} {n c : Nat} {ws : List ByteArray} (h : SRow H 1 n (.slice a n c) (strsV ws)) (k : Nat) {q : Int} (hq : q = (k : Int)) : Does Tryz.prog 29 [.slice a n c, .int .i64 q] H fun v H' => v = .string (ws.getD k noW) ∧ H = H' := by
  subst hq
  have hl : ws.length = n := by have := h.1; unfold strsV at this; rw [List.length_map] at this; omega
  refine Fn_of_vc Tryz.mixed (RAtV _ _ _ _ _ _) ?_
  refine ⟨fun hlt => ?_, fun hge => ⟨?_, rfl⟩⟩
  · have hk : k < ws.length := by omega
    obtain ⟨b, o, ha, hc⟩ := h.at (j := k) (u := .string (ws[k])) (by simp [strsV, hk])
    refine ⟨by omega, hlt, b, o, ha, ws[k], by rw [Int.toNat_natCast]; exact hc, ?_, rfl⟩
    simp [List.getD_eq_getElem?_getD, List.getElem?_eq_getElem hk]
  · rw [List.getD_eq_getElem?_getD, List.getElem?_eq_none (by omega)]
    rfl

/-! ### Words -/
def preL (w : List UInt8) : List (List UInt8) → List (List UInt8)
  | x :: xs => (w ++ x) :: xs
  | [] => [w]
theorem preL_nil (l : List UInt8) : preL [] (splitL l) = splitL l := by
  cases h : splitL l with
  | nil => exact absurd h (split_ne l)
  | cons x xs => simp [preL]
theorem preL_blank (w r : List UInt8) : preL w (splitL (32 :: r)) = w :: splitL r := by simp [splitL, preL]
theorem preL_other (w r : List UInt8) {c : UInt8} (h : c ≠ 32) : preL w (splitL (c :: r)) = preL (w ++ [c]) (splitL r) := by
  simp only [splitL, if_neg h]
  cases hs : splitL r with
  | nil => exact absurd hs (split_ne r)
  | cons x xs => simp [preL]
def baL (l : List (List UInt8)) : List ByteArray := l.map fun w => ⟨w.toArray⟩
theorem baL_words (s : ByteArray) : baL (splitL s.data.toList) = wordsS s := rfl

theorem rwords_ok (s : ByteArray) (hs : s.size ≤ 1000000000) (H : Heap) : Does Tryz.prog 27 [.string s] H fun v H' => ∃ a n c, v = .slice a n c ∧ Own H' 1 a n c (strsV (wordsS s)) ∧ (∀ k ∈ blkOf a, H.size ≤ k) ∧ Ext [] H H' := by
  refine Fn_of_vc Tryz.mixed (RWordsV _ _ _) ?_
  have hl := toList_size s
  refine ⟨fun a l c w n H' => ∃ (k : Nat) (out : List (List UInt8)) (u : List UInt8), n = k ∧ k ≤ s.size ∧ w = ⟨u.toArray⟩ ∧ Own H' 1 a l c (strsV (baL out)) ∧ out ++ preL u (splitL (s.data.toList.drop k)) = splitL s.data.toList ∧ out.length ≤ k ∧ u.length ≤ k ∧ (∀ k ∈ blkOf a, H.size ≤ k) ∧ Ext [] H H',
    fun _ _ _ _ n _ => (s.size - n).toNat, ⟨0, [], [], rfl, by omega, rfl, Own.nil _ _, by rw [List.drop_zero, preL_nil]; rfl, by simp, by simp, by simp [blkOf], Ext.refl _ _⟩, ?_⟩
  rintro a l c _ _ H8 ⟨k, out, u, rfl, hk, rfl, ho, hsp, hol, hul, hnew, hx⟩
  have hlen : out.length = l := by have := ho.1; simp [strsV, baL] at this; omega
  have app : ∀ {b : Nat} {H12 : Heap}, New H8 b [.string ⟨u.toArray⟩] 9 H12 → ∃ old news : List Value, SRow H12 1 l (.slice a l c) old ∧ SRow H12 1 1 (.slice (some (⟨b, 0, none⟩ : Addr)) 1 1) news ∧ (∀ v ∈ news, Value.oneCell' v = true) ∧ (l + 1) * 16 ≤ 140737488355328 ∧ (l + 1 ≤ c → roomOf H12 a (l * 1) (1 * 1)) ∧ ∀ a15 : Option Addr, ∀ c16 : Nat, ∀ H17 : Heap, App H12 1 9 [(.string (ByteArray.mk #[]))] a l c old news 1 a15 c16 H17 → Own H17 1 a15 (l + 1) c16 (strsV (baL (out ++ [u]))) ∧ (∀ k ∈ blkOf a15, H.size ≤ k) ∧ Ext [] H H17 := by
    intro b H12 hn
    have ho12 := ho.ext hn.ext (by simp)
    refine ⟨strsV (baL out), [.string ⟨u.toArray⟩], ho12.row _ _, ⟨rfl, .inr rfl, fun j v hj => by
      show hcell H12 b (0 + j) = some v
      rw [Nat.zero_add, hn.blk.cell]; exact hj⟩, by simp [Value.oneCell'], by omega, fun hle => by simpa using ho12.room (n := 1) hle, ?_⟩
    intro a15 c16 H17 happ
    obtain ⟨ho17, hx17, hfr⟩ := happ.own ho12 (ho12.row _ _) rfl rfl
    have hs8 := hx.size
    have hs12 := hn.size
    refine ⟨by simpa [strsV, baL] using ho17, fun k hk => ?_, (hx.trans hn.ext).trans' hx17 (fun i hi => .inl (hnew i hi))⟩
    rcases hfr k hk with h' | h'
    · exact hnew k h'
    · omega
  refine ⟨fun hlt => ?_, fun hge => ?_⟩
  · have ek : Int.toNat (k : Int) = k := Int.toNat_natCast k
    have ek1 : Int.toNat ((k : Int) + 1) = k + 1 := by omega
    have hdrop : s.data.toList.drop k = s.data.toList.getD k 0 :: s.data.toList.drop (k + 1) := by
      rw [List.drop_eq_getElem_cons (by omega : k < s.data.toList.length)]
      simp [List.getD_eq_getElem?_getD, List.getElem?_eq_getElem (by omega : k < s.data.toList.length)]
    rw [hdrop] at hsp
    refine ⟨fun a l c w H' => ∃ (out : List (List UInt8)) (u : List UInt8), w = ⟨u.toArray⟩ ∧ Own H' 1 a l c (strsV (baL out)) ∧ out ++ preL u (splitL (s.data.toList.drop (k + 1))) = splitL s.data.toList ∧ out.length ≤ k + 1 ∧ u.length ≤ k + 1 ∧ (∀ k ∈ blkOf a, H.size ≤ k) ∧ Ext [] H H', ?_, ?_⟩
    · rw [ek, ek1]
      refine ⟨by omega, hlt, fun q10 e10 => ⟨fun h32 => ?_, fun hn32 => ?_⟩⟩
      · have ec : s.data.toList.getD k 0 = 32 := by
          apply UInt8.toNat_inj.1
          have : ((s.data.toList.getD k 0).toNat : Int) = 32 := e10.symm.trans h32
          show (s.data.toList.getD k 0).toNat = 32
          omega
        intro b11 H12 hn
        obtain ⟨old, news, h1, h2, h3, h4, h5, h6⟩ := app hn
        refine ⟨old, news, h1, h2, h3, h4, h5, fun a15 c16 H17 happ => ?_⟩
        obtain ⟨k1, k2, k3⟩ := h6 a15 c16 H17 happ
        refine ⟨out ++ [u], [], rfl, k1, ?_, by simp; omega, by simp, k2, k3⟩
        rw [ec, preL_blank] at hsp
        rw [preL_nil, List.append_assoc]
        exact hsp
      · have ec : s.data.toList.getD k 0 ≠ 32 := by
          intro e
          apply hn32
          rw [e10, e]
          rfl
        have ex : s.extract k (k + 1) = ⟨[s.data.toList.getD k 0].toArray⟩ := by
          apply ByteArray.ext
          apply Array.toList_inj.1
          rw [ex_toList, hdrop]
          simp
        rw [ex]
        have esz : (ByteArray.mk (List.toArray u)).size = u.length := by show (List.toArray u).size = _; simp
        have esz1 : (ByteArray.mk (List.toArray [s.data.toList.getD k 0])).size = 1 := rfl
        refine ⟨⟨by omega, by omega⟩, by omega, by omega, by omega, ⟨by omega, by omega⟩, out, u ++ [s.data.toList.getD k 0], ba_app _ _, ho, ?_, by omega, by simp; omega, hnew, hx⟩
        rw [← preL_other _ _ ec]
        exact hsp
    · rintro a18 l19 c20 w21 H22 ⟨out, u, rfl, ho, hsp, h1, h2, h3, h4⟩
      exact ⟨⟨by omega, by omega⟩, ⟨k + 1, out, u, by omega, by omega, rfl, ho, hsp, h1, h2, h3, h4⟩, by dsimp only; omega⟩
  · intro b23 H24 hn
    obtain ⟨old, news, h1, h2, h3, h4, h5, h6⟩ := app hn
    refine ⟨old, news, h1, h2, h3, h4, h5, fun a15 c16 H17 happ => ?_⟩
    obtain ⟨k1, k2, k3⟩ := h6 a15 c16 H17 happ
    have hd : s.data.toList.drop k = [] := List.drop_eq_nil_of_le (by omega)
    rw [hd] at hsp
    have e : out ++ [u] = splitL s.data.toList := by rw [← hsp]; simp [splitL, preL]
    rw [e, baL_words] at k1
    exact ⟨_, _, _, rfl, k1, k2, k3⟩
end Go.Proofs
end

section
open Go Go.Vc
namespace Go.Proofs
set_option maxRecDepth 100000
/-- pentimento/pentimentoref21.Print -/
theorem RPrintV (x0_0 : Int) (x0_1 : ByteArray) (x0_2 : ByteArray) (x0_3 : ByteArray) (x0_4 : Int) (x0_5 : ByteArray) (x0_6 : ByteArray) (x0_7 : Int) (x0_8 : Nat) (x0_9 : Int) (x0_10 : Int) (x0_11 : Option Addr) (x0_11l : Nat) (x0_11c : Nat) (x0_12 : Int) (x0_13 : Option Addr) (x0_13l : Nat) (x0_13c : Nat) (H : Heap) (R : Value → Heap → Prop) : Walk Tryz.prog 6 [] [(.agg #[(.int .i64 x0_0), (.string x0_1), (.string x0_2), (.string x0_3), (.int .i64 x0_4), (.string x0_5), (.string x0_6), (.int .i64 x0_7), (.float .f64 x0_8), (.int .i64 x0_9), (.int .i64 x0_10), (.slice x0_11 x0_11l x0_11c), (.int .i64 x0_12), (.slice x0_13 x0_13l x0_13c)])] H R = (
 ∀ b1 : Nat, ∀ H2 : Heap, New H b1 [(.int .i64 x0_0), (.string x0_1), (.string x0_2), (.string x0_3), (.int .i64 x0_4), (.string x0_5), (.string x0_6), (.int .i64 x0_7), (.float .f64 x0_8), (.int .i64 x0_9), (.int .i64 x0_10), (.slice x0_11 x0_11l x0_11c), (.int .i64 x0_12), (.slice x0_13 x0_13l x0_13c)] 33 H2 → (
 ∀ b3 : Nat, ∀ H4 : Heap, New H2 b3 [(.string (ByteArray.mk #[])), (.bool false)] 61 H4 → (
 ∃ n5 : Int, hcell H4 b1 0 = some (.int .i64 n5) ∧ (
 Does Tryz.prog 16 [(.int .i64 n5)] H4 fun v6 H7 => ∃ s8 : ByteArray, v6 = (.string s8) ∧ (
 ((((s8 : ByteArray) = (ByteArray.mk #[])) → (
 R (.tuple #[(.string (ByteArray.mk #[])), (.bool false)]) H7)) ∧ (¬ ((s8 : ByteArray) = (ByteArray.mk #[])) → (
 Does Tryz.prog 17 [(.pointer (some (⟨b3, 0, none⟩ : Addr))), (.string s8)] H7 fun v9 H10 => v9 = (.tuple #[]) ∧ (
 ∃ n11 : Int, hcell H10 b1 0 = some (.int .i64 n11) ∧ (
 ((((n11 : Int) = 1) → (
 ∃ s12 : ByteArray, hcell H10 b1 (0 + 1) = some (.string s12) ∧ (
 Does Tryz.prog 18 [(.pointer (some (⟨b3, 0, none⟩ : Addr))), (.string s12)] H10 fun v13 H14 => v13 = (.tuple #[]) ∧ (
 ∃ n15 : Int, hcell H14 b1 (0 + 4) = some (.int .i64 n15) ∧ (
 ∃ s16 : ByteArray, hcell H14 b1 ((0 + 4) + 1) = some (.string s16) ∧ (
 ∃ s17 : ByteArray, hcell H14 b1 (((0 + 4) + 1) + 1) = some (.string s17) ∧ (
 ∃ n18 : Int, hcell H14 b1 ((((0 + 4) + 1) + 1) + 1) = some (.int .i64 n18) ∧ (
 ∃ f19 : Nat, hcell H14 b1 (((((0 + 4) + 1) + 1) + 1) + 1) = some (.float .f64 f19) ∧ (
 ∃ n20 : Int, hcell H14 b1 ((((((0 + 4) + 1) + 1) + 1) + 1) + 1) = some (.int .i64 n20) ∧ (
 ∃ n21 : Int, hcell H14 b1 (((((((0 + 4) + 1) + 1) + 1) + 1) + 1) + 1) = some (.int .i64 n21) ∧ (
 ∃ a22 : Option Addr, ∃ l23 : Nat, ∃ c24 : Nat, hcell H14 b1 ((((((((0 + 4) + 1) + 1) + 1) + 1) + 1) + 1) + 1) = some (.slice a22 l23 c24) ∧ (
 Does Tryz.prog 19 [(.pointer (some (⟨b3, 0, none⟩ : Addr))), (.agg #[(.int .i64 n15), (.string s16), (.string s17), (.int .i64 n18), (.float .f64 f19), (.int .i64 n20), (.int .i64 n21), (.slice a22 l23 c24)])] H14 fun v25 H26 => v25 = (.tuple #[]) ∧ (
 ∃ b27 o28 : Nat, (some (⟨b3, 0, none⟩ : Addr)) = some (⟨b27, o28, none⟩ : Addr) ∧ (
 ∃ t29 : Bool, hcell H26 b27 (o28 + 1) = some (.bool t29) ∧ (
 ((t29 = true → (
 R (.tuple #[(.string (ByteArray.mk #[])), (.bool false)]) H26)) ∧ (t29 = false → (
 ∃ b30 o31 : Nat, (some (⟨b3, 0, none⟩ : Addr)) = some (⟨b30, o31, none⟩ : Addr) ∧ (
 ∃ s32 : ByteArray, hcell H26 b30 o31 = some (.string s32) ∧ (
 R (.tuple #[(.string s32), (.bool true)]) H26)))))))))))))))))))) ∧ (¬ ((n11 : Int) = 1) → (
 ((((n11 : Int) = 2) → (
 ((((n11 : Int) = 2) → (
 ∃ s33 : ByteArray, hcell H10 b1 (0 + 1) = some (.string s33) ∧ (
 Does Tryz.prog 18 [(.pointer (some (⟨b3, 0, none⟩ : Addr))), (.string s33)] H10 fun v34 H35 => v34 = (.tuple #[]) ∧ (
 ∃ s36 : ByteArray, hcell H35 b1 (0 + 2) = some (.string s36) ∧ (
 Does Tryz.prog 18 [(.pointer (some (⟨b3, 0, none⟩ : Addr))), (.string s36)] H35 fun v37 H38 => v37 = (.tuple #[]) ∧ (
 ∃ b39 o40 : Nat, (some (⟨b3, 0, none⟩ : Addr)) = some (⟨b39, o40, none⟩ : Addr) ∧ (
 ∃ t41 : Bool, hcell H38 b39 (o40 + 1) = some (.bool t41) ∧ (
 ((t41 = true → (
 R (.tuple #[(.string (ByteArray.mk #[])), (.bool false)]) H38)) ∧ (t41 = false → (
 ∃ b42 o43 : Nat, (some (⟨b3, 0, none⟩ : Addr)) = some (⟨b42, o43, none⟩ : Addr) ∧ (
 ∃ s44 : ByteArray, hcell H38 b42 o43 = some (.string s44) ∧ (
 R (.tuple #[(.string s44), (.bool true)]) H38))))))))))))) ∧ (¬ ((n11 : Int) = 2) → (
 ((((n11 : Int) = 5) → (
 ((((n11 : Int) = 5) → (
 ∃ s45 : ByteArray, hcell H10 b1 (0 + 1) = some (.string s45) ∧ (
 Does Tryz.prog 18 [(.pointer (some (⟨b3, 0, none⟩ : Addr))), (.string s45)] H10 fun v46 H47 => v46 = (.tuple #[]) ∧ (
 ∃ s48 : ByteArray, hcell H47 b1 (0 + 2) = some (.string s48) ∧ (
 Does Tryz.prog 18 [(.pointer (some (⟨b3, 0, none⟩ : Addr))), (.string s48)] H47 fun v49 H50 => v49 = (.tuple #[]) ∧ (
 ∃ s51 : ByteArray, hcell H50 b1 (0 + 3) = some (.string s51) ∧ (
 Does Tryz.prog 18 [(.pointer (some (⟨b3, 0, none⟩ : Addr))), (.string s51)] H50 fun v52 H53 => v52 = (.tuple #[]) ∧ (
 ∃ b54 o55 : Nat, (some (⟨b3, 0, none⟩ : Addr)) = some (⟨b54, o55, none⟩ : Addr) ∧ (
 ∃ t56 : Bool, hcell H53 b54 (o55 + 1) = some (.bool t56) ∧ (
 ((t56 = true → (
 R (.tuple #[(.string (ByteArray.mk #[])), (.bool false)]) H53)) ∧ (t56 = false → (
 ∃ b57 o58 : Nat, (some (⟨b3, 0, none⟩ : Addr)) = some (⟨b57, o58, none⟩ : Addr) ∧ (
 ∃ s59 : ByteArray, hcell H53 b57 o58 = some (.string s59) ∧ (
 R (.tuple #[(.string s59), (.bool true)]) H53))))))))))))))) ∧ (¬ ((n11 : Int) = 5) → (
 ((((n11 : Int) = 8) → (
 ∃ s60 : ByteArray, hcell H10 b1 (0 + 1) = some (.string s60) ∧ (
 Does Tryz.prog 18 [(.pointer (some (⟨b3, 0, none⟩ : Addr))), (.string s60)] H10 fun v61 H62 => v61 = (.tuple #[]) ∧ (
 ∃ b63 o64 : Nat, (some (⟨b3, 0, none⟩ : Addr)) = some (⟨b63, o64, none⟩ : Addr) ∧ (
 ∃ t65 : Bool, hcell H62 b63 (o64 + 1) = some (.bool t65) ∧ (
 ((t65 = true → (
 R (.tuple #[(.string (ByteArray.mk #[])), (.bool false)]) H62)) ∧ (t65 = false → (
 ∃ b66 o67 : Nat, (some (⟨b3, 0, none⟩ : Addr)) = some (⟨b66, o67, none⟩ : Addr) ∧ (
 ∃ s68 : ByteArray, hcell H62 b66 o67 = some (.string s68) ∧ (
 R (.tuple #[(.string s68), (.bool true)]) H62))))))))))) ∧ (¬ ((n11 : Int) = 8) → (
 ((((n11 : Int) = 10) → (
 ∃ n69 : Int, hcell H10 b1 (0 + 12) = some (.int .i64 n69) ∧ (
 Does Tryz.prog 20 [(.pointer (some (⟨b3, 0, none⟩ : Addr))), (.int .i64 n69)] H10 fun v70 H71 => v70 = (.tuple #[]) ∧ (
 ∃ b72 o73 : Nat, (some (⟨b3, 0, none⟩ : Addr)) = some (⟨b72, o73, none⟩ : Addr) ∧ (
 ∃ t74 : Bool, hcell H71 b72 (o73 + 1) = some (.bool t74) ∧ (
 ((t74 = true → (
 R (.tuple #[(.string (ByteArray.mk #[])), (.bool false)]) H71)) ∧ (t74 = false → (
 ∃ b75 o76 : Nat, (some (⟨b3, 0, none⟩ : Addr)) = some (⟨b75, o76, none⟩ : Addr) ∧ (
 ∃ s77 : ByteArray, hcell H71 b75 o76 = some (.string s77) ∧ (
 R (.tuple #[(.string s77), (.bool true)]) H71))))))))))) ∧ (¬ ((n11 : Int) = 10) → (
 ((((n11 : Int) = 11) → (
 ∃ a78 : Option Addr, ∃ l79 : Nat, ∃ c80 : Nat, hcell H10 b1 (0 + 13) = some (.slice a78 l79 c80) ∧ (
 Does Tryz.prog 21 [(.pointer (some (⟨b3, 0, none⟩ : Addr))), (.slice a78 l79 c80)] H10 fun v81 H82 => v81 = (.tuple #[]) ∧ (
 ∃ b83 o84 : Nat, (some (⟨b3, 0, none⟩ : Addr)) = some (⟨b83, o84, none⟩ : Addr) ∧ (
 ∃ t85 : Bool, hcell H82 b83 (o84 + 1) = some (.bool t85) ∧ (
 ((t85 = true → (
 R (.tuple #[(.string (ByteArray.mk #[])), (.bool false)]) H82)) ∧ (t85 = false → (
 ∃ b86 o87 : Nat, (some (⟨b3, 0, none⟩ : Addr)) = some (⟨b86, o87, none⟩ : Addr) ∧ (
 ∃ s88 : ByteArray, hcell H82 b86 o87 = some (.string s88) ∧ (
 R (.tuple #[(.string s88), (.bool true)]) H82))))))))))) ∧ (¬ ((n11 : Int) = 11) → (
 ∃ b89 o90 : Nat, (some (⟨b3, 0, none⟩ : Addr)) = some (⟨b89, o90, none⟩ : Addr) ∧ (
 ∃ t91 : Bool, hcell H10 b89 (o90 + 1) = some (.bool t91) ∧ (
 ((t91 = true → (
 R (.tuple #[(.string (ByteArray.mk #[])), (.bool false)]) H10)) ∧ (t91 = false → (
 ∃ b92 o93 : Nat, (some (⟨b3, 0, none⟩ : Addr)) = some (⟨b92, o93, none⟩ : Addr) ∧ (
 ∃ s94 : ByteArray, hcell H10 b92 o93 = some (.string s94) ∧ (
 R (.tuple #[(.string s94), (.bool true)]) H10))))))))))))))))))))) ∧ (¬ ((n11 : Int) = 5) → (
 ((((n11 : Int) = 6) → (
 ∃ s95 : ByteArray, hcell H10 b1 (0 + 1) = some (.string s95) ∧ (
 Does Tryz.prog 18 [(.pointer (some (⟨b3, 0, none⟩ : Addr))), (.string s95)] H10 fun v96 H97 => v96 = (.tuple #[]) ∧ (
 ∃ s98 : ByteArray, hcell H97 b1 (0 + 2) = some (.string s98) ∧ (
 Does Tryz.prog 18 [(.pointer (some (⟨b3, 0, none⟩ : Addr))), (.string s98)] H97 fun v99 H100 => v99 = (.tuple #[]) ∧ (
 ∃ s101 : ByteArray, hcell H100 b1 (0 + 3) = some (.string s101) ∧ (
 Does Tryz.prog 18 [(.pointer (some (⟨b3, 0, none⟩ : Addr))), (.string s101)] H100 fun v102 H103 => v102 = (.tuple #[]) ∧ (
 ∃ b104 o105 : Nat, (some (⟨b3, 0, none⟩ : Addr)) = some (⟨b104, o105, none⟩ : Addr) ∧ (
 ∃ t106 : Bool, hcell H103 b104 (o105 + 1) = some (.bool t106) ∧ (
 ((t106 = true → (
 R (.tuple #[(.string (ByteArray.mk #[])), (.bool false)]) H103)) ∧ (t106 = false → (
 ∃ b107 o108 : Nat, (some (⟨b3, 0, none⟩ : Addr)) = some (⟨b107, o108, none⟩ : Addr) ∧ (
 ∃ s109 : ByteArray, hcell H103 b107 o108 = some (.string s109) ∧ (
 R (.tuple #[(.string s109), (.bool true)]) H103))))))))))))))) ∧ (¬ ((n11 : Int) = 6) → (
 ((((n11 : Int) = 8) → (
 ∃ s110 : ByteArray, hcell H10 b1 (0 + 1) = some (.string s110) ∧ (
 Does Tryz.prog 18 [(.pointer (some (⟨b3, 0, none⟩ : Addr))), (.string s110)] H10 fun v111 H112 => v111 = (.tuple #[]) ∧ (
 ∃ b113 o114 : Nat, (some (⟨b3, 0, none⟩ : Addr)) = some (⟨b113, o114, none⟩ : Addr) ∧ (
 ∃ t115 : Bool, hcell H112 b113 (o114 + 1) = some (.bool t115) ∧ (
 ((t115 = true → (
 R (.tuple #[(.string (ByteArray.mk #[])), (.bool false)]) H112)) ∧ (t115 = false → (
 ∃ b116 o117 : Nat, (some (⟨b3, 0, none⟩ : Addr)) = some (⟨b116, o117, none⟩ : Addr) ∧ (
 ∃ s118 : ByteArray, hcell H112 b116 o117 = some (.string s118) ∧ (
 R (.tuple #[(.string s118), (.bool true)]) H112))))))))))) ∧ (¬ ((n11 : Int) = 8) → (
 ((((n11 : Int) = 10) → (
 ∃ n119 : Int, hcell H10 b1 (0 + 12) = some (.int .i64 n119) ∧ (
 Does Tryz.prog 20 [(.pointer (some (⟨b3, 0, none⟩ : Addr))), (.int .i64 n119)] H10 fun v120 H121 => v120 = (.tuple #[]) ∧ (
 ∃ b122 o123 : Nat, (some (⟨b3, 0, none⟩ : Addr)) = some (⟨b122, o123, none⟩ : Addr) ∧ (
 ∃ t124 : Bool, hcell H121 b122 (o123 + 1) = some (.bool t124) ∧ (
 ((t124 = true → (
 R (.tuple #[(.string (ByteArray.mk #[])), (.bool false)]) H121)) ∧ (t124 = false → (
 ∃ b125 o126 : Nat, (some (⟨b3, 0, none⟩ : Addr)) = some (⟨b125, o126, none⟩ : Addr) ∧ (
 ∃ s127 : ByteArray, hcell H121 b125 o126 = some (.string s127) ∧ (
 R (.tuple #[(.string s127), (.bool true)]) H121))))))))))) ∧ (¬ ((n11 : Int) = 10) → (
 ((((n11 : Int) = 11) → (
 ∃ a128 : Option Addr, ∃ l129 : Nat, ∃ c130 : Nat, hcell H10 b1 (0 + 13) = some (.slice a128 l129 c130) ∧ (
 Does Tryz.prog 21 [(.pointer (some (⟨b3, 0, none⟩ : Addr))), (.slice a128 l129 c130)] H10 fun v131 H132 => v131 = (.tuple #[]) ∧ (
 ∃ b133 o134 : Nat, (some (⟨b3, 0, none⟩ : Addr)) = some (⟨b133, o134, none⟩ : Addr) ∧ (
 ∃ t135 : Bool, hcell H132 b133 (o134 + 1) = some (.bool t135) ∧ (
 ((t135 = true → (
 R (.tuple #[(.string (ByteArray.mk #[])), (.bool false)]) H132)) ∧ (t135 = false → (
 ∃ b136 o137 : Nat, (some (⟨b3, 0, none⟩ : Addr)) = some (⟨b136, o137, none⟩ : Addr) ∧ (
 ∃ s138 : ByteArray, hcell H132 b136 o137 = some (.string s138) ∧ (
 R (.tuple #[(.string s138), (.bool true)]) H132))))))))))) ∧ (¬ ((n11 : Int) = 11) → (
 ∃ b139 o140 : Nat, (some (⟨b3, 0, none⟩ : Addr)) = some (⟨b139, o140, none⟩ : Addr) ∧ (
 ∃ t141 : Bool, hcell H10 b139 (o140 + 1) = some (.bool t141) ∧ (
 ((t141 = true → (
 R (.tuple #[(.string (ByteArray.mk #[])), (.bool false)]) H10)) ∧ (t141 = false → (
 ∃ b142 o143 : Nat, (some (⟨b3, 0, none⟩ : Addr)) = some (⟨b142, o143, none⟩ : Addr) ∧ (
 ∃ s144 : ByteArray, hcell H10 b142 o143 = some (.string s144) ∧ (
 R (.tuple #[(.string s144), (.bool true)]) H10))))))))))))))))))))))))))) ∧ (¬ ((n11 : Int) = 2) → (
 ((((n11 : Int) = 3) → (
 ((((n11 : Int) = 3) → (
 ∃ s145 : ByteArray, hcell H10 b1 (0 + 1) = some (.string s145) ∧ (
 Does Tryz.prog 18 [(.pointer (some (⟨b3, 0, none⟩ : Addr))), (.string s145)] H10 fun v146 H147 => v146 = (.tuple #[]) ∧ (
 ∃ s148 : ByteArray, hcell H147 b1 (0 + 2) = some (.string s148) ∧ (
 Does Tryz.prog 18 [(.pointer (some (⟨b3, 0, none⟩ : Addr))), (.string s148)] H147 fun v149 H150 => v149 = (.tuple #[]) ∧ (
 ∃ b151 o152 : Nat, (some (⟨b3, 0, none⟩ : Addr)) = some (⟨b151, o152, none⟩ : Addr) ∧ (
 ∃ t153 : Bool, hcell H150 b151 (o152 + 1) = some (.bool t153) ∧ (
 ((t153 = true → (
 R (.tuple #[(.string (ByteArray.mk #[])), (.bool false)]) H150)) ∧ (t153 = false → (
 ∃ b154 o155 : Nat, (some (⟨b3, 0, none⟩ : Addr)) = some (⟨b154, o155, none⟩ : Addr) ∧ (
 ∃ s156 : ByteArray, hcell H150 b154 o155 = some (.string s156) ∧ (
 R (.tuple #[(.string s156), (.bool true)]) H150))))))))))))) ∧ (¬ ((n11 : Int) = 3) → (
 ((((n11 : Int) = 5) → (
 ((((n11 : Int) = 5) → (
 ∃ s157 : ByteArray, hcell H10 b1 (0 + 1) = some (.string s157) ∧ (
 Does Tryz.prog 18 [(.pointer (some (⟨b3, 0, none⟩ : Addr))), (.string s157)] H10 fun v158 H159 => v158 = (.tuple #[]) ∧ (
 ∃ s160 : ByteArray, hcell H159 b1 (0 + 2) = some (.string s160) ∧ (
 Does Tryz.prog 18 [(.pointer (some (⟨b3, 0, none⟩ : Addr))), (.string s160)] H159 fun v161 H162 => v161 = (.tuple #[]) ∧ (
 ∃ s163 : ByteArray, hcell H162 b1 (0 + 3) = some (.string s163) ∧ (
 Does Tryz.prog 18 [(.pointer (some (⟨b3, 0, none⟩ : Addr))), (.string s163)] H162 fun v164 H165 => v164 = (.tuple #[]) ∧ (
 ∃ b166 o167 : Nat, (some (⟨b3, 0, none⟩ : Addr)) = some (⟨b166, o167, none⟩ : Addr) ∧ (
 ∃ t168 : Bool, hcell H165 b166 (o167 + 1) = some (.bool t168) ∧ (
 ((t168 = true → (
 R (.tuple #[(.string (ByteArray.mk #[])), (.bool false)]) H165)) ∧ (t168 = false → (
 ∃ b169 o170 : Nat, (some (⟨b3, 0, none⟩ : Addr)) = some (⟨b169, o170, none⟩ : Addr) ∧ (
 ∃ s171 : ByteArray, hcell H165 b169 o170 = some (.string s171) ∧ (
 R (.tuple #[(.string s171), (.bool true)]) H165))))))))))))))) ∧ (¬ ((n11 : Int) = 5) → (
 ((((n11 : Int) = 8) → (
 ∃ s172 : ByteArray, hcell H10 b1 (0 + 1) = some (.string s172) ∧ (
 Does Tryz.prog 18 [(.pointer (some (⟨b3, 0, none⟩ : Addr))), (.string s172)] H10 fun v173 H174 => v173 = (.tuple #[]) ∧ (
 ∃ b175 o176 : Nat, (some (⟨b3, 0, none⟩ : Addr)) = some (⟨b175, o176, none⟩ : Addr) ∧ (
 ∃ t177 : Bool, hcell H174 b175 (o176 + 1) = some (.bool t177) ∧ (
 ((t177 = true → (
 R (.tuple #[(.string (ByteArray.mk #[])), (.bool false)]) H174)) ∧ (t177 = false → (
 ∃ b178 o179 : Nat, (some (⟨b3, 0, none⟩ : Addr)) = some (⟨b178, o179, none⟩ : Addr) ∧ (
 ∃ s180 : ByteArray, hcell H174 b178 o179 = some (.string s180) ∧ (
 R (.tuple #[(.string s180), (.bool true)]) H174))))))))))) ∧ (¬ ((n11 : Int) = 8) → (
 ((((n11 : Int) = 10) → (
 ∃ n181 : Int, hcell H10 b1 (0 + 12) = some (.int .i64 n181) ∧ (
 Does Tryz.prog 20 [(.pointer (some (⟨b3, 0, none⟩ : Addr))), (.int .i64 n181)] H10 fun v182 H183 => v182 = (.tuple #[]) ∧ (
 ∃ b184 o185 : Nat, (some (⟨b3, 0, none⟩ : Addr)) = some (⟨b184, o185, none⟩ : Addr) ∧ (
 ∃ t186 : Bool, hcell H183 b184 (o185 + 1) = some (.bool t186) ∧ (
 ((t186 = true → (
 R (.tuple #[(.string (ByteArray.mk #[])), (.bool false)]) H183)) ∧ (t186 = false → (
 ∃ b187 o188 : Nat, (some (⟨b3, 0, none⟩ : Addr)) = some (⟨b187, o188, none⟩ : Addr) ∧ (
 ∃ s189 : ByteArray, hcell H183 b187 o188 = some (.string s189) ∧ (
 R (.tuple #[(.string s189), (.bool true)]) H183))))))))))) ∧ (¬ ((n11 : Int) = 10) → (
 ((((n11 : Int) = 11) → (
 ∃ a190 : Option Addr, ∃ l191 : Nat, ∃ c192 : Nat, hcell H10 b1 (0 + 13) = some (.slice a190 l191 c192) ∧ (
 Does Tryz.prog 21 [(.pointer (some (⟨b3, 0, none⟩ : Addr))), (.slice a190 l191 c192)] H10 fun v193 H194 => v193 = (.tuple #[]) ∧ (
 ∃ b195 o196 : Nat, (some (⟨b3, 0, none⟩ : Addr)) = some (⟨b195, o196, none⟩ : Addr) ∧ (
 ∃ t197 : Bool, hcell H194 b195 (o196 + 1) = some (.bool t197) ∧ (
 ((t197 = true → (
 R (.tuple #[(.string (ByteArray.mk #[])), (.bool false)]) H194)) ∧ (t197 = false → (
 ∃ b198 o199 : Nat, (some (⟨b3, 0, none⟩ : Addr)) = some (⟨b198, o199, none⟩ : Addr) ∧ (
 ∃ s200 : ByteArray, hcell H194 b198 o199 = some (.string s200) ∧ (
 R (.tuple #[(.string s200), (.bool true)]) H194))))))))))) ∧ (¬ ((n11 : Int) = 11) → (
 ∃ b201 o202 : Nat, (some (⟨b3, 0, none⟩ : Addr)) = some (⟨b201, o202, none⟩ : Addr) ∧ (
 ∃ t203 : Bool, hcell H10 b201 (o202 + 1) = some (.bool t203) ∧ (
 ((t203 = true → (
 R (.tuple #[(.string (ByteArray.mk #[])), (.bool false)]) H10)) ∧ (t203 = false → (
 ∃ b204 o205 : Nat, (some (⟨b3, 0, none⟩ : Addr)) = some (⟨b204, o205, none⟩ : Addr) ∧ (
 ∃ s206 : ByteArray, hcell H10 b204 o205 = some (.string s206) ∧ (
 R (.tuple #[(.string s206), (.bool true)]) H10))))))))))))))))))))) ∧ (¬ ((n11 : Int) = 5) → (
 ((((n11 : Int) = 6) → (
 ∃ s207 : ByteArray, hcell H10 b1 (0 + 1) = some (.string s207) ∧ (
 Does Tryz.prog 18 [(.pointer (some (⟨b3, 0, none⟩ : Addr))), (.string s207)] H10 fun v208 H209 => v208 = (.tuple #[]) ∧ (
 ∃ s210 : ByteArray, hcell H209 b1 (0 + 2) = some (.string s210) ∧ (
 Does Tryz.prog 18 [(.pointer (some (⟨b3, 0, none⟩ : Addr))), (.string s210)] H209 fun v211 H212 => v211 = (.tuple #[]) ∧ (
 ∃ s213 : ByteArray, hcell H212 b1 (0 + 3) = some (.string s213) ∧ (
 Does Tryz.prog 18 [(.pointer (some (⟨b3, 0, none⟩ : Addr))), (.string s213)] H212 fun v214 H215 => v214 = (.tuple #[]) ∧ (
 ∃ b216 o217 : Nat, (some (⟨b3, 0, none⟩ : Addr)) = some (⟨b216, o217, none⟩ : Addr) ∧ (
 ∃ t218 : Bool, hcell H215 b216 (o217 + 1) = some (.bool t218) ∧ (
 ((t218 = true → (
 R (.tuple #[(.string (ByteArray.mk #[])), (.bool false)]) H215)) ∧ (t218 = false → (
 ∃ b219 o220 : Nat, (some (⟨b3, 0, none⟩ : Addr)) = some (⟨b219, o220, none⟩ : Addr) ∧ (
 ∃ s221 : ByteArray, hcell H215 b219 o220 = some (.string s221) ∧ (
 R (.tuple #[(.string s221), (.bool true)]) H215))))))))))))))) ∧ (¬ ((n11 : Int) = 6) → (
 ((((n11 : Int) = 8) → (
 ∃ s222 : ByteArray, hcell H10 b1 (0 + 1) = some (.string s222) ∧ (
 Does Tryz.prog 18 [(.pointer (some (⟨b3, 0, none⟩ : Addr))), (.string s222)] H10 fun v223 H224 => v223 = (.tuple #[]) ∧ (
 ∃ b225 o226 : Nat, (some (⟨b3, 0, none⟩ : Addr)) = some (⟨b225, o226, none⟩ : Addr) ∧ (
 ∃ t227 : Bool, hcell H224 b225 (o226 + 1) = some (.bool t227) ∧ (
 ((t227 = true → (
 R (.tuple #[(.string (ByteArray.mk #[])), (.bool false)]) H224)) ∧ (t227 = false → (
 ∃ b228 o229 : Nat, (some (⟨b3, 0, none⟩ : Addr)) = some (⟨b228, o229, none⟩ : Addr) ∧ (
 ∃ s230 : ByteArray, hcell H224 b228 o229 = some (.string s230) ∧ (
 R (.tuple #[(.string s230), (.bool true)]) H224))))))))))) ∧ (¬ ((n11 : Int) = 8) → (
 ((((n11 : Int) = 10) → (
 ∃ n231 : Int, hcell H10 b1 (0 + 12) = some (.int .i64 n231) ∧ (
 Does Tryz.prog 20 [(.pointer (some (⟨b3, 0, none⟩ : Addr))), (.int .i64 n231)] H10 fun v232 H233 => v232 = (.tuple #[]) ∧ (
 ∃ b234 o235 : Nat, (some (⟨b3, 0, none⟩ : Addr)) = some (⟨b234, o235, none⟩ : Addr) ∧ (
 ∃ t236 : Bool, hcell H233 b234 (o235 + 1) = some (.bool t236) ∧ (
 ((t236 = true → (
 R (.tuple #[(.string (ByteArray.mk #[])), (.bool false)]) H233)) ∧ (t236 = false → (
 ∃ b237 o238 : Nat, (some (⟨b3, 0, none⟩ : Addr)) = some (⟨b237, o238, none⟩ : Addr) ∧ (
 ∃ s239 : ByteArray, hcell H233 b237 o238 = some (.string s239) ∧ (
 R (.tuple #[(.string s239), (.bool true)]) H233))))))))))) ∧ (¬ ((n11 : Int) = 10) → (
 ((((n11 : Int) = 11) → (
 ∃ a240 : Option Addr, ∃ l241 : Nat, ∃ c242 : Nat, hcell H10 b1 (0 + 13) = some (.slice a240 l241 c242) ∧ (
 Does Tryz.prog 21 [(.pointer (some (⟨b3, 0, none⟩ : Addr))), (.slice a240 l241 c242)] H10 fun v243 H244 => v243 = (.tuple #[]) ∧ (
 ∃ b245 o246 : Nat, (some (⟨b3, 0, none⟩ : Addr)) = some (⟨b245, o246, none⟩ : Addr) ∧ (
 ∃ t247 : Bool, hcell H244 b245 (o246 + 1) = some (.bool t247) ∧ (
 ((t247 = true → (
 R (.tuple #[(.string (ByteArray.mk #[])), (.bool false)]) H244)) ∧ (t247 = false → (
 ∃ b248 o249 : Nat, (some (⟨b3, 0, none⟩ : Addr)) = some (⟨b248, o249, none⟩ : Addr) ∧ (
 ∃ s250 : ByteArray, hcell H244 b248 o249 = some (.string s250) ∧ (
 R (.tuple #[(.string s250), (.bool true)]) H244))))))))))) ∧ (¬ ((n11 : Int) = 11) → (
 ∃ b251 o252 : Nat, (some (⟨b3, 0, none⟩ : Addr)) = some (⟨b251, o252, none⟩ : Addr) ∧ (
 ∃ t253 : Bool, hcell H10 b251 (o252 + 1) = some (.bool t253) ∧ (
 ((t253 = true → (
 R (.tuple #[(.string (ByteArray.mk #[])), (.bool false)]) H10)) ∧ (t253 = false → (
 ∃ b254 o255 : Nat, (some (⟨b3, 0, none⟩ : Addr)) = some (⟨b254, o255, none⟩ : Addr) ∧ (
 ∃ s256 : ByteArray, hcell H10 b254 o255 = some (.string s256) ∧ (
 R (.tuple #[(.string s256), (.bool true)]) H10))))))))))))))))))))))))))) ∧ (¬ ((n11 : Int) = 3) → (
 ((((n11 : Int) = 4) → (
 ((((n11 : Int) = 4) → (
 ∃ s257 : ByteArray, hcell H10 b1 (0 + 1) = some (.string s257) ∧ (
 Does Tryz.prog 18 [(.pointer (some (⟨b3, 0, none⟩ : Addr))), (.string s257)] H10 fun v258 H259 => v258 = (.tuple #[]) ∧ (
 ∃ s260 : ByteArray, hcell H259 b1 (0 + 2) = some (.string s260) ∧ (
 Does Tryz.prog 18 [(.pointer (some (⟨b3, 0, none⟩ : Addr))), (.string s260)] H259 fun v261 H262 => v261 = (.tuple #[]) ∧ (
 ∃ b263 o264 : Nat, (some (⟨b3, 0, none⟩ : Addr)) = some (⟨b263, o264, none⟩ : Addr) ∧ (
 ∃ t265 : Bool, hcell H262 b263 (o264 + 1) = some (.bool t265) ∧ (
 ((t265 = true → (
 R (.tuple #[(.string (ByteArray.mk #[])), (.bool false)]) H262)) ∧ (t265 = false → (
 ∃ b266 o267 : Nat, (some (⟨b3, 0, none⟩ : Addr)) = some (⟨b266, o267, none⟩ : Addr) ∧ (
 ∃ s268 : ByteArray, hcell H262 b266 o267 = some (.string s268) ∧ (
 R (.tuple #[(.string s268), (.bool true)]) H262))))))))))))) ∧ (¬ ((n11 : Int) = 4) → (
 ((((n11 : Int) = 5) → (
 ((((n11 : Int) = 5) → (
 ∃ s269 : ByteArray, hcell H10 b1 (0 + 1) = some (.string s269) ∧ (
 Does Tryz.prog 18 [(.pointer (some (⟨b3, 0, none⟩ : Addr))), (.string s269)] H10 fun v270 H271 => v270 = (.tuple #[]) ∧ (
 ∃ s272 : ByteArray, hcell H271 b1 (0 + 2) = some (.string s272) ∧ (
 Does Tryz.prog 18 [(.pointer (some (⟨b3, 0, none⟩ : Addr))), (.string s272)] H271 fun v273 H274 => v273 = (.tuple #[]) ∧ (
 ∃ s275 : ByteArray, hcell H274 b1 (0 + 3) = some (.string s275) ∧ (
 Does Tryz.prog 18 [(.pointer (some (⟨b3, 0, none⟩ : Addr))), (.string s275)] H274 fun v276 H277 => v276 = (.tuple #[]) ∧ (
 ∃ b278 o279 : Nat, (some (⟨b3, 0, none⟩ : Addr)) = some (⟨b278, o279, none⟩ : Addr) ∧ (
 ∃ t280 : Bool, hcell H277 b278 (o279 + 1) = some (.bool t280) ∧ (
 ((t280 = true → (
 R (.tuple #[(.string (ByteArray.mk #[])), (.bool false)]) H277)) ∧ (t280 = false → (
 ∃ b281 o282 : Nat, (some (⟨b3, 0, none⟩ : Addr)) = some (⟨b281, o282, none⟩ : Addr) ∧ (
 ∃ s283 : ByteArray, hcell H277 b281 o282 = some (.string s283) ∧ (
 R (.tuple #[(.string s283), (.bool true)]) H277))))))))))))))) ∧ (¬ ((n11 : Int) = 5) → (
 ((((n11 : Int) = 8) → (
 ∃ s284 : ByteArray, hcell H10 b1 (0 + 1) = some (.string s284) ∧ (
 Does Tryz.prog 18 [(.pointer (some (⟨b3, 0, none⟩ : Addr))), (.string s284)] H10 fun v285 H286 => v285 = (.tuple #[]) ∧ (
 ∃ b287 o288 : Nat, (some (⟨b3, 0, none⟩ : Addr)) = some (⟨b287, o288, none⟩ : Addr) ∧ (
 ∃ t289 : Bool, hcell H286 b287 (o288 + 1) = some (.bool t289) ∧ (
 ((t289 = true → (
 R (.tuple #[(.string (ByteArray.mk #[])), (.bool false)]) H286)) ∧ (t289 = false → (
 ∃ b290 o291 : Nat, (some (⟨b3, 0, none⟩ : Addr)) = some (⟨b290, o291, none⟩ : Addr) ∧ (
 ∃ s292 : ByteArray, hcell H286 b290 o291 = some (.string s292) ∧ (
 R (.tuple #[(.string s292), (.bool true)]) H286))))))))))) ∧ (¬ ((n11 : Int) = 8) → (
 ((((n11 : Int) = 10) → (
 ∃ n293 : Int, hcell H10 b1 (0 + 12) = some (.int .i64 n293) ∧ (
 Does Tryz.prog 20 [(.pointer (some (⟨b3, 0, none⟩ : Addr))), (.int .i64 n293)] H10 fun v294 H295 => v294 = (.tuple #[]) ∧ (
 ∃ b296 o297 : Nat, (some (⟨b3, 0, none⟩ : Addr)) = some (⟨b296, o297, none⟩ : Addr) ∧ (
 ∃ t298 : Bool, hcell H295 b296 (o297 + 1) = some (.bool t298) ∧ (
 ((t298 = true → (
 R (.tuple #[(.string (ByteArray.mk #[])), (.bool false)]) H295)) ∧ (t298 = false → (
 ∃ b299 o300 : Nat, (some (⟨b3, 0, none⟩ : Addr)) = some (⟨b299, o300, none⟩ : Addr) ∧ (
 ∃ s301 : ByteArray, hcell H295 b299 o300 = some (.string s301) ∧ (
 R (.tuple #[(.string s301), (.bool true)]) H295))))))))))) ∧ (¬ ((n11 : Int) = 10) → (
 ((((n11 : Int) = 11) → (
 ∃ a302 : Option Addr, ∃ l303 : Nat, ∃ c304 : Nat, hcell H10 b1 (0 + 13) = some (.slice a302 l303 c304) ∧ (
 Does Tryz.prog 21 [(.pointer (some (⟨b3, 0, none⟩ : Addr))), (.slice a302 l303 c304)] H10 fun v305 H306 => v305 = (.tuple #[]) ∧ (
 ∃ b307 o308 : Nat, (some (⟨b3, 0, none⟩ : Addr)) = some (⟨b307, o308, none⟩ : Addr) ∧ (
 ∃ t309 : Bool, hcell H306 b307 (o308 + 1) = some (.bool t309) ∧ (
 ((t309 = true → (
 R (.tuple #[(.string (ByteArray.mk #[])), (.bool false)]) H306)) ∧ (t309 = false → (
 ∃ b310 o311 : Nat, (some (⟨b3, 0, none⟩ : Addr)) = some (⟨b310, o311, none⟩ : Addr) ∧ (
 ∃ s312 : ByteArray, hcell H306 b310 o311 = some (.string s312) ∧ (
 R (.tuple #[(.string s312), (.bool true)]) H306))))))))))) ∧ (¬ ((n11 : Int) = 11) → (
 ∃ b313 o314 : Nat, (some (⟨b3, 0, none⟩ : Addr)) = some (⟨b313, o314, none⟩ : Addr) ∧ (
 ∃ t315 : Bool, hcell H10 b313 (o314 + 1) = some (.bool t315) ∧ (
 ((t315 = true → (
 R (.tuple #[(.string (ByteArray.mk #[])), (.bool false)]) H10)) ∧ (t315 = false → (
 ∃ b316 o317 : Nat, (some (⟨b3, 0, none⟩ : Addr)) = some (⟨b316, o317, none⟩ : Addr) ∧ (
 ∃ s318 : ByteArray, hcell H10 b316 o317 = some (.string s318) ∧ (
 R (.tuple #[(.string s318), (.bool true)]) H10))))))))))))))))))))) ∧ (¬ ((n11 : Int) = 5) → (
 ((((n11 : Int) = 6) → (
 ∃ s319 : ByteArray, hcell H10 b1 (0 + 1) = some (.string s319) ∧ (
 Does Tryz.prog 18 [(.pointer (some (⟨b3, 0, none⟩ : Addr))), (.string s319)] H10 fun v320 H321 => v320 = (.tuple #[]) ∧ (
 ∃ s322 : ByteArray, hcell H321 b1 (0 + 2) = some (.string s322) ∧ (
 Does Tryz.prog 18 [(.pointer (some (⟨b3, 0, none⟩ : Addr))), (.string s322)] H321 fun v323 H324 => v323 = (.tuple #[]) ∧ (
 ∃ s325 : ByteArray, hcell H324 b1 (0 + 3) = some (.string s325) ∧ (
 Does Tryz.prog 18 [(.pointer (some (⟨b3, 0, none⟩ : Addr))), (.string s325)] H324 fun v326 H327 => v326 = (.tuple #[]) ∧ (
 ∃ b328 o329 : Nat, (some (⟨b3, 0, none⟩ : Addr)) = some (⟨b328, o329, none⟩ : Addr) ∧ (
 ∃ t330 : Bool, hcell H327 b328 (o329 + 1) = some (.bool t330) ∧ (
 ((t330 = true → (
 R (.tuple #[(.string (ByteArray.mk #[])), (.bool false)]) H327)) ∧ (t330 = false → (
 ∃ b331 o332 : Nat, (some (⟨b3, 0, none⟩ : Addr)) = some (⟨b331, o332, none⟩ : Addr) ∧ (
 ∃ s333 : ByteArray, hcell H327 b331 o332 = some (.string s333) ∧ (
 R (.tuple #[(.string s333), (.bool true)]) H327))))))))))))))) ∧ (¬ ((n11 : Int) = 6) → (
 ((((n11 : Int) = 8) → (
 ∃ s334 : ByteArray, hcell H10 b1 (0 + 1) = some (.string s334) ∧ (
 Does Tryz.prog 18 [(.pointer (some (⟨b3, 0, none⟩ : Addr))), (.string s334)] H10 fun v335 H336 => v335 = (.tuple #[]) ∧ (
 ∃ b337 o338 : Nat, (some (⟨b3, 0, none⟩ : Addr)) = some (⟨b337, o338, none⟩ : Addr) ∧ (
 ∃ t339 : Bool, hcell H336 b337 (o338 + 1) = some (.bool t339) ∧ (
 ((t339 = true → (
 R (.tuple #[(.string (ByteArray.mk #[])), (.bool false)]) H336)) ∧ (t339 = false → (
 ∃ b340 o341 : Nat, (some (⟨b3, 0, none⟩ : Addr)) = some (⟨b340, o341, none⟩ : Addr) ∧ (
 ∃ s342 : ByteArray, hcell H336 b340 o341 = some (.string s342) ∧ (
 R (.tuple #[(.string s342), (.bool true)]) H336))))))))))) ∧ (¬ ((n11 : Int) = 8) → (
 ((((n11 : Int) = 10) → (
 ∃ n343 : Int, hcell H10 b1 (0 + 12) = some (.int .i64 n343) ∧ (
 Does Tryz.prog 20 [(.pointer (some (⟨b3, 0, none⟩ : Addr))), (.int .i64 n343)] H10 fun v344 H345 => v344 = (.tuple #[]) ∧ (
 ∃ b346 o347 : Nat, (some (⟨b3, 0, none⟩ : Addr)) = some (⟨b346, o347, none⟩ : Addr) ∧ (
 ∃ t348 : Bool, hcell H345 b346 (o347 + 1) = some (.bool t348) ∧ (
 ((t348 = true → (
 R (.tuple #[(.string (ByteArray.mk #[])), (.bool false)]) H345)) ∧ (t348 = false → (
 ∃ b349 o350 : Nat, (some (⟨b3, 0, none⟩ : Addr)) = some (⟨b349, o350, none⟩ : Addr) ∧ (
 ∃ s351 : ByteArray, hcell H345 b349 o350 = some (.string s351) ∧ (
 R (.tuple #[(.string s351), (.bool true)]) H345))))))))))) ∧ (¬ ((n11 : Int) = 10) → (
 ((((n11 : Int) = 11) → (
 ∃ a352 : Option Addr, ∃ l353 : Nat, ∃ c354 : Nat, hcell H10 b1 (0 + 13) = some (.slice a352 l353 c354) ∧ (
 Does Tryz.prog 21 [(.pointer (some (⟨b3, 0, none⟩ : Addr))), (.slice a352 l353 c354)] H10 fun v355 H356 => v355 = (.tuple #[]) ∧ (
 ∃ b357 o358 : Nat, (some (⟨b3, 0, none⟩ : Addr)) = some (⟨b357, o358, none⟩ : Addr) ∧ (
 ∃ t359 : Bool, hcell H356 b357 (o358 + 1) = some (.bool t359) ∧ (
 ((t359 = true → (
 R (.tuple #[(.string (ByteArray.mk #[])), (.bool false)]) H356)) ∧ (t359 = false → (
 ∃ b360 o361 : Nat, (some (⟨b3, 0, none⟩ : Addr)) = some (⟨b360, o361, none⟩ : Addr) ∧ (
 ∃ s362 : ByteArray, hcell H356 b360 o361 = some (.string s362) ∧ (
 R (.tuple #[(.string s362), (.bool true)]) H356))))))))))) ∧ (¬ ((n11 : Int) = 11) → (
 ∃ b363 o364 : Nat, (some (⟨b3, 0, none⟩ : Addr)) = some (⟨b363, o364, none⟩ : Addr) ∧ (
 ∃ t365 : Bool, hcell H10 b363 (o364 + 1) = some (.bool t365) ∧ (
 ((t365 = true → (
 R (.tuple #[(.string (ByteArray.mk #[])), (.bool false)]) H10)) ∧ (t365 = false → (
 ∃ b366 o367 : Nat, (some (⟨b3, 0, none⟩ : Addr)) = some (⟨b366, o367, none⟩ : Addr) ∧ (
 ∃ s368 : ByteArray, hcell H10 b366 o367 = some (.string s368) ∧ (
 R (.tuple #[(.string s368), (.bool true)]) H10))))))))))))))))))))))))))) ∧ (¬ ((n11 : Int) = 4) → (
 ((((n11 : Int) = 7) → (
 ∃ s369 : ByteArray, hcell H10 b1 (0 + 1) = some (.string s369) ∧ (
 Does Tryz.prog 18 [(.pointer (some (⟨b3, 0, none⟩ : Addr))), (.string s369)] H10 fun v370 H371 => v370 = (.tuple #[]) ∧ (
 ∃ s372 : ByteArray, hcell H371 b1 (0 + 2) = some (.string s372) ∧ (
 Does Tryz.prog 18 [(.pointer (some (⟨b3, 0, none⟩ : Addr))), (.string s372)] H371 fun v373 H374 => v373 = (.tuple #[]) ∧ (
 ∃ b375 o376 : Nat, (some (⟨b3, 0, none⟩ : Addr)) = some (⟨b375, o376, none⟩ : Addr) ∧ (
 ∃ t377 : Bool, hcell H374 b375 (o376 + 1) = some (.bool t377) ∧ (
 ((t377 = true → (
 R (.tuple #[(.string (ByteArray.mk #[])), (.bool false)]) H374)) ∧ (t377 = false → (
 ∃ b378 o379 : Nat, (some (⟨b3, 0, none⟩ : Addr)) = some (⟨b378, o379, none⟩ : Addr) ∧ (
 ∃ s380 : ByteArray, hcell H374 b378 o379 = some (.string s380) ∧ (
 R (.tuple #[(.string s380), (.bool true)]) H374))))))))))))) ∧ (¬ ((n11 : Int) = 7) → (
 ((((n11 : Int) = 5) → (
 ((((n11 : Int) = 5) → (
 ∃ s381 : ByteArray, hcell H10 b1 (0 + 1) = some (.string s381) ∧ (
 Does Tryz.prog 18 [(.pointer (some (⟨b3, 0, none⟩ : Addr))), (.string s381)] H10 fun v382 H383 => v382 = (.tuple #[]) ∧ (
 ∃ s384 : ByteArray, hcell H383 b1 (0 + 2) = some (.string s384) ∧ (
 Does Tryz.prog 18 [(.pointer (some (⟨b3, 0, none⟩ : Addr))), (.string s384)] H383 fun v385 H386 => v385 = (.tuple #[]) ∧ (
 ∃ s387 : ByteArray, hcell H386 b1 (0 + 3) = some (.string s387) ∧ (
 Does Tryz.prog 18 [(.pointer (some (⟨b3, 0, none⟩ : Addr))), (.string s387)] H386 fun v388 H389 => v388 = (.tuple #[]) ∧ (
 ∃ b390 o391 : Nat, (some (⟨b3, 0, none⟩ : Addr)) = some (⟨b390, o391, none⟩ : Addr) ∧ (
 ∃ t392 : Bool, hcell H389 b390 (o391 + 1) = some (.bool t392) ∧ (
 ((t392 = true → (
 R (.tuple #[(.string (ByteArray.mk #[])), (.bool false)]) H389)) ∧ (t392 = false → (
 ∃ b393 o394 : Nat, (some (⟨b3, 0, none⟩ : Addr)) = some (⟨b393, o394, none⟩ : Addr) ∧ (
 ∃ s395 : ByteArray, hcell H389 b393 o394 = some (.string s395) ∧ (
 R (.tuple #[(.string s395), (.bool true)]) H389))))))))))))))) ∧ (¬ ((n11 : Int) = 5) → (
 ((((n11 : Int) = 8) → (
 ∃ s396 : ByteArray, hcell H10 b1 (0 + 1) = some (.string s396) ∧ (
 Does Tryz.prog 18 [(.pointer (some (⟨b3, 0, none⟩ : Addr))), (.string s396)] H10 fun v397 H398 => v397 = (.tuple #[]) ∧ (
 ∃ b399 o400 : Nat, (some (⟨b3, 0, none⟩ : Addr)) = some (⟨b399, o400, none⟩ : Addr) ∧ (
 ∃ t401 : Bool, hcell H398 b399 (o400 + 1) = some (.bool t401) ∧ (
 ((t401 = true → (
 R (.tuple #[(.string (ByteArray.mk #[])), (.bool false)]) H398)) ∧ (t401 = false → (
 ∃ b402 o403 : Nat, (some (⟨b3, 0, none⟩ : Addr)) = some (⟨b402, o403, none⟩ : Addr) ∧ (
 ∃ s404 : ByteArray, hcell H398 b402 o403 = some (.string s404) ∧ (
 R (.tuple #[(.string s404), (.bool true)]) H398))))))))))) ∧ (¬ ((n11 : Int) = 8) → (
 ((((n11 : Int) = 10) → (
 ∃ n405 : Int, hcell H10 b1 (0 + 12) = some (.int .i64 n405) ∧ (
 Does Tryz.prog 20 [(.pointer (some (⟨b3, 0, none⟩ : Addr))), (.int .i64 n405)] H10 fun v406 H407 => v406 = (.tuple #[]) ∧ (
 ∃ b408 o409 : Nat, (some (⟨b3, 0, none⟩ : Addr)) = some (⟨b408, o409, none⟩ : Addr) ∧ (
 ∃ t410 : Bool, hcell H407 b408 (o409 + 1) = some (.bool t410) ∧ (
 ((t410 = true → (
 R (.tuple #[(.string (ByteArray.mk #[])), (.bool false)]) H407)) ∧ (t410 = false → (
 ∃ b411 o412 : Nat, (some (⟨b3, 0, none⟩ : Addr)) = some (⟨b411, o412, none⟩ : Addr) ∧ (
 ∃ s413 : ByteArray, hcell H407 b411 o412 = some (.string s413) ∧ (
 R (.tuple #[(.string s413), (.bool true)]) H407))))))))))) ∧ (¬ ((n11 : Int) = 10) → (
 ((((n11 : Int) = 11) → (
 ∃ a414 : Option Addr, ∃ l415 : Nat, ∃ c416 : Nat, hcell H10 b1 (0 + 13) = some (.slice a414 l415 c416) ∧ (
 Does Tryz.prog 21 [(.pointer (some (⟨b3, 0, none⟩ : Addr))), (.slice a414 l415 c416)] H10 fun v417 H418 => v417 = (.tuple #[]) ∧ (
 ∃ b419 o420 : Nat, (some (⟨b3, 0, none⟩ : Addr)) = some (⟨b419, o420, none⟩ : Addr) ∧ (
 ∃ t421 : Bool, hcell H418 b419 (o420 + 1) = some (.bool t421) ∧ (
 ((t421 = true → (
 R (.tuple #[(.string (ByteArray.mk #[])), (.bool false)]) H418)) ∧ (t421 = false → (
 ∃ b422 o423 : Nat, (some (⟨b3, 0, none⟩ : Addr)) = some (⟨b422, o423, none⟩ : Addr) ∧ (
 ∃ s424 : ByteArray, hcell H418 b422 o423 = some (.string s424) ∧ (
 R (.tuple #[(.string s424), (.bool true)]) H418))))))))))) ∧ (¬ ((n11 : Int) = 11) → (
 ∃ b425 o426 : Nat, (some (⟨b3, 0, none⟩ : Addr)) = some (⟨b425, o426, none⟩ : Addr) ∧ (
 ∃ t427 : Bool, hcell H10 b425 (o426 + 1) = some (.bool t427) ∧ (
 ((t427 = true → (
 R (.tuple #[(.string (ByteArray.mk #[])), (.bool false)]) H10)) ∧ (t427 = false → (
 ∃ b428 o429 : Nat, (some (⟨b3, 0, none⟩ : Addr)) = some (⟨b428, o429, none⟩ : Addr) ∧ (
 ∃ s430 : ByteArray, hcell H10 b428 o429 = some (.string s430) ∧ (
 R (.tuple #[(.string s430), (.bool true)]) H10))))))))))))))))))))) ∧ (¬ ((n11 : Int) = 5) → (
 ((((n11 : Int) = 6) → (
 ∃ s431 : ByteArray, hcell H10 b1 (0 + 1) = some (.string s431) ∧ (
 Does Tryz.prog 18 [(.pointer (some (⟨b3, 0, none⟩ : Addr))), (.string s431)] H10 fun v432 H433 => v432 = (.tuple #[]) ∧ (
 ∃ s434 : ByteArray, hcell H433 b1 (0 + 2) = some (.string s434) ∧ (
 Does Tryz.prog 18 [(.pointer (some (⟨b3, 0, none⟩ : Addr))), (.string s434)] H433 fun v435 H436 => v435 = (.tuple #[]) ∧ (
 ∃ s437 : ByteArray, hcell H436 b1 (0 + 3) = some (.string s437) ∧ (
 Does Tryz.prog 18 [(.pointer (some (⟨b3, 0, none⟩ : Addr))), (.string s437)] H436 fun v438 H439 => v438 = (.tuple #[]) ∧ (
 ∃ b440 o441 : Nat, (some (⟨b3, 0, none⟩ : Addr)) = some (⟨b440, o441, none⟩ : Addr) ∧ (
 ∃ t442 : Bool, hcell H439 b440 (o441 + 1) = some (.bool t442) ∧ (
 ((t442 = true → (
 R (.tuple #[(.string (ByteArray.mk #[])), (.bool false)]) H439)) ∧ (t442 = false → (
 ∃ b443 o444 : Nat, (some (⟨b3, 0, none⟩ : Addr)) = some (⟨b443, o444, none⟩ : Addr) ∧ (
 ∃ s445 : ByteArray, hcell H439 b443 o444 = some (.string s445) ∧ (
 R (.tuple #[(.string s445), (.bool true)]) H439))))))))))))))) ∧ (¬ ((n11 : Int) = 6) → (
 ((((n11 : Int) = 8) → (
 ∃ s446 : ByteArray, hcell H10 b1 (0 + 1) = some (.string s446) ∧ (
 Does Tryz.prog 18 [(.pointer (some (⟨b3, 0, none⟩ : Addr))), (.string s446)] H10 fun v447 H448 => v447 = (.tuple #[]) ∧ (
 ∃ b449 o450 : Nat, (some (⟨b3, 0, none⟩ : Addr)) = some (⟨b449, o450, none⟩ : Addr) ∧ (
 ∃ t451 : Bool, hcell H448 b449 (o450 + 1) = some (.bool t451) ∧ (
 ((t451 = true → (
 R (.tuple #[(.string (ByteArray.mk #[])), (.bool false)]) H448)) ∧ (t451 = false → (
 ∃ b452 o453 : Nat, (some (⟨b3, 0, none⟩ : Addr)) = some (⟨b452, o453, none⟩ : Addr) ∧ (
 ∃ s454 : ByteArray, hcell H448 b452 o453 = some (.string s454) ∧ (
 R (.tuple #[(.string s454), (.bool true)]) H448))))))))))) ∧ (¬ ((n11 : Int) = 8) → (
 ((((n11 : Int) = 10) → (
 ∃ n455 : Int, hcell H10 b1 (0 + 12) = some (.int .i64 n455) ∧ (
 Does Tryz.prog 20 [(.pointer (some (⟨b3, 0, none⟩ : Addr))), (.int .i64 n455)] H10 fun v456 H457 => v456 = (.tuple #[]) ∧ (
 ∃ b458 o459 : Nat, (some (⟨b3, 0, none⟩ : Addr)) = some (⟨b458, o459, none⟩ : Addr) ∧ (
 ∃ t460 : Bool, hcell H457 b458 (o459 + 1) = some (.bool t460) ∧ (
 ((t460 = true → (
 R (.tuple #[(.string (ByteArray.mk #[])), (.bool false)]) H457)) ∧ (t460 = false → (
 ∃ b461 o462 : Nat, (some (⟨b3, 0, none⟩ : Addr)) = some (⟨b461, o462, none⟩ : Addr) ∧ (
 ∃ s463 : ByteArray, hcell H457 b461 o462 = some (.string s463) ∧ (
 R (.tuple #[(.string s463), (.bool true)]) H457))))))))))) ∧ (¬ ((n11 : Int) = 10) → (
 ((((n11 : Int) = 11) → (
 ∃ a464 : Option Addr, ∃ l465 : Nat, ∃ c466 : Nat, hcell H10 b1 (0 + 13) = some (.slice a464 l465 c466) ∧ (
 Does Tryz.prog 21 [(.pointer (some (⟨b3, 0, none⟩ : Addr))), (.slice a464 l465 c466)] H10 fun v467 H468 => v467 = (.tuple #[]) ∧ (
 ∃ b469 o470 : Nat, (some (⟨b3, 0, none⟩ : Addr)) = some (⟨b469, o470, none⟩ : Addr) ∧ (
 ∃ t471 : Bool, hcell H468 b469 (o470 + 1) = some (.bool t471) ∧ (
 ((t471 = true → (
 R (.tuple #[(.string (ByteArray.mk #[])), (.bool false)]) H468)) ∧ (t471 = false → (
 ∃ b472 o473 : Nat, (some (⟨b3, 0, none⟩ : Addr)) = some (⟨b472, o473, none⟩ : Addr) ∧ (
 ∃ s474 : ByteArray, hcell H468 b472 o473 = some (.string s474) ∧ (
 R (.tuple #[(.string s474), (.bool true)]) H468))))))))))) ∧ (¬ ((n11 : Int) = 11) → (
 ∃ b475 o476 : Nat, (some (⟨b3, 0, none⟩ : Addr)) = some (⟨b475, o476, none⟩ : Addr) ∧ (
 ∃ t477 : Bool, hcell H10 b475 (o476 + 1) = some (.bool t477) ∧ (
 ((t477 = true → (
 R (.tuple #[(.string (ByteArray.mk #[])), (.bool false)]) H10)) ∧ (t477 = false → (
 ∃ b478 o479 : Nat, (some (⟨b3, 0, none⟩ : Addr)) = some (⟨b478, o479, none⟩ : Addr) ∧ (
 ∃ s480 : ByteArray, hcell H10 b478 o479 = some (.string s480) ∧ (
 R (.tuple #[(.string s480), (.bool true)]) H10))))))))))))))))))))))))))))))))))))))))))))))) := by kernel_rfl


/-- (*pentimento/pentimentoref21.line).call -/
theorem RCallV (x0 : Option Addr) (x1_0 : Int) (x1_1 : ByteArray) (x1_2 : ByteArray) (x1_3 : Int) (x1_4 : Nat) (x1_5 : Int) (x1_6 : Int) (x1_7 : Option Addr) (x1_7l : Nat) (x1_7c : Nat) (H : Heap) (R : Value → Heap → Prop) : Walk Tryz.prog 19 [] [(.pointer x0), (.agg #[(.int .i64 x1_0), (.string x1_1), (.string x1_2), (.int .i64 x1_3), (.float .f64 x1_4), (.int .i64 x1_5), (.int .i64 x1_6), (.slice x1_7 x1_7l x1_7c)])] H R = (
 ∀ b1 : Nat, ∀ H2 : Heap, New H b1 [(.int .i64 x1_0), (.string x1_1), (.string x1_2), (.int .i64 x1_3), (.float .f64 x1_4), (.int .i64 x1_5), (.int .i64 x1_6), (.slice x1_7 x1_7l x1_7c)] 31 H2 → (
 ∃ n3 : Int, hcell H2 b1 0 = some (.int .i64 n3) ∧ (
 Does Tryz.prog 44 [(.int .i64 n3)] H2 fun v4 H5 => ∃ s6 : ByteArray, v4 = (.string s6) ∧ (
 ((((s6 : ByteArray) = (ByteArray.mk #[])) → (
 ∃ b7 o8 : Nat, x0 = some (⟨b7, o8, none⟩ : Addr) ∧ (
 Cells H5 b7 (o8 + 1) 1 ∧ ∀ H9 : Heap, Puts H5 b7 (o8 + 1) [(.bool true)] H9 → (
 R (.tuple #[]) H9)))) ∧ (¬ ((s6 : ByteArray) = (ByteArray.mk #[])) → (
 Does Tryz.prog 17 [(.pointer x0), (.string s6)] H5 fun v10 H11 => v10 = (.tuple #[]) ∧ (
 ∃ s12 : ByteArray, hcell H11 b1 (0 + 1) = some (.string s12) ∧ (
 Does Tryz.prog 18 [(.pointer x0), (.string s12)] H11 fun v13 H14 => v13 = (.tuple #[]) ∧ (
 ∃ n15 : Int, hcell H14 b1 0 = some (.int .i64 n15) ∧ (
 ((((n15 : Int) = 1) → (
 ((((n15 : Int) = 1) → (
 ∃ n16 : Int, hcell H14 b1 (0 + 3) = some (.int .i64 n16) ∧ (
 Does Tryz.prog 20 [(.pointer x0), (.int .i64 n16)] H14 fun v17 H18 => v17 = (.tuple #[]) ∧ (
 ∃ f19 : Nat, hcell H18 b1 (0 + 4) = some (.float .f64 f19) ∧ (
 Does Tryz.prog 41 [(.float .f64 f19)] H18 fun v20 H21 => ∃ s22 : ByteArray, v20 = (.string s22) ∧ (
 Does Tryz.prog 17 [(.pointer x0), (.string s22)] H21 fun v23 H24 => v23 = (.tuple #[]) ∧ (
 ∃ n25 : Int, hcell H24 b1 0 = some (.int .i64 n25) ∧ (
 ((((n25 : Int) = 2) → (
 ∃ a26 : Option Addr, ∃ l27 : Nat, ∃ c28 : Nat, hcell H24 b1 (0 + 7) = some (.slice a26 l27 c28) ∧ (
 Does Tryz.prog 21 [(.pointer x0), (.slice a26 l27 c28)] H24 fun v29 H30 => v29 = (.tuple #[]) ∧ (
 R (.tuple #[]) H30)))) ∧ (¬ ((n25 : Int) = 2) → (
 R (.tuple #[]) H24))))))))))) ∧ (¬ ((n15 : Int) = 1) → (
 ((((n15 : Int) = 3) → (
 ∃ n31 : Int, hcell H14 b1 (0 + 5) = some (.int .i64 n31) ∧ (
 Does Tryz.prog 20 [(.pointer x0), (.int .i64 n31)] H14 fun v32 H33 => v32 = (.tuple #[]) ∧ (
 ∃ a34 : Option Addr, ∃ l35 : Nat, ∃ c36 : Nat, hcell H33 b1 (0 + 7) = some (.slice a34 l35 c36) ∧ (
 Does Tryz.prog 21 [(.pointer x0), (.slice a34 l35 c36)] H33 fun v37 H38 => v37 = (.tuple #[]) ∧ (
 R (.tuple #[]) H38)))))) ∧ (¬ ((n15 : Int) = 3) → (
 ((((n15 : Int) = 4) → (
 ∃ n39 : Int, hcell H14 b1 (0 + 6) = some (.int .i64 n39) ∧ (
 Does Tryz.prog 20 [(.pointer x0), (.int .i64 n39)] H14 fun v40 H41 => v40 = (.tuple #[]) ∧ (
 R (.tuple #[]) H41)))) ∧ (¬ ((n15 : Int) = 4) → (
 ((((n15 : Int) = 7) → (
 ∃ f42 : Nat, hcell H14 b1 (0 + 4) = some (.float .f64 f42) ∧ (
 Does Tryz.prog 41 [(.float .f64 f42)] H14 fun v43 H44 => ∃ s45 : ByteArray, v43 = (.string s45) ∧ (
 Does Tryz.prog 17 [(.pointer x0), (.string s45)] H44 fun v46 H47 => v46 = (.tuple #[]) ∧ (
 ∃ a48 : Option Addr, ∃ l49 : Nat, ∃ c50 : Nat, hcell H47 b1 (0 + 7) = some (.slice a48 l49 c50) ∧ (
 Does Tryz.prog 21 [(.pointer x0), (.slice a48 l49 c50)] H47 fun v51 H52 => v51 = (.tuple #[]) ∧ (
 R (.tuple #[]) H52))))))) ∧ (¬ ((n15 : Int) = 7) → (
 ((((n15 : Int) = 9) → (
 ∃ s53 : ByteArray, hcell H14 b1 (0 + 2) = some (.string s53) ∧ (
 Does Tryz.prog 18 [(.pointer x0), (.string s53)] H14 fun v54 H55 => v54 = (.tuple #[]) ∧ (
 R (.tuple #[]) H55)))) ∧ (¬ ((n15 : Int) = 9) → (
 ((((n15 : Int) = 10) → (
 ∃ n56 : Int, hcell H14 b1 (0 + 3) = some (.int .i64 n56) ∧ (
 Does Tryz.prog 20 [(.pointer x0), (.int .i64 n56)] H14 fun v57 H58 => v57 = (.tuple #[]) ∧ (
 R (.tuple #[]) H58)))) ∧ (¬ ((n15 : Int) = 10) → (
 ((((n15 : Int) = 11) → (
 ∃ f59 : Nat, hcell H14 b1 (0 + 4) = some (.float .f64 f59) ∧ (
 Does Tryz.prog 41 [(.float .f64 f59)] H14 fun v60 H61 => ∃ s62 : ByteArray, v60 = (.string s62) ∧ (
 Does Tryz.prog 17 [(.pointer x0), (.string s62)] H61 fun v63 H64 => v63 = (.tuple #[]) ∧ (
 R (.tuple #[]) H64))))) ∧ (¬ ((n15 : Int) = 11) → (
 ((((n15 : Int) = 14) → (
 ∃ n65 : Int, hcell H14 b1 (0 + 5) = some (.int .i64 n65) ∧ (
 Does Tryz.prog 20 [(.pointer x0), (.int .i64 n65)] H14 fun v66 H67 => v66 = (.tuple #[]) ∧ (
 ∃ n68 : Int, hcell H67 b1 (0 + 6) = some (.int .i64 n68) ∧ (
 Does Tryz.prog 20 [(.pointer x0), (.int .i64 n68)] H67 fun v69 H70 => v69 = (.tuple #[]) ∧ (
 R (.tuple #[]) H70)))))) ∧ (¬ ((n15 : Int) = 14) → (
 R (.tuple #[]) H14)))))))))))))))))))))))))) ∧ (¬ ((n15 : Int) = 1) → (
 ((((n15 : Int) = 2) → (
 ∃ n71 : Int, hcell H14 b1 (0 + 3) = some (.int .i64 n71) ∧ (
 Does Tryz.prog 20 [(.pointer x0), (.int .i64 n71)] H14 fun v72 H73 => v72 = (.tuple #[]) ∧ (
 ∃ f74 : Nat, hcell H73 b1 (0 + 4) = some (.float .f64 f74) ∧ (
 Does Tryz.prog 41 [(.float .f64 f74)] H73 fun v75 H76 => ∃ s77 : ByteArray, v75 = (.string s77) ∧ (
 Does Tryz.prog 17 [(.pointer x0), (.string s77)] H76 fun v78 H79 => v78 = (.tuple #[]) ∧ (
 ∃ n80 : Int, hcell H79 b1 0 = some (.int .i64 n80) ∧ (
 ((((n80 : Int) = 2) → (
 ∃ a81 : Option Addr, ∃ l82 : Nat, ∃ c83 : Nat, hcell H79 b1 (0 + 7) = some (.slice a81 l82 c83) ∧ (
 Does Tryz.prog 21 [(.pointer x0), (.slice a81 l82 c83)] H79 fun v84 H85 => v84 = (.tuple #[]) ∧ (
 R (.tuple #[]) H85)))) ∧ (¬ ((n80 : Int) = 2) → (
 R (.tuple #[]) H79))))))))))) ∧ (¬ ((n15 : Int) = 2) → (
 ((((n15 : Int) = 3) → (
 ∃ n86 : Int, hcell H14 b1 (0 + 5) = some (.int .i64 n86) ∧ (
 Does Tryz.prog 20 [(.pointer x0), (.int .i64 n86)] H14 fun v87 H88 => v87 = (.tuple #[]) ∧ (
 ∃ a89 : Option Addr, ∃ l90 : Nat, ∃ c91 : Nat, hcell H88 b1 (0 + 7) = some (.slice a89 l90 c91) ∧ (
 Does Tryz.prog 21 [(.pointer x0), (.slice a89 l90 c91)] H88 fun v92 H93 => v92 = (.tuple #[]) ∧ (
 R (.tuple #[]) H93)))))) ∧ (¬ ((n15 : Int) = 3) → (
 ((((n15 : Int) = 4) → (
 ∃ n94 : Int, hcell H14 b1 (0 + 6) = some (.int .i64 n94) ∧ (
 Does Tryz.prog 20 [(.pointer x0), (.int .i64 n94)] H14 fun v95 H96 => v95 = (.tuple #[]) ∧ (
 R (.tuple #[]) H96)))) ∧ (¬ ((n15 : Int) = 4) → (
 ((((n15 : Int) = 7) → (
 ∃ f97 : Nat, hcell H14 b1 (0 + 4) = some (.float .f64 f97) ∧ (
 Does Tryz.prog 41 [(.float .f64 f97)] H14 fun v98 H99 => ∃ s100 : ByteArray, v98 = (.string s100) ∧ (
 Does Tryz.prog 17 [(.pointer x0), (.string s100)] H99 fun v101 H102 => v101 = (.tuple #[]) ∧ (
 ∃ a103 : Option Addr, ∃ l104 : Nat, ∃ c105 : Nat, hcell H102 b1 (0 + 7) = some (.slice a103 l104 c105) ∧ (
 Does Tryz.prog 21 [(.pointer x0), (.slice a103 l104 c105)] H102 fun v106 H107 => v106 = (.tuple #[]) ∧ (
 R (.tuple #[]) H107))))))) ∧ (¬ ((n15 : Int) = 7) → (
 ((((n15 : Int) = 9) → (
 ∃ s108 : ByteArray, hcell H14 b1 (0 + 2) = some (.string s108) ∧ (
 Does Tryz.prog 18 [(.pointer x0), (.string s108)] H14 fun v109 H110 => v109 = (.tuple #[]) ∧ (
 R (.tuple #[]) H110)))) ∧ (¬ ((n15 : Int) = 9) → (
 ((((n15 : Int) = 10) → (
 ∃ n111 : Int, hcell H14 b1 (0 + 3) = some (.int .i64 n111) ∧ (
 Does Tryz.prog 20 [(.pointer x0), (.int .i64 n111)] H14 fun v112 H113 => v112 = (.tuple #[]) ∧ (
 R (.tuple #[]) H113)))) ∧ (¬ ((n15 : Int) = 10) → (
 ((((n15 : Int) = 11) → (
 ∃ f114 : Nat, hcell H14 b1 (0 + 4) = some (.float .f64 f114) ∧ (
 Does Tryz.prog 41 [(.float .f64 f114)] H14 fun v115 H116 => ∃ s117 : ByteArray, v115 = (.string s117) ∧ (
 Does Tryz.prog 17 [(.pointer x0), (.string s117)] H116 fun v118 H119 => v118 = (.tuple #[]) ∧ (
 R (.tuple #[]) H119))))) ∧ (¬ ((n15 : Int) = 11) → (
 ((((n15 : Int) = 14) → (
 ∃ n120 : Int, hcell H14 b1 (0 + 5) = some (.int .i64 n120) ∧ (
 Does Tryz.prog 20 [(.pointer x0), (.int .i64 n120)] H14 fun v121 H122 => v121 = (.tuple #[]) ∧ (
 ∃ n123 : Int, hcell H122 b1 (0 + 6) = some (.int .i64 n123) ∧ (
 Does Tryz.prog 20 [(.pointer x0), (.int .i64 n123)] H122 fun v124 H125 => v124 = (.tuple #[]) ∧ (
 R (.tuple #[]) H125)))))) ∧ (¬ ((n15 : Int) = 14) → (
 R (.tuple #[]) H14)))))))))))))))))))))))))))))))))))))) := by kernel_rfl


/-- pentimento/pentimentoref21.full -/
theorem RFullV (x0 : Int) (H : Heap) (R : Value → Heap → Prop) : Walk Tryz.prog 40 [] [(.int .i64 x0)] H R = (
 ((((x0 : Int) < 0) → (
 (In64 (0 - x0)) ∧
 Does Tryz.prog 45 [(.int .i64 (0 - x0))] H fun v1 H2 => ∃ s3 : ByteArray, v1 = (.string s3) ∧ (
 (In64 (((ByteArray.size (ByteArray.mk #[45])) + (ByteArray.size s3) : Nat) : Int)) ∧
 R (.string ((ByteArray.mk #[45]) ++ s3)) H2))) ∧ (¬ ((x0 : Int) < 0) → (
 Does Tryz.prog 45 [(.int .i64 x0)] H fun v4 H5 => ∃ s6 : ByteArray, v4 = (.string s6) ∧ (
 R (.string s6) H5))))) := by kernel_rfl


end Go.Proofs
end

section
open Go Go.Vc
namespace Go.Proofs

/-! ### Said, and the words of kinds -/
theorem said_ok (s : ByteArray) (hs : s.size ≤ 1000000000) (H : Heap) : Does Tryz.prog 42 [.string s] H fun v H' => v = .string (textW s) ∧ Ext [] H H' := by
  refine Fn_of_vc Tryz.mixed (RSaidV _ _ _) ?_
  have hl := toList_size s
  refine ⟨fun t H' => t = (s.size != 0 && decide (s.size ≤ 120)) ∧ H' = H, ⟨fun h => ⟨?_, rfl⟩, fun h => ⟨?_, rfl⟩⟩, ?_⟩
  · have h0 : (s.size != 0) = true := by rw [bne_iff_ne]; omega
    rw [h0, Bool.true_and]
    exact dec_eq (by rw [decide_eq_true_eq]; omega)
  · have h0 : (s.size != 0) = false := by rw [bne_eq_false_iff_eq]; omega
    rw [h0, Bool.false_and]
  · rintro _ H3 ⟨rfl, hH⟩
    subst hH
    refine ⟨fun t n H' => ∃ k : Nat, n = k ∧ k ≤ s.size ∧ t = (s.size != 0 && decide (s.size ≤ 120) && (s.data.toList.take k).all okB) ∧ H' = H3, fun _ n _ => (s.size - n).toNat, ⟨0, rfl, by omega, by simp, rfl⟩, ?_⟩
    rintro t _ H4 ⟨k, rfl, hk, ht, hH⟩
    subst hH
    refine ⟨fun hlt => ⟨by omega, hlt, fun q e => ?_⟩, fun hge => ?_⟩
    · rw [Int.toNat_natCast] at e
      have nx : (s.data.toList.take (k + 1)).all okB = ((s.data.toList.take k).all okB && okB (s.data.toList.getD k 0)) := by
        rw [List.take_add_one, List.getElem?_eq_getElem (by omega)]
        simp [List.getD_eq_getElem?_getD, List.getElem?_eq_getElem (show k < s.data.toList.length by omega)]
      generalize s.data.toList.getD k 0 = c at *
      have okq : okB c = true ↔ (97 ≤ q ∧ q ≤ 122) ∨ (48 ≤ q ∧ q ≤ 57) ∨ q = 47 ∨ q = 46 ∨ q = 45 ∨ q = 95 := by
        unfold okB
        simp only [Bool.or_eq_true, Bool.and_eq_true, decide_eq_true_eq, beq_iff_eq]
        omega
      have go : ∀ u : Bool, u = (t && okB c) → In64 ((k : Int) + 1) ∧ (∃ j : Nat, (k : Int) + 1 = j ∧ j ≤ s.size ∧ u = (s.size != 0 && decide (s.size ≤ 120) && (s.data.toList.take j).all okB) ∧ H4 = H4) ∧ ((s.size : Int) - ((k : Int) + 1)).toNat < ((s.size : Int) - k).toNat := by
        intro u hu
        refine ⟨⟨by omega, by omega⟩, ⟨k + 1, by omega, by omega, ?_, rfl⟩, by omega⟩
        rw [hu, ht, nx, Bool.and_assoc]
      refine ⟨fun h => ?_, fun h => ?_⟩
      · subst h
        have yes : okB c = true → _ := fun h => go true (by rw [h]; rfl)
        have last : ¬ (97 ≤ q ∧ q ≤ 122) → ¬ (48 ≤ q ∧ q ≤ 57) → q ≠ 47 → q ≠ 46 → q ≠ 45 → _ := fun h1 h2 h3 h4 h5 => go (@decide (q = 95) (Classical.propDecidable _)) (dec_eq (by rw [Bool.true_and, okq]; omega))
        repeat' first
          | exact yes (okq.2 (by omega))
          | exact last (by omega) (by omega) (by omega) (by omega) (by omega)
          | refine ⟨fun h => ?_, fun h => ?_⟩
      · subst h
        exact go false (by rw [Bool.false_and])
    · have hkk : k = s.size := by omega
      subst hkk
      rw [← hl, List.take_length, hl] at ht
      have hp : t = plainT s := ht
      refine ⟨fun h => ⟨?_, Ext.refl _ _⟩, fun h => ?_⟩
      · unfold textW; rw [if_pos (by rw [← hp, h])]
      · intro c10 b11 H12 hn
        refine (rhex_ok (bs := s.data.toList) (NewB.srow hn) (by omega)).mono ?_
        rintro _ H14 ⟨rfl, rfl⟩
        refine ⟨_, rfl, ?_, hn.ext⟩
        unfold textW; rw [if_neg (by rw [← hp, h]; decide)]
end Go.Proofs
end

section
open Go Go.Vc
namespace Go.Proofs

theorem evword_ok (k : Int) (H : Heap) : Does Tryz.prog 16 [.int .i64 k] H fun v H' => v = .string (formK k).1 ∧ H = H' := by
  refine Fn_of_vc Tryz.mixed (REvV _ _ _) ?_
  refine ⟨fun h => ⟨by rw [formK_out (by omega)], rfl⟩, fun h1 => ⟨fun h => ⟨by rw [formK_out (by omega)], rfl⟩, fun h2 => ⟨by omega, by omega, by omega, fun s1 e1 => ?_⟩⟩⟩
  subst e1
  obtain ⟨i, rfl⟩ := fin_int (n := 11) (k := k) (by omega)
  refine ⟨congrArg _ ?_, rfl⟩
  revert i
  decide
theorem kdword_ok (k : Int) (H : Heap) : Does Tryz.prog 44 [.int .i64 k] H fun v H' => v = .string (formC k).1 ∧ H = H' := by
  refine Fn_of_vc Tryz.mixed (RKindV _ _ _) ?_
  refine ⟨fun h => ⟨by rw [formC_out (by omega)], rfl⟩, fun h1 => ⟨fun h => ⟨by rw [formC_out (by omega)], rfl⟩, fun h2 => ⟨by omega, by omega, by omega, fun s1 e1 => ?_⟩⟩⟩
  subst e1
  obtain ⟨i, rfl⟩ := fin_int (n := 15) (k := k) (by omega)
  refine ⟨congrArg _ ?_, rfl⟩
  revert i
  decide

/-! ### Words when something is bad -/
section
variable {H : Heap} {b : Nat} {ws : List WF}
theorem rword_raw {s : ByteArray} {t : Bool} (hb : Blk H b [.string s, .bool t]) (hs : s.size ≤ 5000000000000000) (x : ByteArray) (hx : x.size ≤ 3000000000) : Does Tryz.prog 17 [.pointer (some ⟨b, 0, none⟩), .string x] H fun v H' => v = .tuple #[] ∧ (∃ s' : ByteArray, Blk H' b [.string s', .bool t] ∧ s'.size ≤ s.size + x.size + 1) ∧ Ext [b] H H' := by
  refine Fn_of_vc Tryz.mixed (RWordV _ _ _ _) ?_
  have es32 : (ByteArray.mk #[32]).size = 1 := rfl
  refine ⟨b, 0, rfl, s, by rw [hb.cell]; rfl, fun hne => ?_, fun he => ?_⟩
  · refine ⟨b, 0, rfl, s, by rw [hb.cell]; rfl, ⟨by omega, by omega⟩, b, 0, rfl, hb.cells _ _ (by simp), fun H9 hp => ?_⟩
    have hb9 := hp.blk hb (by simp)
    simp only [splice, List.take_zero, List.nil_append, List.length_cons, List.length_nil, Nat.zero_add, List.drop_succ_cons, List.drop_zero] at hb9
    have esz : (s ++ ByteArray.mk #[32]).size = s.size + 1 := by rw [ByteArray.size_append, es32]
    refine ⟨b, 0, rfl, _, by rw [hb9.cell]; rfl, ⟨by omega, by omega⟩, b, 0, rfl, hb9.cells _ _ (by simp), fun H15 hp2 => ?_⟩
    have hb15 := hp2.blk hb9 (by simp)
    simp only [splice, List.take_zero, List.nil_append, List.length_cons, List.length_nil, Nat.zero_add, List.drop_succ_cons, List.drop_zero, List.cons_append] at hb15
    refine ⟨rfl, ⟨_, hb15, ?_⟩, hp.ext.trans hp2.ext⟩
    rw [ByteArray.size_append, esz]; omega
  · refine ⟨b, 0, rfl, s, by rw [hb.cell]; rfl, ⟨by omega, by omega⟩, b, 0, rfl, hb.cells _ _ (by simp), fun H15 hp2 => ?_⟩
    have hb15 := hp2.blk hb (by simp)
    simp only [splice, List.take_zero, List.nil_append, List.length_cons, List.length_nil, Nat.zero_add, List.drop_succ_cons, List.drop_zero, List.cons_append] at hb15
    refine ⟨rfl, ⟨_, hb15, ?_⟩, hp2.ext⟩
    rw [ByteArray.size_append]; omega

theorem len1 (ws : List WF) (w : WF) : (ws ++ [w]).length = ws.length + 1 := by simp
theorem len1s {ws : List WF} {w : WF} {n : Nat} (h : n ≤ ws.length * 4000000000 + 4000000000) : n ≤ (ws ++ [w]).length * 4000000000 := by rw [len1, Nat.add_mul]; omega
theorem RSt.any (h : RSt H b ws) : ∃ s : ByteArray, Blk H b [.string s, .bool (bad ws)] ∧ s.size ≤ ws.length * 4000000000 := by
  obtain ⟨⟨s, h1, h2, _⟩, _⟩ := h
  exact ⟨s, h1, h2⟩
theorem RSt.off {s : ByteArray} (h : Blk H b [.string s, .bool true]) (hb : bad ws = true) (hs : s.size ≤ ws.length * 4000000000) (hl : ws.length ≤ 1000000) : RSt H b ws := ⟨⟨s, by rw [hb]; exact h, hs, fun hf => by rw [hb] at hf; cases hf⟩, hl⟩
/-- The flag is set. -/
theorem RSt.flag (h : RSt H b ws) {x : Bool} {H' : Heap} (hp : Puts H b (0 + 1) [.bool x] H') : (x = bad ws → RSt H' b ws) ∧ (∃ s : ByteArray, Blk H' b [.string s, .bool x] ∧ s.size ≤ ws.length * 4000000000) ∧ Ext [b] H H' := by
  refine ⟨fun e => ?_, ?_, hp.ext⟩
  · subst e; exact (h.same hp).1
  · obtain ⟨s, h1, h2⟩ := h.any
    have := hp.blk h1 (by simp)
    exact ⟨s, by simpa [splice] using this, h2⟩

theorem rtextL_ok (h : RSt H b ws) (s : ByteArray) (hs : s.size ≤ 1000000000) (hl : ws.length < 1000000) : Does Tryz.prog 18 [.pointer (some ⟨b, 0, none⟩), .string s] H fun v H' => v = .tuple #[] ∧ RSt H' b (ws ++ [textF s]) ∧ Ext [b] H H' := by
  refine Fn_of_vc Tryz.mixed (RTextLV _ _ _ _) ?_
  have htw := @textW_size s
  have tail : ∀ (x : Bool) (H6 : Heap), x = (bad ws || decide (200 < s.size)) → Puts H b (0 + 1) [.bool x] H6 → Does Tryz.prog 42 [.string s] H6 fun v7 H8 => ∃ s9 : ByteArray, v7 = .string s9 ∧ Does Tryz.prog 17 [.pointer (some ⟨b, 0, none⟩), .string s9] H8 fun v10 H11 => v10 = .tuple #[] ∧ (Value.tuple #[] = .tuple #[] ∧ RSt H11 b (ws ++ [textF s]) ∧ Ext [b] H H11) := by
    intro x H6 hx hp
    obtain ⟨h1, ⟨t, h2, h2s⟩, hx6⟩ := h.flag hp
    refine (said_ok s hs H6).mono ?_
    rintro _ H8 ⟨rfl, hx8⟩
    refine ⟨_, rfl, ?_⟩
    by_cases hb : bad (ws ++ [textF s]) = true
    · have hxt : x = true := by rw [hx]; rw [bad_snoc] at hb; exact hb
      subst hxt
      have hm : ws.length * 4000000000 ≤ 1000000 * 4000000000 := Nat.mul_le_mul_right _ (by omega)
      refine (rword_raw (h2.ext hx8 (by simp)) (by omega) (textW s) (by omega)).mono ?_
      rintro _ H11 ⟨rfl, ⟨u, hu, hus⟩, hx11⟩
      exact ⟨rfl, rfl, RSt.off hu hb (len1s (by omega)) (by rw [len1]; exact hl), hx6.trans (hx8.any.trans hx11)⟩
    · have hb' : bad (ws ++ [textF s]) = false := by simpa using hb
      rw [bad_snoc, Bool.or_eq_false_iff] at hb'
      have hd : decide (200 < s.size) = false := hb'.2
      refine (rword_ok ((h1 (by rw [hx, hd, Bool.or_false])).more hx8) (textW s) (by omega) htw.2 hl).mono ?_
      rintro _ H11 ⟨rfl, h11, hx11⟩
      refine ⟨rfl, rfl, ?_, hx6.trans (hx8.any.trans hx11)⟩
      have e : textF s = (textW s, false) := by unfold textF; rw [hd]
      rw [e]; exact h11
  refine ⟨b, 0, rfl, _, h.wr, fun ht => ?_, fun ht => ?_⟩
  · exact ⟨b, 0, rfl, h.cellw, fun H6 hp => tail true H6 (by rw [ht, Bool.true_or]) hp⟩
  · exact ⟨b, 0, rfl, h.cellw, fun H6 hp => tail _ H6 (dec_eq (by rw [ht, Bool.false_or, decide_eq_true_eq]; omega)) hp⟩

theorem rbytesL_ok (h : RSt H b ws) {a : Option Addr} {n c : Nat} {bs : List UInt8} (hr : ∀ H', Ext [b] H H' → SRow H' 1 n (.slice a n c) (bytesV bs)) (hn : n ≤ 1000000000) (hl : ws.length < 1000000) : Does Tryz.prog 21 [.pointer (some ⟨b, 0, none⟩), .slice a n c] H fun v H' => v = .tuple #[] ∧ RSt H' b (ws ++ [bytesF bs]) ∧ Ext [b] H H' := by
  have hln := srow_len (hr H (Ext.refl _ _))
  rw [bytesV_length] at hln
  refine Fn_of_vc Tryz.mixed (RBytesLV _ _ _ _ _ _) ?_
  have off : ∀ (x : Bool) (H6 : Heap), x = true → x = (bad ws || decide (3000 < n)) → Puts H b (0 + 1) [.bool x] H6 → Value.tuple #[] = .tuple #[] ∧ RSt H6 b (ws ++ [bytesF bs]) ∧ Ext [b] H H6 := by
    intro x H6 hxt hx hp
    subst hxt
    obtain ⟨_, ⟨t, h2, h2s⟩, hx6⟩ := h.flag hp
    exact ⟨rfl, RSt.off h2 (by rw [bad_snoc]; show (bad ws || decide (3000 < bs.length)) = true; rw [hln, ← hx]) (len1s (Nat.le_trans h2s (Nat.le_add_right _ _))) (by rw [len1]; exact hl), hx6⟩
  have on : ∀ (x : Bool) (H6 : Heap), x = false → x = (bad ws || decide (3000 < n)) → Puts H b (0 + 1) [.bool x] H6 → Does Tryz.prog 43 [.slice a n c] H6 fun v H11 => ∃ s12 : ByteArray, v = .string s12 ∧ Does Tryz.prog 17 [.pointer (some ⟨b, 0, none⟩), .string s12] H11 fun v13 H14 => v13 = .tuple #[] ∧ (Value.tuple #[] = .tuple #[] ∧ RSt H14 b (ws ++ [bytesF bs]) ∧ Ext [b] H H14) := by
    intro x H6 hxf hx hp
    subst hxf
    have hx' := hx.symm
    rw [Bool.or_eq_false_iff] at hx'
    obtain ⟨h1, _, hx6⟩ := h.flag hp
    refine (rhex_ok (hr H6 hx6) hn).mono ?_
    rintro _ H11 ⟨rfl, rfl⟩
    refine ⟨_, rfl, ?_⟩
    have hz := hexB_size bs
    refine (rword_ok (h1 hx'.1.symm) (hexB bs) (by omega) (by omega) hl).mono ?_
    rintro _ H14 ⟨rfl, h14, hx14⟩
    refine ⟨rfl, rfl, ?_, hx6.trans hx14⟩
    have e : bytesF bs = (hexB bs, false) := by unfold bytesF; rw [hln, hx'.2]
    rw [e]; exact h14
  have fl : ∀ (x : Bool) (H6 : Heap), Puts H b (0 + 1) [.bool x] H6 → hcell H6 b (0 + 1) = some (.bool x) := by
    intro x H6 hp
    obtain ⟨_, ⟨t, h2, _⟩, _⟩ := h.flag hp
    rw [h2.cell]; rfl
  refine ⟨b, 0, rfl, _, h.wr, fun ht => ?_, fun ht => ?_⟩
  · refine ⟨b, 0, rfl, h.cellw, fun H6 hp => ⟨b, 0, rfl, _, fl _ _ hp, ⟨fun hf => absurd hf (by decide), fun _ => ?_⟩⟩⟩
    exact off true H6 rfl (by rw [ht, Bool.true_or]) hp
  · refine ⟨b, 0, rfl, h.cellw, fun H6 hp => ⟨b, 0, rfl, _, fl _ _ hp, ?_⟩⟩
    have e : @decide ((3000 : Int) < (n : Int)) (Classical.propDecidable _) = (bad ws || decide (3000 < n)) := dec_eq (by rw [ht, Bool.false_or, decide_eq_true_eq]; omega)
    refine ⟨fun hf => on _ H6 hf e hp, fun hf => off _ H6 (by simpa using hf) e hp⟩
end

theorem rfull_ok {n : Int} (hn : In64 n) (h0 : In64 (0 - n)) (H : Heap) : Does Tryz.prog 40 [.int .i64 n] H fun v H' => v = .string (intS n) ∧ Ext [] H H' := by
  refine Fn_of_vc Tryz.mixed (RFullV _ _ _) ?_
  obtain ⟨a, b⟩ := hn
  obtain ⟨a', b'⟩ := h0
  refine ⟨fun h => ⟨⟨a', b'⟩, ?_⟩, fun h => ?_⟩
  · have e : 0 - n = (n.natAbs : Int) := by omega
    rw [e]
    refine (rdig_ok (n.natAbs + 1) n.natAbs (by omega) (by omega) H).mono ?_
    rintro _ H2 ⟨rfl, hx⟩
    have hz := (intS_size (n := n) ⟨a, b⟩).1
    have e2 : intS n = ByteArray.mk #[45] ++ ByteArray.mk (decL n.natAbs).toArray := by
      unfold intS
      rw [if_pos h, show ByteArray.mk #[45] = ByteArray.mk [45].toArray from rfl, ba_app]
      rfl
    have h45 : (ByteArray.mk #[45]).size = 1 := rfl
    rw [e2, ByteArray.size_append] at hz
    exact ⟨_, rfl, ⟨by omega, by omega⟩, by rw [e2], hx⟩
  · obtain ⟨k, rfl⟩ : ∃ k : Nat, n = k := ⟨n.toNat, by omega⟩
    refine (rdig_ok (k + 1) k (by omega) (by omega) H).mono ?_
    rintro _ H2 ⟨rfl, hx⟩
    exact ⟨_, rfl, by rw [intS_nat], hx⟩
end Go.Proofs
end

section
open Go Go.Vc
namespace Go.Proofs

/-! ### The line of a thing that is copied -/
structure CSt (H0 H : Heap) (b b1 : Nat) (xs : List Value) (a : Option Addr) (n c : Nat) (bs : List UInt8) (ws : List WF) : Prop where
  line : RSt H b ws
  copy : Blk H b1 xs
  keep : ∀ H', Ext [b] H0 H' → SRow H' 1 n (.slice a n c) (bytesV bs)
  ne : b1 ≠ b
  few : n ≤ 1000000000
  short : ws.length < 999990
  ext : Ext [b] H0 H

section
variable {H0 H : Heap} {b b1 : Nat} {xs : List Value} {a : Option Addr} {n c : Nat} {bs : List UInt8} {ws : List WF}
theorem CSt.step (h : CSt H0 H b b1 xs a n c bs ws) {H' : Heap} {w : WF} (hs : ws.length < 999980) (hl : RSt H' b (ws ++ [w])) (hx : Ext [b] H H') : CSt H0 H' b b1 xs a n c bs (ws ++ [w]) :=
  ⟨hl, h.copy.ext hx (by simpa using h.ne), h.keep, h.ne, h.few, by simp; omega, h.ext.trans hx⟩

variable {Q : Heap → Prop}
theorem cs_kind {X : Int → Prop} {j : Nat} {m : Int} (h : CSt H0 H b b1 xs a n c bs ws) (hc : xs[j]? = some (.int .i64 m)) (k : X m) : ∃ m : Int, hcell H b1 j = some (.int .i64 m) ∧ X m := ⟨m, by rw [h.copy.cell]; exact hc, k⟩
theorem cs_num {j : Nat} {m : Int} (h : CSt H0 H b b1 xs a n c bs ws) (hs : ws.length < 1000) (hc : xs[j]? = some (.int .i64 m)) (hm : In64 m) (k : ∀ H', CSt H0 H' b b1 xs a n c bs (ws ++ [numF m]) → Q H') :
    ∃ m : Int, hcell H b1 j = some (.int .i64 m) ∧ Does Tryz.prog 20 [.pointer (some ⟨b, 0, none⟩), .int .i64 m] H fun v H' => v = .tuple #[] ∧ Q H' := by
  refine ⟨m, by rw [h.copy.cell]; exact hc, (rnum_ok h.line hm (by omega)).mono ?_⟩
  rintro v H' ⟨rfl, h1, h2⟩
  exact ⟨rfl, k H' (h.step (by omega) h1 h2)⟩
theorem cs_text {j : Nat} {s : ByteArray} (h : CSt H0 H b b1 xs a n c bs ws) (hs : ws.length < 1000) (hc : xs[j]? = some (.string s)) (hm : s.size ≤ 1000000000) (k : ∀ H', CSt H0 H' b b1 xs a n c bs (ws ++ [textF s]) → Q H') :
    ∃ s : ByteArray, hcell H b1 j = some (.string s) ∧ Does Tryz.prog 18 [.pointer (some ⟨b, 0, none⟩), .string s] H fun v H' => v = .tuple #[] ∧ Q H' := by
  refine ⟨s, by rw [h.copy.cell]; exact hc, (rtextL_ok h.line s hm (by omega)).mono ?_⟩
  rintro v H' ⟨rfl, h1, h2⟩
  exact ⟨rfl, k H' (h.step (by omega) h1 h2)⟩
theorem cs_bytes {j : Nat} (h : CSt H0 H b b1 xs a n c bs ws) (hs : ws.length < 1000) (hc : xs[j]? = some (.slice a n c)) (k : ∀ H', CSt H0 H' b b1 xs a n c bs (ws ++ [bytesF bs]) → Q H') :
    ∃ a : Option Addr, ∃ n : Nat, ∃ c : Nat, hcell H b1 j = some (.slice a n c) ∧ Does Tryz.prog 21 [.pointer (some ⟨b, 0, none⟩), .slice a n c] H fun v H' => v = .tuple #[] ∧ Q H' := by
  refine ⟨a, n, c, by rw [h.copy.cell]; exact hc, (rbytesL_ok h.line (fun H' hx => h.keep H' (h.ext.trans hx)) h.few (by omega)).mono ?_⟩
  rintro v H' ⟨rfl, h1, h2⟩
  exact ⟨rfl, k H' (h.step (by omega) h1 h2)⟩
theorem cs_time {j : Nat} {t : Nat} (h : CSt H0 H b b1 xs a n c bs ws) (hs : ws.length < 1000) (hc : xs[j]? = some (.float .f64 t)) (hm : t < 18446744073709551616) (k : ∀ H', CSt H0 H' b b1 xs a n c bs (ws ++ [timeF t]) → Q H') :
    ∃ t : Nat, hcell H b1 j = some (.float .f64 t) ∧ Does Tryz.prog 41 [.float .f64 t] H fun v H1 => ∃ s : ByteArray, v = .string s ∧ Does Tryz.prog 17 [.pointer (some ⟨b, 0, none⟩), .string s] H1 fun v H' => v = .tuple #[] ∧ Q H' := by
  refine ⟨t, by rw [h.copy.cell]; exact hc, (rtext_ok hm H).mono ?_⟩
  rintro _ H1 ⟨rfl, hx⟩
  refine ⟨_, rfl, (rword_ok (h.line.more hx) _ ?_ ?_ (by omega)).mono ?_⟩
  · rw [hexS_size]; omega
  · rw [hexS_size]; omega
  · rintro v H' ⟨rfl, h1, h2⟩
    exact ⟨rfl, k H' (h.step (by omega) h1 (hx.any.trans h2))⟩
end

def clL (e : Cl) (da : Option Addr) (dl dc : Nat) : List Value :=
  [.int .i64 e.kind, .string e.path, .string e.to, .int .i64 e.mode, .float .f64 e.time, .int .i64 e.pos, .int .i64 e.n, .slice da dl dc]
abbrev clA (e : Cl) (da : Option Addr) (dl dc : Nat) : Value :=
  .agg #[.int .i64 e.kind, .string e.path, .string e.to, .int .i64 e.mode, .float .f64 e.time, .int .i64 e.pos, .int .i64 e.n, .slice da dl dc]

theorem formC_some : ∀ i : Fin 15, (formC ((i.val : Int) + 1)).1 ≠ ⟨#[]⟩ := by decide
theorem formK_some : ∀ i : Fin 11, (formK ((i.val : Int) + 1)).1 ≠ ⟨#[]⟩ := by decide
theorem ba0 {s : ByteArray} (h : s.size = 0) : s = ⟨#[]⟩ := ByteArray.ext (Array.toList_inj.1 (size0 h))
theorem rcall_ok {H : Heap} {b : Nat} {ws : List WF} {e : Ev} {da : Option Addr} {dl dc : Nat} (h : RSt H b ws) (hd : ∀ H', Ext [b] H H' → SRow H' 1 dl (.slice da dl dc) (bytesV e.call.data)) (he : EvOk e) (hl : ws.length < 500) :
    Does Tryz.prog 19 [.pointer (some ⟨b, 0, none⟩), clA e.call da dl dc] H fun v H' => v = .tuple #[] ∧ RSt H' b (ws ++ formF e (formC e.call.kind)) ∧ Ext [b] H H' := by
  have hdl := srow_len (hd H (Ext.refl _ _))
  rw [bytesV_length] at hdl
  have h1 := he.data
  have h2 := he.path
  have h3 := he.cto
  have h4 := he.mode
  have h5 := he.pos
  have h6 := he.cn
  have h7 := he.time
  refine Fn_of_vc Tryz.mixed (RCallV _ _ _ _ _ _ _ _ _ _ _ _ _) ?_
  intro b1 H2 hn
  have hb1 := hn.eq
  have hbl := h.lt
  have hcs : CSt H H2 b b1 (clL e.call da dl dc) da dl dc e.call.data ws := ⟨h.more hn.ext, hn.blk, hd, by omega, by omega, by omega, hn.ext.any⟩
  refine cs_kind hcs rfl ?_
  refine (kdword_ok e.call.kind H2).mono ?_
  rintro _ H5 ⟨rfl, rfl⟩
  refine ⟨_, rfl, fun h0 => ?_, fun h0 => ?_⟩
  · refine ⟨b, 0, rfl, hcs.line.cellw, fun H9 hp => ⟨rfl, ?_⟩⟩
    have hout : formC e.call.kind = (⟨#[]⟩, []) := by
      apply formC_out
      intro hk
      obtain ⟨i, hi⟩ := fin_int (n := 15) hk
      rw [hi] at h0
      exact formC_some i h0
    obtain ⟨r1, r2⟩ := hcs.line.badset ⟨#[]⟩ hp (by omega)
    rw [hout]
    exact ⟨r1, hn.ext.any.trans r2⟩
  · have hk : 1 ≤ e.call.kind ∧ e.call.kind ≤ 15 := Classical.byContradiction fun hk => h0 (by rw [formC_out hk])
    have hz := (formC_len e.call.kind).2
    have hne : (formC e.call.kind).1.size ≠ 0 := fun hz => h0 (ba0 hz)
    refine (rword_ok hcs.line _ (by omega) hne (by omega)).mono ?_
    rintro _ H11 ⟨rfl, h11, hx11⟩
    refine ⟨rfl, ?_⟩
    have c11 := hcs.step (by omega) h11 hx11
    have hl1 : (ws ++ [((formC e.call.kind).1, false)]).length < 501 := by simp; omega
    refine cs_text c11 (by omega) (s := e.call.path) rfl h2 fun H14 c14 => ?_
    refine cs_kind c14 rfl ?_
    have hl2 : (ws ++ [((formC e.call.kind).1, false)] ++ [textF e.call.path]).length < 502 := by simp; omega
    have fin : ∀ (H' : Heap) (l : List Fld) (ws' : List WF), CSt H H' b b1 (clL e.call da dl dc) da dl dc e.call.data ws' → (formC e.call.kind).2 = .path :: l → ws' = ws ++ [((formC e.call.kind).1, false)] ++ [textF e.call.path] ++ l.map (fldW e) → Value.tuple #[] = .tuple #[] ∧ RSt H' b (ws ++ formF e (formC e.call.kind)) ∧ Ext [b] H H' := by
      intro H' l ws' hc e1 e2
      refine ⟨rfl, ?_, hc.ext⟩
      have e3 : formF e (formC e.call.kind) = ((formC e.call.kind).1, false) :: textF e.call.path :: l.map (fldW e) := by
        unfold formF
        rw [e1, decide_eq_false hne]
        rfl
      rw [e3]
      have := hc.line
      rw [e2] at this
      simpa using this
    generalize hW : ws ++ [((formC e.call.kind).1, false)] ++ [textF e.call.path] = W at *
    have hk2 : e.call.kind = 1 ∨ e.call.kind = 2 ∨ e.call.kind = 3 ∨ e.call.kind = 4 ∨ e.call.kind = 5 ∨ e.call.kind = 6 ∨ e.call.kind = 7 ∨ e.call.kind = 8 ∨ e.call.kind = 9 ∨ e.call.kind = 10 ∨ e.call.kind = 11 ∨ e.call.kind = 12 ∨ e.call.kind = 13 ∨ e.call.kind = 14 ∨ e.call.kind = 15 := by omega
    rcases hk2 with hk | hk | hk | hk | hk | hk | hk | hk | hk | hk | hk | hk | hk | hk | hk
    all_goals
      repeat' first
        | exact fin _ [] _ (by assumption) (by rw [hk]; rfl) (by simp)
        | exact fin _ [.cto] _ (by assumption) (by rw [hk]; rfl) (by simp [fldW])
        | exact fin _ [.mode] _ (by assumption) (by rw [hk]; rfl) (by simp [fldW])
        | exact fin _ [.time] _ (by assumption) (by rw [hk]; rfl) (by simp [fldW])
        | exact fin _ [.cn] _ (by assumption) (by rw [hk]; rfl) (by simp [fldW])
        | exact fin _ [.mode, .time] _ (by assumption) (by rw [hk]; rfl) (by simp [fldW])
        | exact fin _ [.mode, .time, .data] _ (by assumption) (by rw [hk]; rfl) (by simp [fldW])
        | exact fin _ [.pos, .data] _ (by assumption) (by rw [hk]; rfl) (by simp [fldW])
        | exact fin _ [.time, .data] _ (by assumption) (by rw [hk]; rfl) (by simp [fldW])
        | exact fin _ [.pos, .cn] _ (by assumption) (by rw [hk]; rfl) (by simp [fldW])
        | refine ⟨fun h => absurd h (by omega), fun _ => ?_⟩
        | refine ⟨fun _ => ?_, fun h => absurd hk h⟩
        | refine cs_num (by assumption) (by first | omega | (simp; omega)) (m := e.call.mode) (by rfl) (by assumption) fun H' c' => ?_
        | refine cs_num (by assumption) (by first | omega | (simp; omega)) (m := e.call.pos) (by rfl) (by assumption) fun H' c' => ?_
        | refine cs_num (by assumption) (by first | omega | (simp; omega)) (m := e.call.n) (by rfl) (by assumption) fun H' c' => ?_
        | refine cs_text (by assumption) (by first | omega | (simp; omega)) (s := e.call.to) (by rfl) (by assumption) fun H' c' => ?_
        | refine cs_time (by assumption) (by first | omega | (simp; omega)) (t := e.call.time) (by rfl) (by assumption) fun H' c' => ?_
        | refine cs_bytes (by assumption) (by first | omega | (simp; omega)) (by rfl) fun H' c' => ?_
        | refine cs_kind (by assumption) (m := e.call.kind) (by rfl) ?_
end Go.Proofs
end

section
open Go Go.Vc
namespace Go.Proofs

theorem rprint_end {H H0 H1 : Heap} {b b1 : Nat} {e : Ev} {xs : List Value} {a : Option Addr} {n c : Nat} {bs : List UInt8} {ws : List WF} (h : CSt H0 H1 b b1 xs a n c bs ws) (hl : ws = lineF e) (hx : Ext [] H H1) :
    ∃ b27 o28 : Nat, (some (⟨b, 0, none⟩ : Addr)) = some (⟨b27, o28, none⟩ : Addr) ∧ (
      ∃ t29 : Bool, hcell H1 b27 (o28 + 1) = some (.bool t29) ∧ (
        ((t29 = true → (
          Value.tuple #[(.string (ByteArray.mk #[])), (.bool false)] = .tuple #[.string (printE e).1, .bool (printE e).2] ∧ Ext [] H H1)) ∧ (t29 = false → (
          ∃ b30 o31 : Nat, (some (⟨b, 0, none⟩ : Addr)) = some (⟨b30, o31, none⟩ : Addr) ∧ (
            ∃ s32 : ByteArray, hcell H1 b30 o31 = some (.string s32) ∧ (
            Value.tuple #[(.string s32), (.bool true)] = .tuple #[.string (printE e).1, .bool (printE e).2] ∧ Ext [] H H1))))))) := by
  subst hl
  refine ⟨b, 0, rfl, _, h.line.wr, fun hb => ⟨?_, hx⟩, fun hb => ?_⟩
  · unfold printE; rw [if_pos hb]
  · obtain ⟨⟨s, hbk, _, hs⟩, _⟩ := h.line
    refine ⟨b, 0, rfl, s, by rw [hbk.cell]; rfl, ?_, hx⟩
    unfold printE
    rw [if_neg (by rw [hb]; decide), (hs hb).1]
    rfl

theorem rprint_ok {H : Heap} {e : Ev} {da ma : Option Addr} {dl dc ml mc : Nat} (hr : Rows H e da dl dc ma ml mc) (he : EvOk e) : Does Tryz.prog 6 [evA e da dl dc ma ml mc] H fun v H' => v = .tuple #[.string (printE e).1, .bool (printE e).2] ∧ Ext [] H H' := by
  have hdl := hr.dl
  have hml := hr.ml
  have h1 := he.data
  have h2 := he.mask
  have h3 := he.name
  have h4 := he.to
  have h5 := he.more
  have h6 := he.n
  refine Fn_of_vc Tryz.mixed (RPrintV _ _ _ _ _ _ _ _ _ _ _ _ _ _ _ _ _ _ _ _) ?_
  intro b1 H2 hn1 b3 H4 hn3
  have e1 := hn1.eq
  have e3 := hn3.eq
  have s2 := hn1.size
  have s4 := hn3.size
  have hx4 : Ext [] H H4 := hn1.ext.trans hn3.ext
  have hb4 : Blk H4 b1 (evL e da dl dc ma ml mc) := hn1.blk.ext hn3.ext (by simp)
  have up : ∀ H', Ext [b3] H4 H' → Ext [] H H' := fun H' hx => hx4.trans' hx (fun i hi => .inl (by simp only [List.mem_singleton] at hi; omega))
  have st : ∀ {a : Option Addr} {n c : Nat} {bs : List UInt8}, SRow H 1 n (.slice a n c) (bytesV bs) → n ≤ 1000000000 → CSt H4 H4 b3 b1 (evL e da dl dc ma ml mc) a n c bs [] := fun hrow hn =>
    ⟨RSt.new hn3.blk, hb4, fun H' hx => srow_ext hrow (up H' hx), by omega, hn, by simp, Ext.refl _ _⟩
  refine ⟨_, by rw [hb4.cell]; rfl, ?_⟩
  refine (evword_ok e.kind H4).mono ?_
  rintro _ H7 ⟨rfl, rfl⟩
  refine ⟨_, rfl, fun h0 => ?_, fun h0 => ?_⟩
  · have hout : formK e.kind = (⟨#[]⟩, []) := by
      apply formK_out
      intro hk
      obtain ⟨i, hi⟩ := fin_int (n := 11) hk
      rw [hi] at h0
      exact formK_some i h0
    refine ⟨?_, hx4⟩
    unfold printE
    rw [if_pos]
    unfold lineF
    rw [hout]
    simp [bad, formF]
    exact .inl rfl
  · have hk : 1 ≤ e.kind ∧ e.kind ≤ 11 := Classical.byContradiction fun hk => h0 (by rw [formK_out hk])
    have hz := (formK_len e.kind).2
    have hne : (formK e.kind).1.size ≠ 0 := fun hz => h0 (ba0 hz)
    obtain ⟨a, n, c, bs, c4, hd11, hdn⟩ : ∃ a n c bs, CSt H4 H4 b3 b1 (evL e da dl dc ma ml mc) a n c bs [] ∧ (e.kind = 11 → (ma = a ∧ ml = n ∧ mc = c) ∧ e.mask = bs) ∧ (¬ e.kind = 11 → (da = a ∧ dl = n ∧ dc = c) ∧ e.call.data = bs) := by
      by_cases h11 : e.kind = 11
      · exact ⟨_, _, _, _, st hr.mask (by omega), fun _ => ⟨⟨rfl, rfl, rfl⟩, rfl⟩, fun h => absurd h11 h⟩
      · exact ⟨_, _, _, _, st hr.data (by omega), fun h => absurd h h11, fun _ => ⟨⟨rfl, rfl, rfl⟩, rfl⟩⟩
    refine (rword_ok c4.line _ (by omega) hne (by simp)).mono ?_
    rintro _ H10 ⟨rfl, h10, hx10⟩
    refine ⟨rfl, ?_⟩
    have c10 := c4.step (by simp) h10 hx10
    rw [List.nil_append] at c10
    refine cs_kind c10 rfl ?_
    have fin : ∀ (H' : Heap) (l : List Fld) (ws' : List WF), CSt H4 H' b3 b1 (evL e da dl dc ma ml mc) a n c bs ws' → (formK e.kind).2 = l → ¬ e.kind = 1 → ws' = [((formK e.kind).1, false)] ++ l.map (fldW e) → _ := fun H' l ws' hc e1 e2 e3 => rprint_end (H := H) (e := e) hc (by
      rw [e3]
      unfold lineF formF
      rw [if_neg e2, e1, decide_eq_false hne, List.append_nil]
      rfl) (up H' hc.ext)
    have hk2 : e.kind = 1 ∨ e.kind = 2 ∨ e.kind = 3 ∨ e.kind = 4 ∨ e.kind = 5 ∨ e.kind = 6 ∨ e.kind = 7 ∨ e.kind = 8 ∨ e.kind = 9 ∨ e.kind = 10 ∨ e.kind = 11 := by omega
    rcases hk2 with hk | hk | hk | hk | hk | hk | hk | hk | hk | hk | hk
    · obtain ⟨⟨rfl, rfl, rfl⟩, rfl⟩ := hdn (by omega)
      refine ⟨fun _ => ?_, fun h => absurd hk h⟩
      refine cs_text c10 (by simp) (s := e.name) rfl h3 fun H14 c14 => ?_
      have cc := c14.copy
      refine ⟨_, cc.cell _, _, cc.cell _, _, cc.cell _, _, cc.cell _, _, cc.cell _, _, cc.cell _, _, cc.cell _, _, _, _, cc.cell _, ?_⟩
      refine (rcall_ok (e := e) c14.line (fun H' hx => c14.keep H' (c14.ext.trans hx)) he (by simp)).mono ?_
      rintro _ H26 ⟨rfl, h26, hx26⟩
      refine ⟨rfl, ?_⟩
      have hlen := formC_len e.call.kind
      have c26 : CSt H4 H26 b3 b1 (evL e da dl dc ma ml mc) da dl dc e.call.data (([((formK e.kind).1, false)] ++ [textF e.name]) ++ formF e (formC e.call.kind)) :=
        ⟨h26, cc.ext hx26 (by simpa using c14.ne), c14.keep, c14.ne, c14.few, by unfold formF; simp; omega, c14.ext.trans hx26⟩
      refine rprint_end (H := H) (e := e) c26 ?_ (up H26 c26.ext)
      unfold lineF
      rw [if_pos hk]
      congr 1
      rw [hk]
      rfl
    all_goals
      first
        | (have hq := hd11 hk; obtain ⟨⟨rfl, rfl, rfl⟩, rfl⟩ := hq)
        | (have hq := hdn (fun h => absurd (hk.symm.trans h) (by decide)); obtain ⟨⟨rfl, rfl, rfl⟩, rfl⟩ := hq)
      repeat' first
        | exact fin _ [] _ (by assumption) (by rw [hk]; rfl) (by omega) (by simp)
        | exact fin _ [.name] _ (by assumption) (by rw [hk]; rfl) (by omega) (by simp [fldW])
        | exact fin _ [.n] _ (by assumption) (by rw [hk]; rfl) (by omega) (by simp [fldW])
        | exact fin _ [.mask] _ (by assumption) (by rw [hk]; rfl) (by omega) (by simp [fldW])
        | exact fin _ [.name, .to] _ (by assumption) (by rw [hk]; rfl) (by omega) (by simp [fldW])
        | exact fin _ [.name, .to, .more] _ (by assumption) (by rw [hk]; rfl) (by omega) (by simp [fldW])
        | refine ⟨fun h => absurd h (by omega), fun _ => ?_⟩
        | refine ⟨fun _ => ?_, fun h => absurd hk h⟩
        | refine cs_num (by assumption) (by simp) (m := e.n) (by rfl) (by assumption) fun H' c' => ?_
        | refine cs_text (by assumption) (by simp) (s := e.name) (by rfl) (by assumption) fun H' c' => ?_
        | refine cs_text (by assumption) (by simp) (s := e.to) (by rfl) (by assumption) fun H' c' => ?_
        | refine cs_text (by assumption) (by simp) (s := e.more) (by rfl) (by assumption) fun H' c' => ?_
        | refine cs_bytes (by assumption) (by simp) (by rfl) fun H' c' => ?_
end Go.Proofs
end

section
open Go Go.Vc
namespace Go.Proofs

/-! ### The document's parsing, plainly -/
def zipW : List Fld → List ByteArray → Nat → List (Fld × ByteArray)
  | [], _, _ => []
  | f :: l, ws, o => (f, ws.getD o noW) :: zipW l ws (o + 1)
theorem zipW_mem : ∀ (l : List Fld) (ws : List ByteArray) (o : Nat) (h : Fld → ByteArray), (∀ i f, l[i]? = some f → ws.getD (o + i) noW = h f) → ∀ f ∈ l, (f, h f) ∈ zipW l ws o
  | [], _, _, _, _, f, hf => by simp at hf
  | g :: l, ws, o, h, hw, f, hf => by
    unfold zipW
    rcases List.mem_cons.1 hf with rfl | hf
    · have := hw 0 f rfl
      rw [Nat.add_zero] at this
      rw [this]; simp
    · refine List.mem_cons_of_mem _ (zipW_mem l ws (o + 1) h (fun i f hi => ?_) f hf)
      have := hw (i + 1) f (by simpa using hi)
      rw [show o + 1 + i = o + (i + 1) by omega]; exact this

/-- The kind's word is the last that is alike. -/
def KindK (k : Int) (w : ByteArray) : Prop := (1 ≤ k ∧ k ≤ 11 ∧ (formK k).1 = w) ∨ (k = 0 ∧ ∀ j : Int, 1 ≤ j → j ≤ 11 → (formK j).1 ≠ w)
def KindC (k : Int) (w : ByteArray) : Prop := (1 ≤ k ∧ k ≤ 15 ∧ (formC k).1 = w) ∨ (k = 0 ∧ ∀ j : Int, 1 ≤ j → j ≤ 15 → (formC j).1 ≠ w)
structure RefC (ws : List ByteArray) (e : Ev) : Prop where
  kind : KindC e.call.kind (ws.getD 0 noW)
  fits : ∀ p ∈ zipW (formC e.call.kind).2 ws 1, Fits p.2 e p.1
structure RefE (ws : List ByteArray) (e : Ev) : Prop where
  kind : KindK e.kind (ws.getD 0 noW)
  fits : ∀ p ∈ zipW (formK e.kind).2 ws 1, Fits p.2 e p.1
  call : e.kind = 1 → RefC (ws.drop 2) e

theorem ref_good {ws : List ByteArray} {e : Ev} (h : RefE ws e) : Good ws e := by
  intro e0 ht0 hb hws
  have hmem := bad_mem hb
  have hK : (formK e0.kind).1.size ≠ 0 := by
    have := hmem ((formK e0.kind).1, decide ((formK e0.kind).1.size = 0)) (by simp [lineF, formF])
    simpa using this
  have hk := formK_lt hK
  have hws' : ws = (formK e0.kind).1 :: ((formK e0.kind).2.map (fun f => (fldW e0 f).1) ++ (if e0.kind = 1 then formF e0 (formC e0.call.kind) else []).map (·.1)) := by
    rw [hws]
    unfold lineF
    rw [List.map_append, formF_fst]
    rfl
  have h0 : ws.getD 0 noW = (formK e0.kind).1 := by rw [hws']; rfl
  have ek : e.kind = e0.kind := by
    rcases h.kind with ⟨k1, k2, hkw⟩ | ⟨_, hno⟩
    · exact formK_inj ⟨k1, k2⟩ hk (by rw [hkw, h0])
    · exact absurd h0.symm (hno _ hk.1 hk.2)
  have hfl : ∀ f ∈ (formK e0.kind).2, (fldW e0 f).2 = false := fun f hf => hmem _ (by
    unfold lineF formF
    exact List.mem_append_left _ (List.mem_cons_of_mem _ (List.mem_map.2 ⟨f, hf, rfl⟩)))
  refine ⟨ek, fun f hf => ?_, fun h1 => ?_⟩
  · have hm := zipW_mem (formK e0.kind).2 ws 1 (fun f => (fldW e0 f).1) (fun i g hi => by
      rw [hws', Nat.add_comm 1 i, List.getD_cons_succ, List.getD_eq_getElem?_getD, List.getElem?_append_left (by rw [List.length_map]; exact (List.getElem?_eq_some_iff.1 hi).1), List.getElem?_map, hi]
      rfl) f hf
    rw [← ek] at hm
    exact h.fits _ hm e0 ht0 rfl (hfl f hf)
  · have hc := h.call (ek.trans h1)
    have hC : (formC e0.call.kind).1.size ≠ 0 := by
      have := hmem ((formC e0.call.kind).1, decide ((formC e0.call.kind).1.size = 0)) (by simp [lineF, formF, h1])
      simpa using this
    have hck := formC_lt hC
    have hd : ws.drop 2 = (formC e0.call.kind).1 :: (formC e0.call.kind).2.map (fun f => (fldW e0 f).1) := by
      rw [hws', if_pos h1, formF_fst, h1]
      rfl
    have h2 : (ws.drop 2).getD 0 noW = (formC e0.call.kind).1 := by rw [hd]; rfl
    have ec : e.call.kind = e0.call.kind := by
      rcases hc.kind with ⟨k1, k2, hkw⟩ | ⟨_, hno⟩
      · exact formC_inj ⟨k1, k2⟩ hck (by rw [hkw, h2])
      · exact absurd h2.symm (hno _ hck.1 hck.2)
    refine ⟨ec, fun f hf => ?_⟩
    have hm := zipW_mem (formC e0.call.kind).2 (ws.drop 2) 1 (fun f => (fldW e0 f).1) (fun i g hi => by
      rw [hd, Nat.add_comm 1 i, List.getD_cons_succ, List.getD_eq_getElem?_getD, List.getElem?_map, hi]
      rfl) f hf
    rw [← ec] at hm
    refine hc.fits _ hm e0 ht0 rfl (hmem _ ?_)
    unfold lineF
    rw [if_pos h1]
    refine List.mem_append_right _ ?_
    unfold formF
    exact List.mem_cons_of_mem _ (List.mem_map.2 ⟨f, hf, rfl⟩)

/-- What is said of a call is of its own cells. -/
def isC : Fld → Bool
  | .path | .cto | .mode | .time | .pos | .cn | .data => true
  | _ => false
theorem formC_isC (k : Int) : ∀ f ∈ (formC k).2, isC f = true := formC_all (p := fun x => ∀ f ∈ x.2, isC f = true) (by decide) (by decide) k
theorem fldW_isC {e e' : Ev} (h : e'.call = e.call) {f : Fld} (hf : isC f = true) : fldW e' f = fldW e f := by
  cases f <;> simp [isC] at hf <;> simp only [fldW, h]
theorem zipW_fst : ∀ (l : List Fld) (ws : List ByteArray) (o : Nat), ∀ p ∈ zipW l ws o, p.1 ∈ l
  | [], _, _, p, h => by simp [zipW] at h
  | f :: l, ws, o, p, h => by
    unfold zipW at h
    rcases List.mem_cons.1 h with rfl | h
    · simp
    · exact List.mem_cons_of_mem _ (zipW_fst l ws _ p h)
theorem RefC.of_call {ws : List ByteArray} {e e' : Ev} (h : RefC ws e) (he : e'.call = e.call) : RefC ws e' := by
  refine ⟨by rw [he]; exact h.kind, fun p hp => ?_⟩
  rw [he] at hp
  have hf := formC_isC _ p.1 (zipW_fst _ _ _ p hp)
  intro e0 ht0 hw hb
  rw [fldW_isC he hf]
  exact h.fits p hp e0 ht0 hw hb

/-- Things that are set one after another. -/
theorem fits_step {e e' : Ev} {f : Fld} {w : ByteArray} {L : List (Fld × ByteArray)} (h : ∀ p ∈ L, Fits p.2 e p.1) (hs : SetR e f w e') (hf : ∀ p ∈ L, p.1 ≠ f) : ∀ p ∈ L ++ [(f, w)], Fits p.2 e' p.1 := by
  intro p hp
  rcases List.mem_append.1 hp with hp | hp
  · intro e0 ht0 hw hb
    rw [hs.others _ (hf p hp)]
    exact h p hp e0 ht0 hw hb
  · simp only [List.mem_singleton] at hp
    subst hp
    exact hs.fits

/-! ### The document's reading of a word -/
section
variable {H : Heap} {a : Option Addr} {n c : Nat} {ws : List ByteArray} {Q : Heap → Prop} {b j : Nat} {q : Int}
theorem at_num (hw : SRow H 1 n (.slice a n c) (strsV ws)) (k : Nat) (hq : q = (k : Int)) (hc : Cells H b j 1) (go : ∀ m H3, In64 m → IsInt (ws.getD k noW) m → Puts H b j [.int .i64 m] H3 → Q H3) :
    Does Tryz.prog 29 [.slice a n c, .int .i64 q] H fun v H1 => ∃ s : ByteArray, v = .string s ∧ Does Tryz.prog 31 [.string s] H1 fun v H2 => ∃ m : Int, v = .int .i64 m ∧ Cells H2 b j 1 ∧ ∀ H3 : Heap, Puts H2 b j [.int .i64 m] H3 → Q H3 := by
  refine (at_ok hw k hq).mono ?_
  rintro _ _ ⟨rfl, rfl⟩
  refine ⟨_, rfl, (rnumber_ok _ H).mono ?_⟩
  rintro _ _ ⟨⟨m, rfl, h1, h2⟩, rfl⟩
  exact ⟨m, rfl, hc, fun H3 hp => go m H3 h1 h2 hp⟩
theorem at_time (hw : SRow H 1 n (.slice a n c) (strsV ws)) (k : Nat) (hq : q = (k : Int)) (hc : ∀ H2, Ext [] H H2 → Cells H2 b j 1) (go : ∀ x H2 H3, Ext [] H H2 → x < 18446744073709551616 → IsTime (ws.getD k noW) x → Puts H2 b j [.float .f64 x] H3 → Q H3) :
    Does Tryz.prog 29 [.slice a n c, .int .i64 q] H fun v H1 => ∃ s : ByteArray, v = .string s ∧ Does Tryz.prog 52 [.string s] H1 fun v H2 => ∃ x : Nat, v = .float .f64 x ∧ Cells H2 b j 1 ∧ ∀ H3 : Heap, Puts H2 b j [.float .f64 x] H3 → Q H3 := by
  refine (at_ok hw k hq).mono ?_
  rintro _ _ ⟨rfl, rfl⟩
  refine ⟨_, rfl, (rtime_ok _ H).mono ?_⟩
  rintro _ H2 ⟨⟨x, rfl, h1, h2⟩, hx⟩
  exact ⟨x, rfl, hc H2 hx, fun H3 hp => go x H2 H3 hx h1 h2 hp⟩
theorem at_text (hw : SRow H 1 n (.slice a n c) (strsV ws)) (hsz : ∀ w ∈ ws, w.size ≤ 1000000000) (k : Nat) (hq : q = (k : Int)) (hc : ∀ H2, Ext [] H H2 → Cells H2 b j 1) (go : ∀ H2 H3, Ext [] H H2 → (ws.getD k noW).size ≤ 1000000000 → Puts H2 b j [.string (untextM hR (ws.getD k noW))] H3 → Q H3) :
    Does Tryz.prog 29 [.slice a n c, .int .i64 q] H fun v H1 => ∃ s : ByteArray, v = .string s ∧ Does Tryz.prog 28 [.string s] H1 fun v H2 => ∃ x : ByteArray, v = .string x ∧ Cells H2 b j 1 ∧ ∀ H3 : Heap, Puts H2 b j [.string x] H3 → Q H3 := by
  have hs : (ws.getD k noW).size ≤ 1000000000 := by
    rw [List.getD_eq_getElem?_getD]
    cases h : ws[k]? with
    | none => exact Nat.zero_le _
    | some w => exact hsz w (List.mem_of_getElem? h)
  refine (at_ok hw k hq).mono ?_
  rintro _ _ ⟨rfl, rfl⟩
  refine ⟨_, rfl, (runtext_ok _ hs H).mono ?_⟩
  rintro _ H2 ⟨rfl, hx⟩
  exact ⟨_, rfl, hc H2 hx, fun H3 hp => go H2 H3 hx hs hp⟩
theorem at_hex (hw : SRow H 1 n (.slice a n c) (strsV ws)) (hsz : ∀ w ∈ ws, w.size ≤ 1000000000) (k : Nat) (hq : q = (k : Int)) (hc : ∀ H2, Ext [] H H2 → Cells H2 b j 1) (go : ∀ da dl dc H2 H3, Ext [] H H2 → SRow H2 1 dl (.slice da dl dc) (bytesV (unhexG hR (ws.getD k noW).data.toList.tail)) → (∀ i ∈ blkOf da, H.size ≤ i) → (ws.getD k noW).size ≤ 1000000000 → Puts H2 b j [.slice da dl dc] H3 → Q H3) :
    Does Tryz.prog 29 [.slice a n c, .int .i64 q] H fun v H1 => ∃ s : ByteArray, v = .string s ∧ Does Tryz.prog 32 [.string s] H1 fun v H2 => ∃ da : Option Addr, ∃ dl : Nat, ∃ dc : Nat, v = .slice da dl dc ∧ Cells H2 b j 1 ∧ ∀ H3 : Heap, Puts H2 b j [.slice da dl dc] H3 → Q H3 := by
  have hs : (ws.getD k noW).size ≤ 1000000000 := by
    rw [List.getD_eq_getElem?_getD]
    cases h : ws[k]? with
    | none => exact Nat.zero_le _
    | some w => exact hsz w (List.mem_of_getElem? h)
  refine (at_ok hw k hq).mono ?_
  rintro _ _ ⟨rfl, rfl⟩
  refine ⟨_, rfl, (runhex_ok _ hs H).mono ?_⟩
  rintro _ H2 ⟨da, dl, dc, rfl, ho, hb, hx⟩
  exact ⟨da, dl, dc, rfl, hc H2 hx, fun H3 hp => go da dl dc H2 H3 hx (ho.row _ _) hb hs hp⟩
end
end Go.Proofs
end

section
open Go Go.Vc
namespace Go.Proofs

/-! ### A call that is made, and an event that is made -/
def ClAt (H0 H : Heap) (b : Nat) (e : Ev) : Prop := ∃ da dl dc, Blk H b (clL e.call da dl dc) ∧ SRow H 1 dl (.slice da dl dc) (bytesV e.call.data) ∧ b ∉ blkOf da ∧ (∀ i ∈ blkOf da, H0.size ≤ i) ∧ EvOk e
structure PC (H0 H : Heap) (b : Nat) (a : Option Addr) (n c : Nat) (ws : List ByteArray) (k : Int) (L : List (Fld × ByteArray)) : Prop where
  at_ : ∃ e, ClAt H0 H b e ∧ e.call.kind = k ∧ ∀ p ∈ L, Fits p.2 e p.1
  new : H0.size ≤ b
  ext : Ext [] H0 H
  row : SRow H0 1 n (.slice a n c) (strsV ws)
  size : ∀ w ∈ ws, w.size ≤ 1000000000
structure PE (H0 H : Heap) (b : Nat) (a : Option Addr) (n c : Nat) (ws : List ByteArray) (k : Int) (L : List (Fld × ByteArray)) : Prop where
  at_ : ∃ e, EvAt H b e ∧ e.kind = k ∧ ∀ p ∈ L, Fits p.2 e p.1
  new : H0.size ≤ b
  ext : Ext [] H0 H
  row : SRow H0 1 n (.slice a n c) (strsV ws)
  size : ∀ w ∈ ws, w.size ≤ 1000000000
section
variable {H0 H : Heap} {b : Nat} {a : Option Addr} {n c : Nat} {ws : List ByteArray} {k : Int} {L : List (Fld × ByteArray)}
theorem PC.words (h : PC H0 H b a n c ws k L) : SRow H 1 n (.slice a n c) (strsV ws) := h.row.ext h.ext (by simp)
theorem PE.words (h : PE H0 H b a n c ws k L) : SRow H 1 n (.slice a n c) (strsV ws) := h.row.ext h.ext (by simp)
theorem ext_put {b j : Nat} {vs : List Value} {H0 H H' : Heap} (hx : Ext [] H0 H) (hn : H0.size ≤ b) (hp : Puts H b j vs H') : Ext [] H0 H' := hx.trans' hp.ext (fun i hi => .inl (by simp only [List.mem_singleton] at hi; omega))
theorem PC.kindc (h : PC H0 H b a n c ws k L) : hcell H b 0 = some (.int .i64 k) := by
  obtain ⟨e, ⟨da, dl, dc, hb, _⟩, hk, _⟩ := h.at_
  rw [hb.cell, ← hk]; rfl
theorem PE.kindc (h : PE H0 H b a n c ws k L) : hcell H b 0 = some (.int .i64 k) := by
  obtain ⟨e, h, hk, _⟩ := h.at_
  rw [h.kind, hk]
variable {Q : Heap → Prop} {q : Int}
theorem pc_mode (h : PC H0 H b a n c ws k L) (i : Nat) (hq : q = (i : Int)) (hf : ∀ p ∈ L, p.1 ≠ .mode) (go : ∀ H', PC H0 H' b a n c ws k (L ++ [(.mode, ws.getD i noW)]) → Q H') :
    Does Tryz.prog 29 [.slice a n c, .int .i64 q] H fun v H1 => ∃ s : ByteArray, v = .string s ∧ Does Tryz.prog 31 [.string s] H1 fun v H2 => ∃ m : Int, v = .int .i64 m ∧ Cells H2 b (0 + 3) 1 ∧ ∀ H3 : Heap, Puts H2 b (0 + 3) [.int .i64 m] H3 → Q H3 := by
  obtain ⟨e, ⟨da, dl, dc, hb, hr, ho, hnb, he⟩, hk, hfit⟩ := h.at_
  refine at_num h.words i hq (hb.cells _ _ (by simp [clL])) (fun m H3 hm hi hp => go H3 ?_)
  have hx2 : Ext [] H H := Ext.refl _ _
  have hb2 := hb.ext hx2 (by simp)
  refine ⟨⟨{ e with call := { e.call with mode := m } }, ⟨da, dl, dc, hp.blk hb2 (by simp [clL]), (srow_ext hr hx2).ext hp.ext (apart ho), ho, hnb, { he with mode := hm }⟩, hk, fits_step hfit ⟨?_, rfl, rfl, fits_num (g := fun e => e.call.mode) (fun _ => rfl) hi⟩ hf⟩, h.new, ext_put (h.ext.trans hx2) h.new hp, h.row, h.size⟩
  intro g hg; cases g <;> first | rfl | exact absurd rfl hg
theorem pc_pos (h : PC H0 H b a n c ws k L) (i : Nat) (hq : q = (i : Int)) (hf : ∀ p ∈ L, p.1 ≠ .pos) (go : ∀ H', PC H0 H' b a n c ws k (L ++ [(.pos, ws.getD i noW)]) → Q H') :
    Does Tryz.prog 29 [.slice a n c, .int .i64 q] H fun v H1 => ∃ s : ByteArray, v = .string s ∧ Does Tryz.prog 31 [.string s] H1 fun v H2 => ∃ m : Int, v = .int .i64 m ∧ Cells H2 b (0 + 5) 1 ∧ ∀ H3 : Heap, Puts H2 b (0 + 5) [.int .i64 m] H3 → Q H3 := by
  obtain ⟨e, ⟨da, dl, dc, hb, hr, ho, hnb, he⟩, hk, hfit⟩ := h.at_
  refine at_num h.words i hq (hb.cells _ _ (by simp [clL])) (fun m H3 hm hi hp => go H3 ?_)
  have hx2 : Ext [] H H := Ext.refl _ _
  have hb2 := hb.ext hx2 (by simp)
  refine ⟨⟨{ e with call := { e.call with pos := m } }, ⟨da, dl, dc, hp.blk hb2 (by simp [clL]), (srow_ext hr hx2).ext hp.ext (apart ho), ho, hnb, { he with pos := hm }⟩, hk, fits_step hfit ⟨?_, rfl, rfl, fits_num (g := fun e => e.call.pos) (fun _ => rfl) hi⟩ hf⟩, h.new, ext_put (h.ext.trans hx2) h.new hp, h.row, h.size⟩
  intro g hg; cases g <;> first | rfl | exact absurd rfl hg
theorem pc_cn (h : PC H0 H b a n c ws k L) (i : Nat) (hq : q = (i : Int)) (hf : ∀ p ∈ L, p.1 ≠ .cn) (go : ∀ H', PC H0 H' b a n c ws k (L ++ [(.cn, ws.getD i noW)]) → Q H') :
    Does Tryz.prog 29 [.slice a n c, .int .i64 q] H fun v H1 => ∃ s : ByteArray, v = .string s ∧ Does Tryz.prog 31 [.string s] H1 fun v H2 => ∃ m : Int, v = .int .i64 m ∧ Cells H2 b (0 + 6) 1 ∧ ∀ H3 : Heap, Puts H2 b (0 + 6) [.int .i64 m] H3 → Q H3 := by
  obtain ⟨e, ⟨da, dl, dc, hb, hr, ho, hnb, he⟩, hk, hfit⟩ := h.at_
  refine at_num h.words i hq (hb.cells _ _ (by simp [clL])) (fun m H3 hm hi hp => go H3 ?_)
  have hx2 : Ext [] H H := Ext.refl _ _
  have hb2 := hb.ext hx2 (by simp)
  refine ⟨⟨{ e with call := { e.call with n := m } }, ⟨da, dl, dc, hp.blk hb2 (by simp [clL]), (srow_ext hr hx2).ext hp.ext (apart ho), ho, hnb, { he with cn := hm }⟩, hk, fits_step hfit ⟨?_, rfl, rfl, fits_num (g := fun e => e.call.n) (fun _ => rfl) hi⟩ hf⟩, h.new, ext_put (h.ext.trans hx2) h.new hp, h.row, h.size⟩
  intro g hg; cases g <;> first | rfl | exact absurd rfl hg
theorem pc_time (h : PC H0 H b a n c ws k L) (i : Nat) (hq : q = (i : Int)) (hf : ∀ p ∈ L, p.1 ≠ .time) (go : ∀ H', PC H0 H' b a n c ws k (L ++ [(.time, ws.getD i noW)]) → Q H') :
    Does Tryz.prog 29 [.slice a n c, .int .i64 q] H fun v H1 => ∃ s : ByteArray, v = .string s ∧ Does Tryz.prog 52 [.string s] H1 fun v H2 => ∃ m : Nat, v = .float .f64 m ∧ Cells H2 b (0 + 4) 1 ∧ ∀ H3 : Heap, Puts H2 b (0 + 4) [.float .f64 m] H3 → Q H3 := by
  obtain ⟨e, ⟨da, dl, dc, hb, hr, ho, hnb, he⟩, hk, hfit⟩ := h.at_
  refine at_time h.words i hq (fun H2 hx => (hb.ext hx (by simp)).cells _ _ (by simp [clL])) (fun m H2 H3 hx2 hm hi hp => go H3 ?_)
  have hb2 := hb.ext hx2 (by simp)
  refine ⟨⟨{ e with call := { e.call with time := m } }, ⟨da, dl, dc, hp.blk hb2 (by simp [clL]), (srow_ext hr hx2).ext hp.ext (apart ho), ho, hnb, { he with time := hm }⟩, hk, fits_step hfit ⟨?_, rfl, rfl, fits_time hi⟩ hf⟩, h.new, ext_put (h.ext.trans hx2) h.new hp, h.row, h.size⟩
  intro g hg; cases g <;> first | rfl | exact absurd rfl hg
theorem pc_cto (h : PC H0 H b a n c ws k L) (i : Nat) (hq : q = (i : Int)) (hf : ∀ p ∈ L, p.1 ≠ .cto) (go : ∀ H', PC H0 H' b a n c ws k (L ++ [(.cto, ws.getD i noW)]) → Q H') :
    Does Tryz.prog 29 [.slice a n c, .int .i64 q] H fun v H1 => ∃ s : ByteArray, v = .string s ∧ Does Tryz.prog 28 [.string s] H1 fun v H2 => ∃ m : ByteArray, v = .string m ∧ Cells H2 b (0 + 2) 1 ∧ ∀ H3 : Heap, Puts H2 b (0 + 2) [.string m] H3 → Q H3 := by
  obtain ⟨e, ⟨da, dl, dc, hb, hr, ho, hnb, he⟩, hk, hfit⟩ := h.at_
  refine at_text h.words h.size i hq (fun H2 hx => (hb.ext hx (by simp)).cells _ _ (by simp [clL])) (fun H2 H3 hx2 hsz hp => go H3 ?_)
  have hb2 := hb.ext hx2 (by simp)
  refine ⟨⟨{ e with call := { e.call with to := untextM hR (ws.getD i noW) } }, ⟨da, dl, dc, hp.blk hb2 (by simp [clL]), (srow_ext hr hx2).ext hp.ext (apart ho), ho, hnb, { he with cto := Nat.le_trans (untextM_size _ _) hsz }⟩, hk, fits_step hfit ⟨?_, rfl, rfl, fits_text hR_ok (g := fun e => e.call.to) (fun _ => rfl) rfl⟩ hf⟩, h.new, ext_put (h.ext.trans hx2) h.new hp, h.row, h.size⟩
  intro g hg; cases g <;> first | rfl | exact absurd rfl hg
theorem pc_data (h : PC H0 H b a n c ws k L) (i : Nat) (hq : q = (i : Int)) (hf : ∀ p ∈ L, p.1 ≠ .data) (go : ∀ H', PC H0 H' b a n c ws k (L ++ [(.data, ws.getD i noW)]) → Q H') :
    Does Tryz.prog 29 [.slice a n c, .int .i64 q] H fun v H1 => ∃ s : ByteArray, v = .string s ∧ Does Tryz.prog 32 [.string s] H1 fun v H2 => ∃ da : Option Addr, ∃ dl : Nat, ∃ dc : Nat, v = .slice da dl dc ∧ Cells H2 b (0 + 7) 1 ∧ ∀ H3 : Heap, Puts H2 b (0 + 7) [.slice da dl dc] H3 → Q H3 := by
  obtain ⟨e, ⟨da, dl, dc, hb, hr, ho, hnb, he⟩, hk, hfit⟩ := h.at_
  refine at_hex h.words h.size i hq (fun H2 hx => (hb.ext hx (by simp)).cells _ _ (by simp [clL])) (fun xa xl xc H2 H3 hx2 hrow hnw hsz hp => go H3 ?_)
  have hb2 := hb.ext hx2 (by simp)
  have hbl := hb.lt
  have hxo : b ∉ blkOf xa := fun hm => by have := hnw _ hm; omega
  have hlen : (unhexG hR (ws.getD i noW).data.toList.tail).length ≤ 1000000000 := by
    have h1 := unhexG_size hR (ws.getD i noW).data.toList.tail
    have h2 := toList_size (ws.getD i noW)
    rw [List.length_tail] at h1
    omega
  refine ⟨⟨{ e with call := { e.call with data := unhexG hR (ws.getD i noW).data.toList.tail } }, ⟨xa, xl, xc, hp.blk hb2 (by simp [clL]), hrow.ext hp.ext (apart hxo), hxo, (fun i hi => Nat.le_trans h.ext.size (hnw i hi)), { he with data := hlen }⟩, hk, fits_step hfit ⟨?_, rfl, rfl, fits_bytesR hR_ok (g := fun e => e.call.data) (fun _ => rfl) rfl⟩ hf⟩, h.new, ext_put (h.ext.trans hx2) h.new hp, h.row, h.size⟩
  intro g hg; cases g <;> first | rfl | exact absurd rfl hg
theorem pe_name (h : PE H0 H b a n c ws k L) (i : Nat) (hq : q = (i : Int)) (hf : ∀ p ∈ L, p.1 ≠ .name) (go : ∀ H', PE H0 H' b a n c ws k (L ++ [(.name, ws.getD i noW)]) → Q H') :
    Does Tryz.prog 29 [.slice a n c, .int .i64 q] H fun v H1 => ∃ s : ByteArray, v = .string s ∧ Does Tryz.prog 28 [.string s] H1 fun v H2 => ∃ m : ByteArray, v = .string m ∧ Cells H2 b (0 + 1) 1 ∧ ∀ H3 : Heap, Puts H2 b (0 + 1) [.string m] H3 → Q H3 := by
  obtain ⟨e, ⟨da, dl, dc, ma, ml, mc, hb, hr, ho1, ho2, he⟩, hk, hfit⟩ := h.at_
  refine at_text h.words h.size i hq (fun H2 hx => (hb.ext hx (by simp)).cells _ _ (by simp [evL])) (fun H2 H3 hx2 hsz hp => go H3 ?_)
  have hb2 := hb.ext hx2 (by simp)
  refine ⟨⟨{ e with name := untextM hR (ws.getD i noW) }, ⟨da, dl, dc, ma, ml, mc, hp.blk hb2 (by simp [evL]), ⟨(srow_ext hr.data hx2).ext hp.ext (apart ho1), (srow_ext hr.mask hx2).ext hp.ext (apart ho2)⟩, ho1, ho2, { he with name := Nat.le_trans (untextM_size _ _) hsz }⟩, hk, fits_step hfit ⟨?_, rfl, rfl, fits_text hR_ok (g := fun e => e.name) (fun _ => rfl) rfl⟩ hf⟩, h.new, ext_put (h.ext.trans hx2) h.new hp, h.row, h.size⟩
  intro g hg; cases g <;> first | rfl | exact absurd rfl hg
theorem pe_to (h : PE H0 H b a n c ws k L) (i : Nat) (hq : q = (i : Int)) (hf : ∀ p ∈ L, p.1 ≠ .to) (go : ∀ H', PE H0 H' b a n c ws k (L ++ [(.to, ws.getD i noW)]) → Q H') :
    Does Tryz.prog 29 [.slice a n c, .int .i64 q] H fun v H1 => ∃ s : ByteArray, v = .string s ∧ Does Tryz.prog 28 [.string s] H1 fun v H2 => ∃ m : ByteArray, v = .string m ∧ Cells H2 b (0 + 2) 1 ∧ ∀ H3 : Heap, Puts H2 b (0 + 2) [.string m] H3 → Q H3 := by
  obtain ⟨e, ⟨da, dl, dc, ma, ml, mc, hb, hr, ho1, ho2, he⟩, hk, hfit⟩ := h.at_
  refine at_text h.words h.size i hq (fun H2 hx => (hb.ext hx (by simp)).cells _ _ (by simp [evL])) (fun H2 H3 hx2 hsz hp => go H3 ?_)
  have hb2 := hb.ext hx2 (by simp)
  refine ⟨⟨{ e with to := untextM hR (ws.getD i noW) }, ⟨da, dl, dc, ma, ml, mc, hp.blk hb2 (by simp [evL]), ⟨(srow_ext hr.data hx2).ext hp.ext (apart ho1), (srow_ext hr.mask hx2).ext hp.ext (apart ho2)⟩, ho1, ho2, { he with to := Nat.le_trans (untextM_size _ _) hsz }⟩, hk, fits_step hfit ⟨?_, rfl, rfl, fits_text hR_ok (g := fun e => e.to) (fun _ => rfl) rfl⟩ hf⟩, h.new, ext_put (h.ext.trans hx2) h.new hp, h.row, h.size⟩
  intro g hg; cases g <;> first | rfl | exact absurd rfl hg
theorem pe_more (h : PE H0 H b a n c ws k L) (i : Nat) (hq : q = (i : Int)) (hf : ∀ p ∈ L, p.1 ≠ .more) (go : ∀ H', PE H0 H' b a n c ws k (L ++ [(.more, ws.getD i noW)]) → Q H') :
    Does Tryz.prog 29 [.slice a n c, .int .i64 q] H fun v H1 => ∃ s : ByteArray, v = .string s ∧ Does Tryz.prog 28 [.string s] H1 fun v H2 => ∃ m : ByteArray, v = .string m ∧ Cells H2 b (0 + 3) 1 ∧ ∀ H3 : Heap, Puts H2 b (0 + 3) [.string m] H3 → Q H3 := by
  obtain ⟨e, ⟨da, dl, dc, ma, ml, mc, hb, hr, ho1, ho2, he⟩, hk, hfit⟩ := h.at_
  refine at_text h.words h.size i hq (fun H2 hx => (hb.ext hx (by simp)).cells _ _ (by simp [evL])) (fun H2 H3 hx2 hsz hp => go H3 ?_)
  have hb2 := hb.ext hx2 (by simp)
  refine ⟨⟨{ e with more := untextM hR (ws.getD i noW) }, ⟨da, dl, dc, ma, ml, mc, hp.blk hb2 (by simp [evL]), ⟨(srow_ext hr.data hx2).ext hp.ext (apart ho1), (srow_ext hr.mask hx2).ext hp.ext (apart ho2)⟩, ho1, ho2, { he with more := Nat.le_trans (untextM_size _ _) hsz }⟩, hk, fits_step hfit ⟨?_, rfl, rfl, fits_text hR_ok (g := fun e => e.more) (fun _ => rfl) rfl⟩ hf⟩, h.new, ext_put (h.ext.trans hx2) h.new hp, h.row, h.size⟩
  intro g hg; cases g <;> first | rfl | exact absurd rfl hg
theorem pe_n (h : PE H0 H b a n c ws k L) (i : Nat) (hq : q = (i : Int)) (hf : ∀ p ∈ L, p.1 ≠ .n) (go : ∀ H', PE H0 H' b a n c ws k (L ++ [(.n, ws.getD i noW)]) → Q H') :
    Does Tryz.prog 29 [.slice a n c, .int .i64 q] H fun v H1 => ∃ s : ByteArray, v = .string s ∧ Does Tryz.prog 31 [.string s] H1 fun v H2 => ∃ m : Int, v = .int .i64 m ∧ Cells H2 b (0 + 12) 1 ∧ ∀ H3 : Heap, Puts H2 b (0 + 12) [.int .i64 m] H3 → Q H3 := by
  obtain ⟨e, ⟨da, dl, dc, ma, ml, mc, hb, hr, ho1, ho2, he⟩, hk, hfit⟩ := h.at_
  refine at_num h.words i hq (hb.cells _ _ (by simp [evL])) (fun m H3 hm hi hp => go H3 ?_)
  have hx2 : Ext [] H H := Ext.refl _ _
  have hb2 := hb.ext hx2 (by simp)
  refine ⟨⟨{ e with n := m }, ⟨da, dl, dc, ma, ml, mc, hp.blk hb2 (by simp [evL]), ⟨(srow_ext hr.data hx2).ext hp.ext (apart ho1), (srow_ext hr.mask hx2).ext hp.ext (apart ho2)⟩, ho1, ho2, { he with n := hm }⟩, hk, fits_step hfit ⟨?_, rfl, rfl, fits_num (g := fun e => e.n) (fun _ => rfl) hi⟩ hf⟩, h.new, ext_put (h.ext.trans hx2) h.new hp, h.row, h.size⟩
  intro g hg; cases g <;> first | rfl | exact absurd rfl hg
theorem pe_mask (h : PE H0 H b a n c ws k L) (i : Nat) (hq : q = (i : Int)) (hf : ∀ p ∈ L, p.1 ≠ .mask) (go : ∀ H', PE H0 H' b a n c ws k (L ++ [(.mask, ws.getD i noW)]) → Q H') :
    Does Tryz.prog 29 [.slice a n c, .int .i64 q] H fun v H1 => ∃ s : ByteArray, v = .string s ∧ Does Tryz.prog 32 [.string s] H1 fun v H2 => ∃ da : Option Addr, ∃ dl : Nat, ∃ dc : Nat, v = .slice da dl dc ∧ Cells H2 b (0 + 13) 1 ∧ ∀ H3 : Heap, Puts H2 b (0 + 13) [.slice da dl dc] H3 → Q H3 := by
  obtain ⟨e, ⟨da, dl, dc, ma, ml, mc, hb, hr, ho1, ho2, he⟩, hk, hfit⟩ := h.at_
  refine at_hex h.words h.size i hq (fun H2 hx => (hb.ext hx (by simp)).cells _ _ (by simp [evL])) (fun xa xl xc H2 H3 hx2 hrow hnw hsz hp => go H3 ?_)
  have hb2 := hb.ext hx2 (by simp)
  have hbl := hb.lt
  have hxo : b ∉ blkOf xa := fun hm => by have := hnw _ hm; omega
  have hlen : (unhexG hR (ws.getD i noW).data.toList.tail).length ≤ 1000000000 := by
    have h1 := unhexG_size hR (ws.getD i noW).data.toList.tail
    have h2 := toList_size (ws.getD i noW)
    rw [List.length_tail] at h1
    omega
  refine ⟨⟨{ e with mask := unhexG hR (ws.getD i noW).data.toList.tail }, ⟨da, dl, dc, xa, xl, xc, hp.blk hb2 (by simp [evL]), ⟨(srow_ext hr.data hx2).ext hp.ext (apart ho1), hrow.ext hp.ext (apart hxo)⟩, ho1, hxo, { he with mask := hlen }⟩, hk, fits_step hfit ⟨?_, rfl, rfl, fits_bytesR hR_ok (g := fun e => e.mask) (fun _ => rfl) rfl⟩ hf⟩, h.new, ext_put (h.ext.trans hx2) h.new hp, h.row, h.size⟩
  intro g hg; cases g <;> first | rfl | exact absurd rfl hg
end
end Go.Proofs
end

section
open Go Go.Vc
namespace Go.Proofs

section
variable {H0 H : Heap} {b : Nat} {a : Option Addr} {n c : Nat} {ws : List ByteArray} {k : Int} {L : List (Fld × ByteArray)}
theorem fits_kindC {e : Ev} {k : Int} (h : ∀ p ∈ L, Fits p.2 e p.1) : ∀ p ∈ L, Fits p.2 (withCall e k) p.1 := fun p hp e0 ht0 hw hb => by
  rw [fldW_call]; exact h p hp e0 ht0 hw hb
theorem fits_kindK {e : Ev} {k : Int} (h : ∀ p ∈ L, Fits p.2 e p.1) : ∀ p ∈ L, Fits p.2 (withKind e k) p.1 := fun p hp e0 ht0 hw hb => by
  rw [fldW_kind]; exact h p hp e0 ht0 hw hb
theorem PC.cells0 (h : PC H0 H b a n c ws k L) : Cells H b 0 1 := by
  obtain ⟨e, ⟨da, dl, dc, hb, _⟩, _⟩ := h.at_
  exact hb.cells _ _ (by simp [clL])
theorem PE.cells0 (h : PE H0 H b a n c ws k L) : Cells H b 0 1 := by
  obtain ⟨e, h, _⟩ := h.at_
  exact h.cells 0 (by decide)
theorem PC.setk (h : PC H0 H b a n c ws k L) {m : Int} (hm : In64 m) {H' : Heap} (hp : Puts H b 0 [.int .i64 m] H') : PC H0 H' b a n c ws m L := by
  obtain ⟨e, ⟨da, dl, dc, hb, hr, ho, hnb, he⟩, hk, hfit⟩ := h.at_
  exact ⟨⟨withCall e m, ⟨da, dl, dc, hp.blk hb (by simp [clL]), hr.ext hp.ext (apart ho), ho, hnb, { he with ckind := hm }⟩, rfl, fits_kindC hfit⟩, h.new, ext_put h.ext h.new hp, h.row, h.size⟩
theorem PE.setk (h : PE H0 H b a n c ws k L) {m : Int} (hm : In64 m) {H' : Heap} (hp : Puts H b 0 [.int .i64 m] H') : PE H0 H' b a n c ws m L := by
  obtain ⟨e, hev, hk, hfit⟩ := h.at_
  exact ⟨⟨withKind e m, hev.setKind hm hp, rfl, fits_kindK hfit⟩, h.new, ext_put h.ext h.new hp, h.row, h.size⟩
theorem PC.fin (h : PC H0 H b a n c ws k L) (hz : ∀ p ∈ zipW (formC k).2 ws 1, p ∈ L) (hk : KindC k (ws.getD 0 noW)) : ∃ e, ClAt H0 H b e ∧ RefC ws e ∧ Ext [] H0 H := by
  obtain ⟨e, hat, rfl, hfit⟩ := h.at_
  exact ⟨e, hat, ⟨hk, fun p hp => hfit p (hz p hp)⟩, h.ext⟩
theorem PE.fin (h : PE H0 H b a n c ws k L) (hz : ∀ p ∈ zipW (formK k).2 ws 1, p ∈ L) (hk : KindK k (ws.getD 0 noW)) (h1 : ¬ k = 1) : ∃ e, EvAt H b e ∧ RefE ws e ∧ Ext [] H0 H := by
  obtain ⟨e, hat, rfl, hfit⟩ := h.at_
  exact ⟨e, hat, ⟨hk, fun p hp => hfit p (hz p hp), fun h => absurd h h1⟩, h.ext⟩
end

theorem rpcall_ok {H : Heap} {a : Option Addr} {n c : Nat} {ws : List ByteArray} (hw : SRow H 1 n (.slice a n c) (strsV ws)) (hsz : ∀ w ∈ ws, w.size ≤ 1000000000) :
    Does Tryz.prog 30 [.slice a n c] H fun v H' => ∃ e da dl dc, v = clA e.call da dl dc ∧ SRow H' 1 dl (.slice da dl dc) (bytesV e.call.data) ∧ (∀ i ∈ blkOf da, H.size ≤ i) ∧ EvOk e ∧ RefC ws e ∧ Ext [] H H' := by
  refine Fn_of_vc Tryz.mixed (RPCallV _ _ _ _ _) ?_
  intro b1 H2 hn1
  have e1 := hn1.eq
  have s2 := hn1.size
  have hw2 : SRow H2 1 n (.slice a n c) (strsV ws) := hw.ext hn1.ext (by simp)
  have hs1 : (ws.getD 1 noW).size ≤ 1000000000 := by
    rw [List.getD_eq_getElem?_getD]
    cases h : ws[1]? with
    | none => exact Nat.zero_le _
    | some w => exact hsz w (List.mem_of_getElem? h)
  refine (at_ok hw2 1 rfl).mono ?_
  rintro _ _ ⟨rfl, rfl⟩
  refine ⟨_, rfl, (runtext_ok _ hs1 H2).mono ?_⟩
  rintro _ H7 ⟨rfl, hx7⟩
  refine ⟨_, rfl, ?_⟩
  intro b9 H10 hn9
  have e9 := hn9.eq
  have s7 := hx7.size
  refine ⟨hn9.blk.cells _ _ (by simp), fun H11 hp11 => ?_⟩
  have hx210 := hx7.trans hn9.ext
  have st11 : PC H2 H11 b9 a n c ws 0 [(.path, ws.getD 1 noW)] := by
    refine ⟨⟨{ zeroE with call := { zeroE.call with path := untextM hR (ws.getD 1 noW) } }, ⟨none, 0, 0, hp11.blk hn9.blk (by simp), ⟨rfl, rfl⟩, by simp [blkOf], by simp [blkOf], { zero_ok with path := Nat.le_trans (untextM_size _ _) hs1 }⟩, rfl, ?_⟩, by omega, ext_put hx210 (by omega) hp11, hw2, hsz⟩
    intro p hp
    simp only [List.mem_singleton] at hp
    subst hp
    exact fits_text hR_ok (g := fun e => e.call.path) (fun _ => rfl) rfl
  refine ⟨fun m H' => 1 ≤ m ∧ m ≤ 16 ∧ ∃ k : Int, PC H2 H' b9 a n c ws k [(.path, ws.getD 1 noW)] ∧ ((1 ≤ k ∧ k < m ∧ (formC k).1 = ws.getD 0 noW) ∨ (k = 0 ∧ ∀ j : Int, 1 ≤ j → j < m → (formC j).1 ≠ ws.getD 0 noW)), fun m _ => (16 - m).toNat, ⟨by decide, by decide, 0, st11, .inr ⟨rfl, fun j h1 h2 => by omega⟩⟩, ?_⟩
  rintro m H15 ⟨m1, m2, k, st, hk⟩
  refine ⟨fun hle => ?_, fun hgt => ?_⟩
  · refine ⟨fun H' => ∃ k : Int, PC H2 H' b9 a n c ws k [(.path, ws.getD 1 noW)] ∧ ((1 ≤ k ∧ k < m + 1 ∧ (formC k).1 = ws.getD 0 noW) ∨ (k = 0 ∧ ∀ j : Int, 1 ≤ j → j < m + 1 → (formC j).1 ≠ ws.getD 0 noW)), ?_, ?_⟩
    · refine (kdword_ok m H15).mono ?_
      rintro _ _ ⟨rfl, rfl⟩
      refine ⟨_, rfl, (at_ok st.words 0 rfl).mono ?_⟩
      rintro _ _ ⟨rfl, rfl⟩
      refine ⟨_, rfl, fun heq => ⟨st.cells0, fun H23 hp => ?_⟩, fun hne => ?_⟩
      · exact ⟨m, st.setk ⟨by omega, by omega⟩ hp, .inl ⟨m1, by omega, heq⟩⟩
      · refine ⟨k, st, ?_⟩
        rcases hk with ⟨h1, h2, h3⟩ | ⟨h1, h2⟩
        · exact .inl ⟨h1, by omega, h3⟩
        · refine .inr ⟨h1, fun j j1 j2 => ?_⟩
          by_cases hj : j = m
          · subst hj; exact hne
          · exact h2 j j1 (by omega)
    · rintro H24 ⟨k', st', hk'⟩
      exact ⟨⟨by omega, by omega⟩, ⟨by omega, by omega, k', st', hk'⟩, by dsimp only; omega⟩
  · have hkc : KindC k (ws.getD 0 noW) := by
      rcases hk with ⟨h1, h2, h3⟩ | ⟨h1, h2⟩
      · exact .inl ⟨h1, by omega, h3⟩
      · exact .inr ⟨h1, fun j j1 j2 => h2 j j1 (by omega)⟩
    have hkr : k = 0 ∨ k = 1 ∨ k = 2 ∨ k = 3 ∨ k = 4 ∨ k = 5 ∨ k = 6 ∨ k = 7 ∨ k = 8 ∨ k = 9 ∨ k = 10 ∨ k = 11 ∨ k = 12 ∨ k = 13 ∨ k = 14 ∨ k = 15 := by
      rcases hk with ⟨h1, h2, h3⟩ | ⟨h1, h2⟩ <;> omega
    refine ⟨fun H' => ∃ e, ClAt H2 H' b9 e ∧ RefC ws e ∧ Ext [] H2 H', ?_, ?_⟩
    · refine ⟨_, st.kindc, ?_⟩
      rcases hkr with hk0 | hk0 | hk0 | hk0 | hk0 | hk0 | hk0 | hk0 | hk0 | hk0 | hk0 | hk0 | hk0 | hk0 | hk0 | hk0
      · repeat' first
          | exact PC.fin st (by rw [hk0]; exact fun p hp => absurd hp (by simp [formC, zipW])) hkc
          | refine ⟨fun h => absurd h (by omega), fun _ => ?_⟩
      all_goals
        repeat' first
          | exact PC.fin (by assumption) (by rw [hk0]; exact fun p hp => hp) hkc
          | refine ⟨fun h => absurd h (by omega), fun _ => ?_⟩
          | refine ⟨fun _ => ?_, fun h => absurd hk0 h⟩
          | refine pc_mode (by assumption) 2 (by rfl) (by simp) fun H' c' => ?_
          | refine pc_pos (by assumption) 2 (by rfl) (by simp) fun H' c' => ?_
          | refine pc_cn (by assumption) 2 (by rfl) (by simp) fun H' c' => ?_
          | refine pc_cn (by assumption) 3 (by rfl) (by simp) fun H' c' => ?_
          | refine pc_cto (by assumption) 2 (by rfl) (by simp) fun H' c' => ?_
          | refine pc_time (by assumption) 2 (by rfl) (by simp) fun H' c' => ?_
          | refine pc_time (by assumption) 3 (by rfl) (by simp) fun H' c' => ?_
          | refine pc_data (by assumption) 3 (by rfl) (by simp) fun H' c' => ?_
          | refine pc_data (by assumption) 4 (by rfl) (by simp) fun H' c' => ?_
          | refine ⟨_, PC.kindc (by assumption), ?_⟩
    · rintro H223 ⟨e, ⟨da, dl, dc, hb, hr, ho, hnb, he⟩, hrc, hx⟩
      have hb1 := hn1.blk.ext hx (by simp)
      refine ⟨_, hb.cell _, _, hb.cell _, _, hb.cell _, _, hb.cell _, _, hb.cell _, _, hb.cell _, _, hb.cell _, _, _, _, hb.cell _, hb1.cells _ _ (by simp), fun H234 hp => ?_⟩
      have hz : Blk H234 b1 (clL e.call da dl dc) := hp.blk hb1 (by simp)
      refine ⟨_, hz.cell _, _, hz.cell _, _, hz.cell _, _, hz.cell _, _, hz.cell _, _, hz.cell _, _, hz.cell _, _, _, _, hz.cell _, e, da, dl, dc, rfl, ?_, fun i hi => by have := hnb i hi; omega, he, hrc, ?_⟩
      · exact hr.ext hp.ext (fun i hi hm => by
          simp only [List.mem_singleton] at hm
          have := hnb i hi
          omega)
      · exact (hn1.ext.trans hx).trans' hp.ext (fun i hi => by simp only [List.mem_singleton] at hi; left; omega)
end Go.Proofs
end

