/-
  The contracts of the functions that the law reaches, part 6. No condition.
-/
import Derived.Test.YtmoelmapcdmllaaGreatDoorProg
import Derived.Test.YtmoelmapcdmllaaGreatDoorVb
import Derived.Test.YtmoelmapcdmllaaGreatDoorPe
import Derived.Test.YtmoelmapcdmllaaGreatDoorPb
import Derived.Test.YtmoelmapcdmllaaGreatDoorPc
import Derived.Test.YtmoelmapcdmllaaGreatDoorPa

section
open Go Go.Vc
namespace Go.Proofs
set_option maxRecDepth 100000
/-- pentimento/script.Tell -/
theorem TellV (x0_0 : Int) (x0_1 : Int) (x0_2 : Int) (x0_3 : Int) (x0_4 : Nat) (x0_5 : Option Addr) (x0_5l : Nat) (x0_5c : Nat) (x0_6 : Option Addr) (x0_6l : Nat) (x0_6c : Nat) (x0_7 : Option Addr) (x0_7l : Nat) (x0_7c : Nat) (x0_8 : Option Addr) (x0_8l : Nat) (x0_8c : Nat) (x0_9 : Option Addr) (x0_9l : Nat) (x0_9c : Nat) (H : Heap) (R : Value → Heap → Prop) : Walk Tryz.prog 14 [(6, []), (13, []), (20, []), (23, []), (32, []), (41, [])] [(.agg #[(.int .i64 x0_0), (.int .i64 x0_1), (.int .i64 x0_2), (.int .i64 x0_3), (.float .f64 x0_4), (.slice x0_5 x0_5l x0_5c), (.slice x0_6 x0_6l x0_6c), (.slice x0_7 x0_7l x0_7c), (.slice x0_8 x0_8l x0_8c), (.slice x0_9 x0_9l x0_9c)])] H R = (
 ∀ b1 : Nat, ∀ H2 : Heap, New H b1 [(.int .i64 x0_0), (.int .i64 x0_1), (.int .i64 x0_2), (.int .i64 x0_3), (.float .f64 x0_4), (.slice x0_5 x0_5l x0_5c), (.slice x0_6 x0_6l x0_6c), (.slice x0_7 x0_7l x0_7c), (.slice x0_8 x0_8l x0_8c), (.slice x0_9 x0_9l x0_9c)] 52 H2 → (
 ∀ b3 : Nat, ∀ H4 : Heap, New H2 b3 [(.slice none 0 0), (.bool false)] 81 H4 → (
 ∃ I5 : Heap → Prop, (
 ∃ n6 : Int, hcell H4 b1 0 = some (.int .i64 n6) ∧ (
 ((((n6 : Int) = 0) → (
 Does Tryz.prog 35 [(.pointer (some (⟨b3, 0, none⟩ : Addr))), (.string (ByteArray.mk #[111, 107]))] H4 fun v7 H8 => v7 = (.tuple #[]) ∧ (
 I5 H8))) ∧ (¬ ((n6 : Int) = 0) → (
 Does Tryz.prog 35 [(.pointer (some (⟨b3, 0, none⟩ : Addr))), (.string (ByteArray.mk #[101, 114, 114, 111, 114]))] H4 fun v9 H10 => v9 = (.tuple #[]) ∧ (
 ∃ n11 : Int, hcell H10 b1 0 = some (.int .i64 n11) ∧ (
 Does Tryz.prog 36 [(.pointer (some (⟨b3, 0, none⟩ : Addr))), (.int .i64 n11)] H10 fun v12 H13 => v12 = (.tuple #[]) ∧ (
 I5 H13)))))))) ∧
 ∀ H14 : Heap, I5 H14 → (
 ∃ n15 : Int, hcell H14 b1 (0 + 1) = some (.int .i64 n15) ∧ (
 ∃ n16 : Int, hcell H14 b1 ((0 + 1) + 1) = some (.int .i64 n16) ∧ (
 ∃ n17 : Int, hcell H14 b1 (((0 + 1) + 1) + 1) = some (.int .i64 n17) ∧ (
 ∃ f18 : Nat, hcell H14 b1 ((((0 + 1) + 1) + 1) + 1) = some (.float .f64 f18) ∧ (
 ∃ a19 : Option Addr, ∃ l20 : Nat, ∃ c21 : Nat, hcell H14 b1 (((((0 + 1) + 1) + 1) + 1) + 1) = some (.slice a19 l20 c21) ∧ (
 ∃ a22 : Option Addr, ∃ l23 : Nat, ∃ c24 : Nat, hcell H14 b1 ((((((0 + 1) + 1) + 1) + 1) + 1) + 1) = some (.slice a22 l23 c24) ∧ (
 ∃ a25 : Option Addr, ∃ l26 : Nat, ∃ c27 : Nat, hcell H14 b1 (((((((0 + 1) + 1) + 1) + 1) + 1) + 1) + 1) = some (.slice a25 l26 c27) ∧ (
 ∀ b28 : Nat, ∀ H29 : Heap, New H14 b28 [(.int .i64 0), (.int .i64 0), (.int .i64 0), (.float .f64 0), (.slice none 0 0), (.slice none 0 0), (.slice none 0 0)] 48 H29 → (
 Cells H29 b28 0 7 ∧ ∀ H30 : Heap, Puts H29 b28 0 [(.int .i64 n15), (.int .i64 n16), (.int .i64 n17), (.float .f64 f18), (.slice a19 l20 c21), (.slice a22 l23 c24), (.slice a25 l26 c27)] H30 → (
 ∃ I31 : Heap → Prop, (
 ∃ n32 : Int, hcell H30 b28 (0 + 1) = some (.int .i64 n32) ∧ (
 ((((n32 : Int) ≠ 0) → (
 Does Tryz.prog 35 [(.pointer (some (⟨b3, 0, none⟩ : Addr))), (.string (ByteArray.mk #[110, 111, 100, 101]))] H30 fun v33 H34 => v33 = (.tuple #[]) ∧ (
 ∃ n35 : Int, hcell H34 b28 (0 + 1) = some (.int .i64 n35) ∧ (
 Does Tryz.prog 36 [(.pointer (some (⟨b3, 0, none⟩ : Addr))), (.int .i64 n35)] H34 fun v36 H37 => v36 = (.tuple #[]) ∧ (
 ∃ n38 : Int, hcell H37 b28 ((0 + 1) + 1) = some (.int .i64 n38) ∧ (
 Does Tryz.prog 36 [(.pointer (some (⟨b3, 0, none⟩ : Addr))), (.int .i64 n38)] H37 fun v39 H40 => v39 = (.tuple #[]) ∧ (
 ∃ f41 : Nat, hcell H40 b28 ((0 + 1) + 2) = some (.float .f64 f41) ∧ (
 Does Tryz.prog 37 [(.float .f64 f41)] H40 fun v42 H43 => ∃ s44 : ByteArray, v42 = (.string s44) ∧ (
 Does Tryz.prog 35 [(.pointer (some (⟨b3, 0, none⟩ : Addr))), (.string s44)] H43 fun v45 H46 => v45 = (.tuple #[]) ∧ (
 ∃ a47 : Option Addr, ∃ l48 : Nat, ∃ c49 : Nat, hcell H46 b28 ((0 + 1) + 3) = some (.slice a47 l48 c49) ∧ (
 Does Tryz.prog 36 [(.pointer (some (⟨b3, 0, none⟩ : Addr))), (.int .i64 (l48 : Int))] H46 fun v50 H51 => v50 = (.tuple #[]) ∧ (
 I31 H51)))))))))))) ∧ (¬ ((n32 : Int) ≠ 0) → (
 I31 H30))))) ∧
 ∀ H52 : Heap, I31 H52 → (
 ∃ I53 : Heap → Prop, (
 ∃ a54 : Option Addr, ∃ l55 : Nat, ∃ c56 : Nat, hcell H52 b28 (0 + 6) = some (.slice a54 l55 c56) ∧ (
 ((((0 : Int) < (l55 : Int)) → (
 Does Tryz.prog 35 [(.pointer (some (⟨b3, 0, none⟩ : Addr))), (.string (ByteArray.mk #[110, 97, 109, 101, 115]))] H52 fun v57 H58 => v57 = (.tuple #[]) ∧ (
 ∃ a59 : Option Addr, ∃ l60 : Nat, ∃ c61 : Nat, hcell H58 b28 (0 + 6) = some (.slice a59 l60 c61) ∧ (
 ∃ I62 : Int → Heap → Prop, ∃ μ63 : Int → Heap → Nat, (I62 0 H58) ∧
 ∀ n64 : Int, ∀ H65 : Heap, I62 n64 H65 → (
 ((((n64 : Int) < (l60 : Int)) → (
 (0 : Int) ≤ n64 ∧ (n64 : Int) < (l60 : Int) ∧ ∃ b66 o67 : Nat, a59 = some (⟨b66, o67, none⟩ : Addr) ∧ (
 ∃ s68 : ByteArray, hcell H65 b66 (o67 + (Int.toNat n64)) = some (.string s68) ∧ (
 Does Tryz.prog 38 [(.pointer (some (⟨b3, 0, none⟩ : Addr))), (.string s68)] H65 fun v69 H70 => v69 = (.tuple #[]) ∧ (
 (In64 (n64 + 1)) ∧
 (I62 (n64 + 1) H70) ∧ μ63 (n64 + 1) H70 < μ63 n64 H65))))) ∧ (¬ ((n64 : Int) < (l60 : Int)) → (
 I53 H65)))))))) ∧ (¬ ((0 : Int) < (l55 : Int)) → (
 I53 H52))))) ∧
 ∀ H71 : Heap, I53 H71 → (
 ∃ I72 : Heap → Prop, (
 ∃ a73 : Option Addr, ∃ l74 : Nat, ∃ c75 : Nat, hcell H71 b28 (0 + 5) = some (.slice a73 l74 c75) ∧ (
 ((((0 : Int) < (l74 : Int)) → (
 Does Tryz.prog 35 [(.pointer (some (⟨b3, 0, none⟩ : Addr))), (.string (ByteArray.mk #[100, 97, 116, 97]))] H71 fun v76 H77 => v76 = (.tuple #[]) ∧ (
 ∃ a78 : Option Addr, ∃ l79 : Nat, ∃ c80 : Nat, hcell H77 b28 (0 + 5) = some (.slice a78 l79 c80) ∧ (
 Does Tryz.prog 39 [(.pointer (some (⟨b3, 0, none⟩ : Addr))), (.slice a78 l79 c80)] H77 fun v81 H82 => v81 = (.tuple #[]) ∧ (
 I72 H82))))) ∧ (¬ ((0 : Int) < (l74 : Int)) → (
 I72 H71))))) ∧
 ∀ H83 : Heap, I72 H83 → (
 ∃ I84 : Heap → Prop, (
 ∃ a85 : Option Addr, ∃ l86 : Nat, ∃ c87 : Nat, hcell H83 b1 (0 + 8) = some (.slice a85 l86 c87) ∧ (
 ((((0 : Int) < (l86 : Int)) → (
 Does Tryz.prog 35 [(.pointer (some (⟨b3, 0, none⟩ : Addr))), (.string (ByteArray.mk #[99, 104, 97, 110, 103, 101, 115]))] H83 fun v88 H89 => v88 = (.tuple #[]) ∧ (
 ∃ a90 : Option Addr, ∃ l91 : Nat, ∃ c92 : Nat, hcell H89 b1 (0 + 8) = some (.slice a90 l91 c92) ∧ (
 Does Tryz.prog 36 [(.pointer (some (⟨b3, 0, none⟩ : Addr))), (.int .i64 (l91 : Int))] H89 fun v93 H94 => v93 = (.tuple #[]) ∧ (
 ∃ a95 : Option Addr, ∃ l96 : Nat, ∃ c97 : Nat, hcell H94 b1 (0 + 8) = some (.slice a95 l96 c97) ∧ (
 ∃ I98 : Int → Heap → Prop, ∃ μ99 : Int → Heap → Nat, (I98 0 H94) ∧
 ∀ n100 : Int, ∀ H101 : Heap, I98 n100 H101 → (
 ((((n100 : Int) < (l96 : Int)) → (
 (0 : Int) ≤ n100 ∧ (n100 : Int) < (l96 : Int) ∧ ∃ b102 o103 : Nat, a95 = some (⟨b102, o103, none⟩ : Addr) ∧ (
 ∃ s104 : ByteArray, hcell H101 b102 (o103 + (Int.toNat n100) * 10) = some (.string s104) ∧ (
 ∃ n105 : Int, hcell H101 b102 ((o103 + (Int.toNat n100) * 10) + 1) = some (.int .i64 n105) ∧ (
 ∃ n106 : Int, hcell H101 b102 (((o103 + (Int.toNat n100) * 10) + 1) + 1) = some (.int .i64 n106) ∧ (
 ∃ n107 : Int, hcell H101 b102 ((((o103 + (Int.toNat n100) * 10) + 1) + 1) + 1) = some (.int .i64 n107) ∧ (
 ∃ f108 : Nat, hcell H101 b102 (((((o103 + (Int.toNat n100) * 10) + 1) + 1) + 1) + 1) = some (.float .f64 f108) ∧ (
 ∃ a109 : Option Addr, ∃ l110 : Nat, ∃ c111 : Nat, hcell H101 b102 ((((((o103 + (Int.toNat n100) * 10) + 1) + 1) + 1) + 1) + 1) = some (.slice a109 l110 c111) ∧ (
 ∃ n112 : Int, hcell H101 b102 (((((((o103 + (Int.toNat n100) * 10) + 1) + 1) + 1) + 1) + 1) + 1) = some (.int .i64 n112) ∧ (
 ∃ n113 : Int, hcell H101 b102 ((((((((o103 + (Int.toNat n100) * 10) + 1) + 1) + 1) + 1) + 1) + 1) + 1) = some (.int .i64 n113) ∧ (
 ∃ f114 : Nat, hcell H101 b102 (((((((((o103 + (Int.toNat n100) * 10) + 1) + 1) + 1) + 1) + 1) + 1) + 1) + 1) = some (.float .f64 f114) ∧ (
 ∃ a115 : Option Addr, ∃ l116 : Nat, ∃ c117 : Nat, hcell H101 b102 ((((((((((o103 + (Int.toNat n100) * 10) + 1) + 1) + 1) + 1) + 1) + 1) + 1) + 1) + 1) = some (.slice a115 l116 c117) ∧ (
 ∀ b118 : Nat, ∀ H119 : Heap, New H101 b118 [(.string (ByteArray.mk #[])), (.int .i64 0), (.int .i64 0), (.int .i64 0), (.float .f64 0), (.slice none 0 0), (.int .i64 0), (.int .i64 0), (.float .f64 0), (.slice none 0 0)] 54 H119 → (
 Cells H119 b118 0 10 ∧ ∀ H120 : Heap, Puts H119 b118 0 [(.string s104), (.int .i64 n105), (.int .i64 n106), (.int .i64 n107), (.float .f64 f108), (.slice a109 l110 c111), (.int .i64 n112), (.int .i64 n113), (.float .f64 f114), (.slice a115 l116 c117)] H120 → (
 ∃ n121 : Int, hcell H120 b118 (0 + 1) = some (.int .i64 n121) ∧ (
 Does Tryz.prog 36 [(.pointer (some (⟨b3, 0, none⟩ : Addr))), (.int .i64 n121)] H120 fun v122 H123 => v122 = (.tuple #[]) ∧ (
 ∃ s124 : ByteArray, hcell H123 b118 0 = some (.string s124) ∧ (
 Does Tryz.prog 38 [(.pointer (some (⟨b3, 0, none⟩ : Addr))), (.string s124)] H123 fun v125 H126 => v125 = (.tuple #[]) ∧ (
 (In64 (n100 + 1)) ∧
 (I98 (n100 + 1) H126) ∧ μ99 (n100 + 1) H126 < μ99 n100 H101))))))))))))))))))) ∧ (¬ ((n100 : Int) < (l96 : Int)) → (
 I84 H101)))))))))) ∧ (¬ ((0 : Int) < (l86 : Int)) → (
 I84 H83))))) ∧
 ∀ H127 : Heap, I84 H127 → (
 ∃ I128 : Heap → Prop, (
 ∃ a129 : Option Addr, ∃ l130 : Nat, ∃ c131 : Nat, hcell H127 b1 (0 + 9) = some (.slice a129 l130 c131) ∧ (
 ((((0 : Int) < (l130 : Int)) → (
 Does Tryz.prog 35 [(.pointer (some (⟨b3, 0, none⟩ : Addr))), (.string (ByteArray.mk #[99, 111, 110, 102, 108, 105, 99, 116, 115]))] H127 fun v132 H133 => v132 = (.tuple #[]) ∧ (
 ∃ a134 : Option Addr, ∃ l135 : Nat, ∃ c136 : Nat, hcell H133 b1 (0 + 9) = some (.slice a134 l135 c136) ∧ (
 Does Tryz.prog 36 [(.pointer (some (⟨b3, 0, none⟩ : Addr))), (.int .i64 (l135 : Int))] H133 fun v137 H138 => v137 = (.tuple #[]) ∧ (
 ∃ a139 : Option Addr, ∃ l140 : Nat, ∃ c141 : Nat, hcell H138 b1 (0 + 9) = some (.slice a139 l140 c141) ∧ (
 ∃ I142 : Int → Heap → Prop, ∃ μ143 : Int → Heap → Nat, (I142 0 H138) ∧
 ∀ n144 : Int, ∀ H145 : Heap, I142 n144 H145 → (
 ((((n144 : Int) < (l140 : Int)) → (
 (0 : Int) ≤ n144 ∧ (n144 : Int) < (l140 : Int) ∧ ∃ b146 o147 : Nat, a139 = some (⟨b146, o147, none⟩ : Addr) ∧ (
 ∃ s148 : ByteArray, hcell H145 b146 (o147 + (Int.toNat n144) * 2) = some (.string s148) ∧ (
 ∃ n149 : Int, hcell H145 b146 ((o147 + (Int.toNat n144) * 2) + 1) = some (.int .i64 n149) ∧ (
 ∀ b150 : Nat, ∀ H151 : Heap, New H145 b150 [(.string (ByteArray.mk #[])), (.int .i64 0)] 56 H151 → (
 Cells H151 b150 0 2 ∧ ∀ H152 : Heap, Puts H151 b150 0 [(.string s148), (.int .i64 n149)] H152 → (
 ∃ n153 : Int, hcell H152 b150 (0 + 1) = some (.int .i64 n153) ∧ (
 Does Tryz.prog 36 [(.pointer (some (⟨b3, 0, none⟩ : Addr))), (.int .i64 n153)] H152 fun v154 H155 => v154 = (.tuple #[]) ∧ (
 ∃ s156 : ByteArray, hcell H155 b150 0 = some (.string s156) ∧ (
 Does Tryz.prog 38 [(.pointer (some (⟨b3, 0, none⟩ : Addr))), (.string s156)] H155 fun v157 H158 => v157 = (.tuple #[]) ∧ (
 (In64 (n144 + 1)) ∧
 (I142 (n144 + 1) H158) ∧ μ143 (n144 + 1) H158 < μ143 n144 H145))))))))))) ∧ (¬ ((n144 : Int) < (l140 : Int)) → (
 I128 H145)))))))))) ∧ (¬ ((0 : Int) < (l130 : Int)) → (
 I128 H127))))) ∧
 ∀ H159 : Heap, I128 H159 → (
 ∃ b160 o161 : Nat, (some (⟨b3, 0, none⟩ : Addr)) = some (⟨b160, o161, none⟩ : Addr) ∧ (
 ∃ a162 : Option Addr, ∃ l163 : Nat, ∃ c164 : Nat, hcell H159 b160 o161 = some (.slice a162 l163 c164) ∧ (
 Does Tryz.prog 34 [(.slice a162 l163 c164), (.string (ByteArray.mk #[32]))] H159 fun v165 H166 => ∃ s167 : ByteArray, v165 = (.string s167) ∧ (
 R (.string s167) H166))))))))))))))))))))) := by kernel_rfl


/-- pentimento/pentimentoref21.Tell -/
theorem RTellV (x0_0 : Int) (x0_1 : Int) (x0_2 : Int) (x0_3 : Int) (x0_4 : Nat) (x0_5 : Option Addr) (x0_5l : Nat) (x0_5c : Nat) (x0_6 : Option Addr) (x0_6l : Nat) (x0_6c : Nat) (x0_7 : Option Addr) (x0_7l : Nat) (x0_7c : Nat) (x0_8 : Option Addr) (x0_8l : Nat) (x0_8c : Nat) (x0_9 : Option Addr) (x0_9l : Nat) (x0_9c : Nat) (H : Heap) (R : Value → Heap → Prop) : Walk Tryz.prog 15 [(7, [(3, (.pointer none))]), (14, []), (16, []), (20, []), (23, []), (26, []), (31, []), (34, []), (39, [])] [(.agg #[(.int .i64 x0_0), (.int .i64 x0_1), (.int .i64 x0_2), (.int .i64 x0_3), (.float .f64 x0_4), (.slice x0_5 x0_5l x0_5c), (.slice x0_6 x0_6l x0_6c), (.slice x0_7 x0_7l x0_7c), (.slice x0_8 x0_8l x0_8c), (.slice x0_9 x0_9l x0_9c)])] H R = (
 ∀ b1 : Nat, ∀ H2 : Heap, New H b1 [(.int .i64 x0_0), (.int .i64 x0_1), (.int .i64 x0_2), (.int .i64 x0_3), (.float .f64 x0_4), (.slice x0_5 x0_5l x0_5c), (.slice x0_6 x0_6l x0_6c), (.slice x0_7 x0_7l x0_7c), (.slice x0_8 x0_8l x0_8c), (.slice x0_9 x0_9l x0_9c)] 52 H2 → (
 ∀ b3 : Nat, ∀ H4 : Heap, New H2 b3 [(.string (ByteArray.mk #[])), (.bool false)] 61 H4 → (
 Does Tryz.prog 17 [(.pointer (some (⟨b3, 0, none⟩ : Addr))), (.string (ByteArray.mk #[111, 107]))] H4 fun v5 H6 => v5 = (.tuple #[]) ∧ (
 ∃ I7 : Option Addr → Heap → Prop, (
 ∃ n8 : Int, hcell H6 b1 0 = some (.int .i64 n8) ∧ (
 ((((n8 : Int) ≠ 0) → (
 ∀ b9 : Nat, ∀ H10 : Heap, New H6 b9 [(.string (ByteArray.mk #[])), (.bool false)] 61 H10 → (
 Does Tryz.prog 17 [(.pointer (some (⟨b9, 0, none⟩ : Addr))), (.string (ByteArray.mk #[101, 114, 114, 111, 114]))] H10 fun v11 H12 => v11 = (.tuple #[]) ∧ (
 ∃ n13 : Int, hcell H12 b1 0 = some (.int .i64 n13) ∧ (
 Does Tryz.prog 40 [(.int .i64 n13)] H12 fun v14 H15 => ∃ s16 : ByteArray, v14 = (.string s16) ∧ (
 Does Tryz.prog 17 [(.pointer (some (⟨b9, 0, none⟩ : Addr))), (.string s16)] H15 fun v17 H18 => v17 = (.tuple #[]) ∧ (
 I7 (some (⟨b9, 0, none⟩ : Addr)) H18))))))) ∧ (¬ ((n8 : Int) ≠ 0) → (
 I7 (some (⟨b3, 0, none⟩ : Addr)) H6))))) ∧
 ∀ p19 : Option Addr, ∀ H20 : Heap, I7 p19 H20 → (
 ∃ n21 : Int, hcell H20 b1 ((0 + 1) + 1) = some (.int .i64 n21) ∧ (
 ∃ n22 : Int, hcell H20 b1 (((0 + 1) + 1) + 1) = some (.int .i64 n22) ∧ (
 ∃ f23 : Nat, hcell H20 b1 ((((0 + 1) + 1) + 1) + 1) = some (.float .f64 f23) ∧ (
 ∃ a24 : Option Addr, ∃ l25 : Nat, ∃ c26 : Nat, hcell H20 b1 (((((0 + 1) + 1) + 1) + 1) + 1) = some (.slice a24 l25 c26) ∧ (
 ∀ b27 : Nat, ∀ H28 : Heap, New H20 b27 [(.int .i64 0), (.int .i64 0), (.float .f64 0), (.slice none 0 0)] 45 H28 → (
 Cells H28 b27 0 4 ∧ ∀ H29 : Heap, Puts H28 b27 0 [(.int .i64 n21), (.int .i64 n22), (.float .f64 f23), (.slice a24 l25 c26)] H29 → (
 ∃ I30 : Heap → Prop, (
 ∃ n31 : Int, hcell H29 b27 0 = some (.int .i64 n31) ∧ (
 ((((n31 : Int) ≠ 0) → (
 Does Tryz.prog 17 [(.pointer p19), (.string (ByteArray.mk #[110, 111, 100, 101]))] H29 fun v32 H33 => v32 = (.tuple #[]) ∧ (
 ∃ n34 : Int, hcell H33 b27 0 = some (.int .i64 n34) ∧ (
 Does Tryz.prog 40 [(.int .i64 n34)] H33 fun v35 H36 => ∃ s37 : ByteArray, v35 = (.string s37) ∧ (
 Does Tryz.prog 17 [(.pointer p19), (.string s37)] H36 fun v38 H39 => v38 = (.tuple #[]) ∧ (
 ∃ n40 : Int, hcell H39 b27 (0 + 1) = some (.int .i64 n40) ∧ (
 Does Tryz.prog 40 [(.int .i64 n40)] H39 fun v41 H42 => ∃ s43 : ByteArray, v41 = (.string s43) ∧ (
 Does Tryz.prog 17 [(.pointer p19), (.string s43)] H42 fun v44 H45 => v44 = (.tuple #[]) ∧ (
 ∃ f46 : Nat, hcell H45 b27 (0 + 2) = some (.float .f64 f46) ∧ (
 Does Tryz.prog 41 [(.float .f64 f46)] H45 fun v47 H48 => ∃ s49 : ByteArray, v47 = (.string s49) ∧ (
 Does Tryz.prog 17 [(.pointer p19), (.string s49)] H48 fun v50 H51 => v50 = (.tuple #[]) ∧ (
 ∃ a52 : Option Addr, ∃ l53 : Nat, ∃ c54 : Nat, hcell H51 b27 (0 + 3) = some (.slice a52 l53 c54) ∧ (
 Does Tryz.prog 40 [(.int .i64 (l53 : Int))] H51 fun v55 H56 => ∃ s57 : ByteArray, v55 = (.string s57) ∧ (
 Does Tryz.prog 17 [(.pointer p19), (.string s57)] H56 fun v58 H59 => v58 = (.tuple #[]) ∧ (
 I30 H59))))))))))))))) ∧ (¬ ((n31 : Int) ≠ 0) → (
 I30 H29))))) ∧
 ∀ H60 : Heap, I30 H60 → (
 ∃ I61 : Heap → Prop, (
 ∃ a62 : Option Addr, ∃ l63 : Nat, ∃ c64 : Nat, hcell H60 b1 ((0 + 1) + 6) = some (.slice a62 l63 c64) ∧ (
 ((((0 : Int) < (l63 : Int)) → (
 Does Tryz.prog 17 [(.pointer p19), (.string (ByteArray.mk #[110, 97, 109, 101, 115]))] H60 fun v65 H66 => v65 = (.tuple #[]) ∧ (
 I61 H66))) ∧ (¬ ((0 : Int) < (l63 : Int)) → (
 I61 H60))))) ∧
 ∀ H67 : Heap, I61 H67 → (
 ∃ I68 : Heap → Prop, (
 ∃ I69 : Int → Heap → Prop, ∃ μ70 : Int → Heap → Nat, (I69 0 H67) ∧
 ∀ n71 : Int, ∀ H72 : Heap, I69 n71 H72 → (
 ∃ a73 : Option Addr, ∃ l74 : Nat, ∃ c75 : Nat, hcell H72 b1 ((0 + 1) + 6) = some (.slice a73 l74 c75) ∧ (
 ((((n71 : Int) < (l74 : Int)) → (
 ∃ a76 : Option Addr, ∃ l77 : Nat, ∃ c78 : Nat, hcell H72 b1 ((0 + 1) + 6) = some (.slice a76 l77 c78) ∧ (
 (0 : Int) ≤ n71 ∧ (n71 : Int) < (l77 : Int) ∧ ∃ b79 o80 : Nat, a76 = some (⟨b79, o80, none⟩ : Addr) ∧ (
 ∃ s81 : ByteArray, hcell H72 b79 (o80 + (Int.toNat n71)) = some (.string s81) ∧ (
 Does Tryz.prog 42 [(.string s81)] H72 fun v82 H83 => ∃ s84 : ByteArray, v82 = (.string s84) ∧ (
 Does Tryz.prog 17 [(.pointer p19), (.string s84)] H83 fun v85 H86 => v85 = (.tuple #[]) ∧ (
 (In64 (n71 + 1)) ∧
 (I69 (n71 + 1) H86) ∧ μ70 (n71 + 1) H86 < μ70 n71 H72))))))) ∧ (¬ ((n71 : Int) < (l74 : Int)) → (
 I68 H72)))))) ∧
 ∀ H87 : Heap, I68 H87 → (
 ∃ I88 : Heap → Prop, (
 ∃ a89 : Option Addr, ∃ l90 : Nat, ∃ c91 : Nat, hcell H87 b1 ((0 + 1) + 5) = some (.slice a89 l90 c91) ∧ (
 ((((0 : Int) < (l90 : Int)) → (
 Does Tryz.prog 17 [(.pointer p19), (.string (ByteArray.mk #[100, 97, 116, 97]))] H87 fun v92 H93 => v92 = (.tuple #[]) ∧ (
 ∃ a94 : Option Addr, ∃ l95 : Nat, ∃ c96 : Nat, hcell H93 b1 ((0 + 1) + 5) = some (.slice a94 l95 c96) ∧ (
 Does Tryz.prog 43 [(.slice a94 l95 c96)] H93 fun v97 H98 => ∃ s99 : ByteArray, v97 = (.string s99) ∧ (
 Does Tryz.prog 17 [(.pointer p19), (.string s99)] H98 fun v100 H101 => v100 = (.tuple #[]) ∧ (
 I88 H101)))))) ∧ (¬ ((0 : Int) < (l90 : Int)) → (
 I88 H87))))) ∧
 ∀ H102 : Heap, I88 H102 → (
 ∃ I103 : Heap → Prop, (
 ∃ a104 : Option Addr, ∃ l105 : Nat, ∃ c106 : Nat, hcell H102 b1 (0 + 8) = some (.slice a104 l105 c106) ∧ (
 ((((0 : Int) < (l105 : Int)) → (
 Does Tryz.prog 17 [(.pointer p19), (.string (ByteArray.mk #[99, 104, 97, 110, 103, 101, 115]))] H102 fun v107 H108 => v107 = (.tuple #[]) ∧ (
 ∃ a109 : Option Addr, ∃ l110 : Nat, ∃ c111 : Nat, hcell H108 b1 (0 + 8) = some (.slice a109 l110 c111) ∧ (
 Does Tryz.prog 40 [(.int .i64 (l110 : Int))] H108 fun v112 H113 => ∃ s114 : ByteArray, v112 = (.string s114) ∧ (
 Does Tryz.prog 17 [(.pointer p19), (.string s114)] H113 fun v115 H116 => v115 = (.tuple #[]) ∧ (
 I103 H116)))))) ∧ (¬ ((0 : Int) < (l105 : Int)) → (
 I103 H102))))) ∧
 ∀ H117 : Heap, I103 H117 → (
 ∃ I118 : Heap → Prop, (
 ∃ I119 : Int → Heap → Prop, ∃ μ120 : Int → Heap → Nat, (I119 0 H117) ∧
 ∀ n121 : Int, ∀ H122 : Heap, I119 n121 H122 → (
 ∃ a123 : Option Addr, ∃ l124 : Nat, ∃ c125 : Nat, hcell H122 b1 (0 + 8) = some (.slice a123 l124 c125) ∧ (
 ((((n121 : Int) < (l124 : Int)) → (
 ∃ a126 : Option Addr, ∃ l127 : Nat, ∃ c128 : Nat, hcell H122 b1 (0 + 8) = some (.slice a126 l127 c128) ∧ (
 (0 : Int) ≤ n121 ∧ (n121 : Int) < (l127 : Int) ∧ ∃ b129 o130 : Nat, a126 = some (⟨b129, o130, none⟩ : Addr) ∧ (
 ∃ n131 : Int, hcell H122 b129 ((o130 + (Int.toNat n121) * 10) + 1) = some (.int .i64 n131) ∧ (
 Does Tryz.prog 40 [(.int .i64 n131)] H122 fun v132 H133 => ∃ s134 : ByteArray, v132 = (.string s134) ∧ (
 Does Tryz.prog 17 [(.pointer p19), (.string s134)] H133 fun v135 H136 => v135 = (.tuple #[]) ∧ (
 ∃ a137 : Option Addr, ∃ l138 : Nat, ∃ c139 : Nat, hcell H136 b1 (0 + 8) = some (.slice a137 l138 c139) ∧ (
 (0 : Int) ≤ n121 ∧ (n121 : Int) < (l138 : Int) ∧ ∃ b140 o141 : Nat, a137 = some (⟨b140, o141, none⟩ : Addr) ∧ (
 ∃ s142 : ByteArray, hcell H136 b140 (o141 + (Int.toNat n121) * 10) = some (.string s142) ∧ (
 Does Tryz.prog 42 [(.string s142)] H136 fun v143 H144 => ∃ s145 : ByteArray, v143 = (.string s145) ∧ (
 Does Tryz.prog 17 [(.pointer p19), (.string s145)] H144 fun v146 H147 => v146 = (.tuple #[]) ∧ (
 (In64 (n121 + 1)) ∧
 (I119 (n121 + 1) H147) ∧ μ120 (n121 + 1) H147 < μ120 n121 H122)))))))))))) ∧ (¬ ((n121 : Int) < (l124 : Int)) → (
 I118 H122)))))) ∧
 ∀ H148 : Heap, I118 H148 → (
 ∃ I149 : Heap → Prop, (
 ∃ a150 : Option Addr, ∃ l151 : Nat, ∃ c152 : Nat, hcell H148 b1 (0 + 9) = some (.slice a150 l151 c152) ∧ (
 ((((0 : Int) < (l151 : Int)) → (
 Does Tryz.prog 17 [(.pointer p19), (.string (ByteArray.mk #[99, 111, 110, 102, 108, 105, 99, 116, 115]))] H148 fun v153 H154 => v153 = (.tuple #[]) ∧ (
 ∃ a155 : Option Addr, ∃ l156 : Nat, ∃ c157 : Nat, hcell H154 b1 (0 + 9) = some (.slice a155 l156 c157) ∧ (
 Does Tryz.prog 40 [(.int .i64 (l156 : Int))] H154 fun v158 H159 => ∃ s160 : ByteArray, v158 = (.string s160) ∧ (
 Does Tryz.prog 17 [(.pointer p19), (.string s160)] H159 fun v161 H162 => v161 = (.tuple #[]) ∧ (
 I149 H162)))))) ∧ (¬ ((0 : Int) < (l151 : Int)) → (
 I149 H148))))) ∧
 ∀ H163 : Heap, I149 H163 → (
 ∃ I164 : Heap → Prop, (
 ∃ I165 : Int → Heap → Prop, ∃ μ166 : Int → Heap → Nat, (I165 0 H163) ∧
 ∀ n167 : Int, ∀ H168 : Heap, I165 n167 H168 → (
 ∃ a169 : Option Addr, ∃ l170 : Nat, ∃ c171 : Nat, hcell H168 b1 (0 + 9) = some (.slice a169 l170 c171) ∧ (
 ((((n167 : Int) < (l170 : Int)) → (
 ∃ a172 : Option Addr, ∃ l173 : Nat, ∃ c174 : Nat, hcell H168 b1 (0 + 9) = some (.slice a172 l173 c174) ∧ (
 (0 : Int) ≤ n167 ∧ (n167 : Int) < (l173 : Int) ∧ ∃ b175 o176 : Nat, a172 = some (⟨b175, o176, none⟩ : Addr) ∧ (
 ∃ n177 : Int, hcell H168 b175 ((o176 + (Int.toNat n167) * 2) + 1) = some (.int .i64 n177) ∧ (
 Does Tryz.prog 40 [(.int .i64 n177)] H168 fun v178 H179 => ∃ s180 : ByteArray, v178 = (.string s180) ∧ (
 Does Tryz.prog 17 [(.pointer p19), (.string s180)] H179 fun v181 H182 => v181 = (.tuple #[]) ∧ (
 ∃ a183 : Option Addr, ∃ l184 : Nat, ∃ c185 : Nat, hcell H182 b1 (0 + 9) = some (.slice a183 l184 c185) ∧ (
 (0 : Int) ≤ n167 ∧ (n167 : Int) < (l184 : Int) ∧ ∃ b186 o187 : Nat, a183 = some (⟨b186, o187, none⟩ : Addr) ∧ (
 ∃ s188 : ByteArray, hcell H182 b186 (o187 + (Int.toNat n167) * 2) = some (.string s188) ∧ (
 Does Tryz.prog 42 [(.string s188)] H182 fun v189 H190 => ∃ s191 : ByteArray, v189 = (.string s191) ∧ (
 Does Tryz.prog 17 [(.pointer p19), (.string s191)] H190 fun v192 H193 => v192 = (.tuple #[]) ∧ (
 (In64 (n167 + 1)) ∧
 (I165 (n167 + 1) H193) ∧ μ166 (n167 + 1) H193 < μ166 n167 H168)))))))))))) ∧ (¬ ((n167 : Int) < (l170 : Int)) → (
 I164 H168)))))) ∧
 ∀ H194 : Heap, I164 H194 → (
 ∃ b195 o196 : Nat, p19 = some (⟨b195, o196, none⟩ : Addr) ∧ (
 ∃ s197 : ByteArray, hcell H194 b195 o196 = some (.string s197) ∧ (
 R (.string s197) H194))))))))))))))))))))) := by kernel_rfl


end Go.Proofs
end

section
open Go Go.Vc
namespace Go.Proofs
/-! ### Rows, told -/
abbrev okS : ByteArray := ByteArray.mk #[111, 107]
abbrev errorS : ByteArray := ByteArray.mk #[101, 114, 114, 111, 114]
abbrev nodeT : ByteArray := ByteArray.mk #[110, 111, 100, 101]
abbrev namesT : ByteArray := ByteArray.mk #[110, 97, 109, 101, 115]
abbrev dataT : ByteArray := ByteArray.mk #[100, 97, 116, 97]
abbrev changesT : ByteArray := ByteArray.mk #[99, 104, 97, 110, 103, 101, 115]
abbrev conflictsT : ByteArray := ByteArray.mk #[99, 111, 110, 102, 108, 105, 99, 116, 115]
/-- What a row tells. -/
structure TRow where
  why : Int
  kind : Int
  mode : Int
  time : Nat
  nd : Nat
  names : List ByteArray
  data : List UInt8
  chs : List (ByteArray × Int)
  cfs : List (ByteArray × Int)
def pairsW (l : List (ByteArray × Int)) : List ByteArray := l.flatMap fun p => [intS p.2, textW p.1]
def secW (tag : ByteArray) (l : List (ByteArray × Int)) : List ByteArray := if l.length = 0 then [] else [tag, intS (l.length : Int)] ++ pairsW l
def whyW (n : Int) : List ByteArray := if n = 0 then [okS] else [errorS, intS n]
def nodeW (r : TRow) : List ByteArray := if r.kind = 0 then [] else [nodeT, intS r.kind, intS r.mode, hexS (plainW r.time), intS (r.nd : Int)]
def namesW (l : List ByteArray) : List ByteArray := if l.length = 0 then [] else namesT :: l.map textW
def dataW (l : List UInt8) : List ByteArray := if l.length = 0 then [] else [dataT, hexB l]
def tellL (r : TRow) : List ByteArray := whyW r.why ++ nodeW r ++ namesW r.names ++ dataW r.data ++ secW changesT r.chs ++ secW conflictsT r.cfs
/-- What its numbers and lengths may be. -/
structure TOk (r : TRow) : Prop where
  why : 0 ≤ r.why ∧ r.why ≤ 1000000
  kind : 0 ≤ r.kind ∧ r.kind ≤ 1000000
  mode : 0 ≤ r.mode ∧ r.mode ≤ 1000000
  time : r.time < 18446744073709551616
  nd : r.nd ≤ 2000000
  names : r.names.length ≤ 2000000 ∧ ∀ s ∈ r.names, s.size ≤ 2000000
  data : r.data.length ≤ 2000000
  chs : r.chs.length ≤ 2000000 ∧ ∀ p ∈ r.chs, p.1.size ≤ 2000000 ∧ 0 ≤ p.2 ∧ p.2 ≤ 1000000
  cfs : r.cfs.length ≤ 2000000 ∧ ∀ p ∈ r.cfs, p.1.size ≤ 2000000 ∧ 0 ≤ p.2 ∧ p.2 ≤ 1000000
def chOk (vs : List Value) (p : ByteArray × Int) : Prop := ∃ (b c : Int) (t : Nat) (d : Option Addr) (dl dc : Nat) (e f : Int) (u : Nat) (g : Option Addr) (gl gc : Nat),
  vs = [.string p.1, .int .i64 p.2, .int .i64 b, .int .i64 c, .float .f64 t, .slice d dl dc, .int .i64 e, .int .i64 f, .float .f64 u, .slice g gl gc]
def cfOk (vs : List Value) (p : ByteArray × Int) : Prop := vs = [.string p.1, .int .i64 p.2]
/-- A row's cells, and what they show. -/
structure TMem (H : Heap) (r : TRow) (an : Option Addr) (nn nc : Nat) (ad : Option Addr) (nd dc : Nat) (ac : Option Addr) (nch cc : Nat) (af : Option Addr) (nf fc : Nat) : Prop where
  names : SRow H 1 nn (.slice an nn nc) (strsV r.names)
  data : SRow H 1 nd (.slice ad nd dc) (bytesV r.data)
  chs : r.chs.length = nch ∧ ∀ (i : Nat) (p : ByteArray × Int), r.chs[i]? = some p → ∃ (b o : Nat) (vs : List Value), ac = some ⟨b, o, none⟩ ∧ chOk vs p ∧ ∀ (j : Nat) (u : Value), vs[j]? = some u → hcell H b (o + i * 10 + j) = some u
  cfs : r.cfs.length = nf ∧ ∀ (i : Nat) (p : ByteArray × Int), r.cfs[i]? = some p → ∃ (b o : Nat) (vs : List Value), af = some ⟨b, o, none⟩ ∧ cfOk vs p ∧ ∀ (j : Nat) (u : Value), vs[j]? = some u → hcell H b (o + i * 2 + j) = some u
theorem TMem.ext {H H' : Heap} {r : TRow} {an ad ac af : Option Addr} {nn nc nd dc nch cc nf fc : Nat} (h : TMem H r an nn nc ad nd dc ac nch cc af nf fc) (hx : Ext [] H H') : TMem H' r an nn nc ad nd dc ac nch cc af nf fc := by
  refine ⟨h.names.ext hx (by simp), h.data.ext hx (by simp), ⟨h.chs.1, fun i p hp => ?_⟩, ⟨h.cfs.1, fun i p hp => ?_⟩⟩
  · obtain ⟨b, o, vs, q1, q2, q3⟩ := h.chs.2 i p hp
    exact ⟨b, o, vs, q1, q2, fun j u hu => hcell_ext (q3 j u hu) hx (by simp)⟩
  · obtain ⟨b, o, vs, q1, q2, q3⟩ := h.cfs.2 i p hp
    exact ⟨b, o, vs, q1, q2, fun j u hu => hcell_ext (q3 j u hu) hx (by simp)⟩

/-! ### The program's line -/
def TSt (bs : List (Nat × List Value)) (H0 H : Heap) (b : Nat) (ws : List ByteArray) : Prop :=
  11 ≤ H0.size ∧ ∃ F wr, LineIs F H b ws wr ∧ (∀ k, F k → H0.size ≤ k) ∧ ExtP F H0 H ∧ ∀ p ∈ bs, ¬ F p.1 ∧ Blk H p.1 p.2
section
variable {bs : List (Nat × List Value)} {H0 H : Heap} {b : Nat} {ws : List ByteArray}
theorem TSt.x (h : TSt bs H0 H b ws) : Ext [] H0 H := by
  obtain ⟨_, F, wr, h1, h2, h3, h4⟩ := h
  exact ExtP.new (n := H0.size) (h3.mono fun k _ hk => h2 k hk) (Nat.le_refl _)
theorem TSt.blk (h : TSt bs H0 H b ws) {p : Nat × List Value} (hp : p ∈ bs) : Blk H p.1 p.2 := by
  obtain ⟨_, F, wr, h1, h2, h3, h4⟩ := h
  exact (h4 p hp).2
theorem TSt.step (h : TSt bs H0 H b ws) {F : Nat → Prop} {ws' : List ByteArray} {wr : Bool} {H' : Heap} (h2 : ∀ k, F k → H0.size ≤ k) (h3 : ExtP F H0 H) (h4 : ∀ p ∈ bs, ¬ F p.1 ∧ Blk H p.1 p.2) (hl : LineTo F H b ws' wr H') : TSt bs H0 H' b ws' := by
  have hs := h3.size
  refine ⟨h.1, grow F H H', wr, hl.1, fun k hk => ?_, ?_, fun p hp => ?_⟩
  · rcases hk with hk | hk
    · exact h2 k hk
    · omega
  · exact (h3.trans hl.2).mono fun k _ hk => .inl hk
  · obtain ⟨q1, q2⟩ := h4 p hp
    have hlt := q2.lt
    refine ⟨fun hk => ?_, q2.extP hl.2 q1⟩
    rcases hk with hk | hk
    · exact q1 hk
    · omega
theorem TSt.more (h : TSt bs H0 H b ws) {H' : Heap} (hx : Ext [] H H') : TSt bs H0 H' b ws := by
  obtain ⟨g0, F, wr, h1, h2, h3, h4⟩ := h
  exact ⟨g0, F, wr, h1.more hx, h2, (h3.trans (hx.toP.mono (by simp))), fun p hp => ⟨(h4 p hp).1, (h4 p hp).2.ext hx (by simp)⟩⟩
theorem TSt.push (h : TSt bs H0 H b ws) {H' : Heap} {d : Nat} {vs : List Value} {e : TypeId} (hn : New H d vs e H') : TSt ((d, vs) :: bs) H0 H' b ws := by
  obtain ⟨g0, F, wr, h1, h2, h3, h4⟩ := h.more hn.ext
  obtain ⟨g0', F', wr', h1', h2', h3', h4'⟩ := h
  have he := hn.eq
  refine ⟨g0', F', wr', h1'.more hn.ext, h2', h3'.trans (hn.ext.toP.mono (by simp)), fun p hp => ?_⟩
  rcases List.mem_cons.1 hp with rfl | hp
  · exact ⟨fun hk => by have := (h1'.1 _ hk).2; simp only at this; omega, hn.blk⟩
  · exact ⟨(h4' p hp).1, (h4' p hp).2.ext hn.ext (by simp)⟩
theorem TSt.put (h : TSt bs H0 H b ws) {H1 H' : Heap} {d j : Nat} {vs us : List Value} {e : TypeId} (hn : New H d vs e H1) (hp : Puts H1 d j us H') (hj : j + us.length ≤ vs.length) : TSt ((d, splice vs j us) :: bs) H0 H' b ws := by
  obtain ⟨g0', F', wr', h1', h2', h3', h4'⟩ := h
  have he := hn.eq
  have hs := h3'.size
  have hx2 := hp.ext
  refine ⟨g0', F', wr', (h1'.more hn.ext).ext hx2.toP ?_, h2', ?_, fun p hp' => ?_⟩
  · intro k hk hm
    have := (h1'.1 _ hk).2
    simp at hm; omega
  · refine (h3'.trans (hn.ext.toP.mono (by simp))).trans' hx2.toP fun k hk => ?_
    simp at hk; omega
  · rcases List.mem_cons.1 hp' with rfl | hp'
    · exact ⟨fun hk => by have := (h1'.1 _ hk).2; simp only at this; omega, hp.blk hn.blk hj⟩
    · obtain ⟨q1, q2⟩ := h4' p hp'
      have := q2.lt
      exact ⟨q1, (q2.ext hn.ext (by simp)).ext hx2 (by simp; omega)⟩
theorem TSt.pop {p : Nat × List Value} (h : TSt (p :: bs) H0 H b ws) : TSt bs H0 H b ws := by
  obtain ⟨g0, F, wr, h1, h2, h3, h4⟩ := h
  exact ⟨g0, F, wr, h1, h2, h3, fun p hp => h4 p (List.mem_cons_of_mem _ hp)⟩
variable {Q : Heap → Prop}
theorem t_word (h : TSt bs H0 H b ws) (s : ByteArray) (hl : ws.length ≤ 100000000) (k : ∀ H', TSt bs H0 H' b (ws ++ [s]) → Q H') : Does Tryz.prog 35 [.pointer (some ⟨b, 0, none⟩), .string s] H fun v H' => v = .tuple #[] ∧ Q H' := by
  have h0 := h
  obtain ⟨g0, F, wr, h1, h2, h3, h4⟩ := h
  refine (word_ok h1 s (by omega)).mono ?_
  rintro _ H' ⟨rfl, hx⟩
  exact ⟨rfl, k H' (h0.step h2 h3 h4 hx)⟩
theorem t_num (h : TSt bs H0 H b ws) (g : Glob H0) {n : Int} (hn : In64 n) (hl : ws.length ≤ 100000000) (k : ∀ H', TSt bs H0 H' b (ws ++ [intS n]) → Q H') : Does Tryz.prog 36 [.pointer (some ⟨b, 0, none⟩), .int .i64 n] H fun v H' => v = .tuple #[] ∧ Q H' := by
  have h0 := h
  obtain ⟨g0, F, wr, h1, h2, h3, h4⟩ := h
  refine (number_ok h1 hn (g.ext h0.x) (by omega)).mono ?_
  rintro _ H' ⟨rfl, hx⟩
  exact ⟨rfl, k H' (h0.step h2 h3 h4 hx)⟩
theorem t_text (h : TSt bs H0 H b ws) (s : ByteArray) (hs : s.size ≤ 1000000000) (hl : ws.length ≤ 100000000) (k : ∀ H', TSt bs H0 H' b (ws ++ [textW s]) → Q H') : Does Tryz.prog 38 [.pointer (some ⟨b, 0, none⟩), .string s] H fun v H' => v = .tuple #[] ∧ Q H' := by
  have h0 := h
  obtain ⟨g0, F, wr, h1, h2, h3, h4⟩ := h
  refine (textL_ok h1 s hs (by omega)).mono ?_
  rintro _ H' ⟨rfl, hx⟩
  exact ⟨rfl, k H' (h0.step h2 h3 h4 hx)⟩
theorem t_bytes (h : TSt bs H0 H b ws) {a : Option Addr} {n c : Nat} {l : List UInt8} (hr : SRow H0 1 n (.slice a n c) (bytesV l)) (hn : n ≤ 1000000000) (hl : ws.length ≤ 100000000) (k : ∀ H', TSt bs H0 H' b (ws ++ [hexB l]) → Q H') : Does Tryz.prog 39 [.pointer (some ⟨b, 0, none⟩), .slice a n c] H fun v H' => v = .tuple #[] ∧ Q H' := by
  have h0 := h
  obtain ⟨g0, F, wr, h1, h2, h3, h4⟩ := h
  have hk : KeptB F H a n c l := fun H' hx => srow_ext hr (ExtP.new (n := H0.size) ((h3.trans hx).mono fun k _ hk => h2 k hk) (Nat.le_refl _))
  refine (bytesL_ok h1 hk hn (by omega)).mono ?_
  rintro _ H' ⟨rfl, hx⟩
  exact ⟨rfl, k H' (h0.step h2 h3 h4 hx)⟩
end
end Go.Proofs
end

section
open Go Go.Vc
namespace Go.Proofs
theorem whyW_len (n : Int) : (whyW n).length ≤ 2 := by unfold whyW; split <;> simp
theorem nodeW_len (r : TRow) : (nodeW r).length ≤ 5 := by unfold nodeW; split <;> simp
theorem namesW_len (l : List ByteArray) : (namesW l).length ≤ l.length + 1 := by unfold namesW; split <;> simp
theorem dataW_len (l : List UInt8) : (dataW l).length ≤ 2 := by unfold dataW; split <;> simp
theorem pairsW_len : ∀ l : List (ByteArray × Int), (pairsW l).length = 2 * l.length
  | [] => rfl
  | p :: l => by
    have := pairsW_len l
    unfold pairsW at this ⊢
    rw [List.flatMap_cons, List.length_append, this]
    simp; omega
theorem secW_len (t : ByteArray) (l : List (ByteArray × Int)) : (secW t l).length ≤ 2 * l.length + 2 := by
  unfold secW
  split
  · simp
  · rw [List.length_append, pairsW_len]; simp; omega
theorem pairsW_snoc (l : List (ByteArray × Int)) (p : ByteArray × Int) : pairsW (l ++ [p]) = pairsW l ++ [intS p.2] ++ [textW p.1] := by
  unfold pairsW
  rw [List.flatMap_append]
  simp
theorem take_snoc {α : Type} {l : List α} {n : Nat} {x : α} (h : l[n]? = some x) : l.take (n + 1) = l.take n ++ [x] := by
  rw [List.take_add_one, h]; rfl
theorem strs_at {ws : List ByteArray} {n : Nat} {s : ByteArray} (h : ws[n]? = some s) : (strsV ws)[n]? = some (.string s) := by
  unfold strsV; rw [List.getElem?_map, h]; rfl
theorem strsV_len (ws : List ByteArray) : (strsV ws).length = ws.length := by unfold strsV; simp
theorem toNat_succ {n : Int} (h : 0 ≤ n) : (n + 1).toNat = n.toNat + 1 := by omega
theorem splice_all {zs us : List Value} (h : us.length = zs.length) : splice zs 0 us = us := by
  unfold splice
  rw [List.take_zero, List.nil_append, Nat.zero_add, h, List.drop_length, List.append_nil]
/-- A word that is told. -/
def WOk (w : ByteArray) : Prop := w.size ≤ 5000000 ∧ w.size ≠ 0
theorem wok_int {n : Int} (h : In64 n) : WOk (intS n) := by
  have := intS_size h
  exact ⟨by omega, this.2⟩
theorem wok_text {s : ByteArray} (h : s.size ≤ 2000000) : WOk (textW s) := by
  have := @textW_size s
  exact ⟨by omega, this.2⟩
theorem wok_hex {l : List UInt8} (h : l.length ≤ 2000000) : WOk (hexB l) := by
  have := hexB_size l
  exact ⟨by omega, by omega⟩
theorem wok_time (w : Nat) : WOk (hexS w) := by
  have := hexS_size w
  exact ⟨by omega, by omega⟩
theorem wok_why {n : Int} (h : In64 n) : ∀ w ∈ whyW n, WOk w := by
  intro w hw
  unfold whyW at hw
  split at hw
  · simp only [List.mem_singleton] at hw; subst hw; exact ⟨by decide, by decide⟩
  · simp only [List.mem_cons, List.mem_nil_iff, or_false] at hw
    rcases hw with rfl | rfl
    · exact ⟨by decide, by decide⟩
    · exact wok_int h
theorem wok_node {r : TRow} (ok : TOk r) : ∀ w ∈ nodeW r, WOk w := by
  intro w hw
  have h1 := ok.kind
  have h2 := ok.mode
  have h3 := ok.nd
  unfold nodeW at hw
  split at hw
  · simp at hw
  · simp only [List.mem_cons, List.mem_nil_iff, or_false] at hw
    rcases hw with rfl | rfl | rfl | rfl | rfl
    · exact ⟨by decide, by decide⟩
    · exact wok_int ⟨by omega, by omega⟩
    · exact wok_int ⟨by omega, by omega⟩
    · exact wok_time _
    · exact wok_int ⟨by omega, by omega⟩
theorem wok_names {l : List ByteArray} (h : ∀ s ∈ l, s.size ≤ 2000000) : ∀ w ∈ namesW l, WOk w := by
  intro w hw
  unfold namesW at hw
  split at hw
  · simp at hw
  · rcases List.mem_cons.1 hw with rfl | hw
    · exact ⟨by decide, by decide⟩
    · obtain ⟨s, hs, rfl⟩ := List.mem_map.1 hw
      exact wok_text (h s hs)
theorem wok_data {l : List UInt8} (h : l.length ≤ 2000000) : ∀ w ∈ dataW l, WOk w := by
  intro w hw
  unfold dataW at hw
  split at hw
  · simp at hw
  · simp only [List.mem_cons, List.mem_nil_iff, or_false] at hw
    rcases hw with rfl | rfl
    · exact ⟨by decide, by decide⟩
    · exact wok_hex h
theorem wok_pairs {l : List (ByteArray × Int)} (h : ∀ p ∈ l, p.1.size ≤ 2000000 ∧ 0 ≤ p.2 ∧ p.2 ≤ 1000000) : ∀ w ∈ pairsW l, WOk w := by
  intro w hw
  unfold pairsW at hw
  obtain ⟨p, hp, hw⟩ := List.mem_flatMap.1 hw
  have := h p hp
  simp only [List.mem_cons, List.mem_nil_iff, or_false] at hw
  rcases hw with rfl | rfl
  · exact wok_int ⟨by omega, by omega⟩
  · exact wok_text this.1
theorem wok_sec {t : ByteArray} {l : List (ByteArray × Int)} (ht : WOk t) (hl : l.length ≤ 2000000) (h : ∀ p ∈ l, p.1.size ≤ 2000000 ∧ 0 ≤ p.2 ∧ p.2 ≤ 1000000) : ∀ w ∈ secW t l, WOk w := by
  intro w hw
  unfold secW at hw
  split at hw
  · simp at hw
  · rcases List.mem_append.1 hw with hw | hw
    · simp only [List.mem_cons, List.mem_nil_iff, or_false] at hw
      rcases hw with rfl | rfl
      · exact ht
      · exact wok_int ⟨by omega, by omega⟩
    · exact wok_pairs h w hw
theorem tellL_ok {r : TRow} (ok : TOk r) : ∀ w ∈ tellL r, WOk w := by
  intro w hw
  unfold tellL at hw
  simp only [List.mem_append] at hw
  have h1 := ok.why
  rcases hw with ((((hw | hw) | hw) | hw) | hw) | hw
  · exact wok_why ⟨by omega, by omega⟩ w hw
  · exact wok_node ok w hw
  · exact wok_names ok.names.2 w hw
  · exact wok_data ok.data w hw
  · exact wok_sec ⟨by decide, by decide⟩ ok.chs.1 ok.chs.2 w hw
  · exact wok_sec ⟨by decide, by decide⟩ ok.cfs.1 ok.cfs.2 w hw
theorem tellL_len {r : TRow} (ok : TOk r) : (tellL r).length ≤ 12000000 := by
  have k1 := whyW_len r.why
  have k2 := nodeW_len r
  have k3 := namesW_len r.names
  have k4 := dataW_len r.data
  have k5 := secW_len changesT r.chs
  have k6 := secW_len conflictsT r.cfs
  have o1 := ok.names.1
  have o2 := ok.chs.1
  have o3 := ok.cfs.1
  unfold tellL
  simp only [List.length_append]
  omega
theorem tellL_ne (r : TRow) : tellL r ≠ [] := by
  have : whyW r.why ≠ [] := by unfold whyW; split <;> simp
  unfold tellL
  simp [this]
/-- A cut between two sections. -/
theorem t_cut {A : (Heap → Prop) → Prop} {B : Heap → Prop} (I : Heap → Prop) (h1 : A I) (h2 : ∀ H', I H' → B H') : ∃ I : Heap → Prop, A I ∧ ∀ H' : Heap, I H' → B H' := ⟨I, h1, h2⟩

section
variable {H : Heap} {r : TRow} {nda ad an ac af : Option Addr} {ndc dc nn nc nd nch cc nf fc : Nat} {aw : Int}
set_option maxHeartbeats 1000000 in
theorem tell_ok (g : Glob H) (ok : TOk r) (mem : TMem H r an nn nc ad nd dc ac nch cc af nf fc) :
    Does Tryz.prog 14 [.agg #[.int .i64 r.why, .int .i64 aw, .int .i64 r.kind, .int .i64 r.mode, .float .f64 r.time, .slice nda r.nd ndc, .slice ad nd dc, .slice an nn nc, .slice ac nch cc, .slice af nf fc]] H fun v H' => v = .string (joinW (tellL r)) ∧ Ext [] H H' := by
  refine Fn_of_vc Tryz.mixed (TellV _ _ _ _ _ _ _ _ _ _ _ _ _ _ _ _ _ _ _ _ _ _) ?_
  intro b1 H2 hn1 b3 H4 hn3
  have g0 := g.size
  have e1 := hn1.eq
  have e3 := hn3.eq
  have s2 := hn1.size
  have s4 := hn3.size
  have g2 := g.ext hn1.ext
  have mem2 := mem.ext hn1.ext
  have hb1 : Blk H4 b1 [.int .i64 r.why, .int .i64 aw, .int .i64 r.kind, .int .i64 r.mode, .float .f64 r.time, .slice nda r.nd ndc, .slice ad nd dc, .slice an nn nc, .slice ac nch cc, .slice af nf fc] := hn1.blk.ext hn3.ext (by simp)
  have t0 : TSt [(b1, [.int .i64 r.why, .int .i64 aw, .int .i64 r.kind, .int .i64 r.mode, .float .f64 r.time, .slice nda r.nd ndc, .slice ad nd dc, .slice an nn nc, .slice ac nch cc, .slice af nf fc])] H2 H4 b3 [] := by
    refine ⟨by omega, fun k => k = b3, false, ⟨fun k hk => by subst hk; exact ⟨by omega, hn3.blk.lt⟩, rfl, none, 0, hn3.blk, ⟨rfl, Nat.le_refl _, by decide, .inl ⟨rfl, rfl⟩⟩, by simp [blkOf], by simp [blkOf]⟩, fun k hk => by subst hk; omega, hn3.ext.anyP, fun p hp => ?_⟩
    simp only [List.mem_singleton] at hp
    subst hp
    exact ⟨by simp only; omega, hb1⟩
  have lnn : r.names.length = nn := by have := mem.names.1; rw [strsV_len] at this; omega
  have lnd : r.data.length = nd := by have := mem.data.1; rw [bytesV_length] at this; omega
  have mc2 := mem2.chs.1
  have mf2 := mem2.cfs.1
  have k1 := whyW_len r.why
  have k2 := nodeW_len r
  have k3 := namesW_len r.names
  have k4 := dataW_len r.data
  have k5 := secW_len changesT r.chs
  have k6 := secW_len conflictsT r.cfs
  have o1 := ok.names.1
  have o2 := ok.chs.1
  have o3 := ok.cfs.1
  have o4 := ok.why
  have o5 := ok.kind
  have o6 := ok.mode
  have o7 := ok.data
  have o8 := ok.nd
  refine t_cut (fun H' => TSt [(b1, [.int .i64 r.why, .int .i64 aw, .int .i64 r.kind, .int .i64 r.mode, .float .f64 r.time, .slice nda r.nd ndc, .slice ad nd dc, .slice an nn nc, .slice ac nch cc, .slice af nf fc])] H2 H' b3 (whyW r.why)) ?_ ?_
  · refine ⟨_, hb1.cell _, fun hw => ?_, fun hw => ?_⟩
    · refine t_word t0 _ (by simp) fun H' h' => ?_
      unfold whyW; rw [if_pos hw]; exact h'
    · refine t_word t0 _ (by simp) fun H' h' => ⟨_, (h'.blk (List.mem_singleton.2 rfl)).cell _, ?_⟩
      refine t_num h' g2 ⟨by omega, by omega⟩ (by simp) fun H'' h'' => ?_
      unfold whyW; rw [if_neg hw]; exact h''
  intro H14 t1
  have hc := t1.blk (List.mem_singleton.2 rfl)
  refine ⟨_, hc.cell _, _, hc.cell _, _, hc.cell _, _, hc.cell _, _, _, _, hc.cell _, _, _, _, hc.cell _, _, _, _, hc.cell _, ?_⟩
  intro b28 H29 hn28
  refine ⟨hn28.blk.cells _ _ (by simp), fun H30 hp30 => ?_⟩
  have t2 := t1.put hn28 hp30 (by simp)
  rw [splice_all (by rfl)] at t2
  clear t1 hc hp30 hn28
  generalize hbs : [(b28, [Value.int .i64 aw, .int .i64 r.kind, .int .i64 r.mode, .float .f64 r.time, .slice nda r.nd ndc, .slice ad nd dc, .slice an nn nc]), (b1, [Value.int .i64 r.why, .int .i64 aw, .int .i64 r.kind, .int .i64 r.mode, .float .f64 r.time, .slice nda r.nd ndc, .slice ad nd dc, .slice an nn nc, .slice ac nch cc, .slice af nf fc])] = bs at t2
  have q28 : ∀ {H' ws}, TSt bs H2 H' b3 ws → Blk H' b28 [Value.int .i64 aw, .int .i64 r.kind, .int .i64 r.mode, .float .f64 r.time, .slice nda r.nd ndc, .slice ad nd dc, .slice an nn nc] := fun h => h.blk (p := (b28, _)) (by rw [← hbs]; simp)
  have q1 : ∀ {H' ws}, TSt bs H2 H' b3 ws → Blk H' b1 [Value.int .i64 r.why, .int .i64 aw, .int .i64 r.kind, .int .i64 r.mode, .float .f64 r.time, .slice nda r.nd ndc, .slice ad nd dc, .slice an nn nc, .slice ac nch cc, .slice af nf fc] := fun h => h.blk (p := (b1, _)) (by rw [← hbs]; simp)
  refine t_cut (fun H' => TSt bs H2 H' b3 (whyW r.why ++ nodeW r)) ?_ ?_
  · refine ⟨_, (q28 t2).cell _, fun hk => ?_, fun hk => ?_⟩
    · refine t_word t2 _ (by omega) fun _ t3 => ⟨_, (q28 t3).cell _, ?_⟩
      refine t_num t3 g2 ⟨by omega, by omega⟩ (by simp; omega) fun _ t4 => ⟨_, (q28 t4).cell _, ?_⟩
      refine t_num t4 g2 ⟨by omega, by omega⟩ (by simp; omega) fun H5 t5 => ⟨_, (q28 t5).cell _, ?_⟩
      refine (text_ok ok.time (g2.ext t5.x).t64).mono ?_
      rintro _ H6 ⟨rfl, hx6⟩
      refine ⟨_, rfl, t_word (t5.more hx6) _ (by simp; omega) fun _ t7 => ⟨_, _, _, (q28 t7).cell _, ?_⟩⟩
      refine t_num t7 g2 ⟨by omega, by omega⟩ (by simp; omega) fun H8 t8 => ?_
      unfold nodeW; rw [if_neg hk]
      simpa using t8
    · have hk := Classical.not_not.1 hk
      unfold nodeW; rw [if_pos hk, List.append_nil]; exact t2
  clear t2
  intro H52 t2
  have w2 : (whyW r.why ++ nodeW r).length ≤ 10 := by rw [List.length_append]; omega
  generalize eW2 : whyW r.why ++ nodeW r = W2 at t2 w2
  refine t_cut (fun H' => TSt bs H2 H' b3 (W2 ++ namesW r.names)) ?_ ?_
  · refine ⟨_, _, _, (q28 t2).cell _, fun hpos => ?_, fun hneg => ?_⟩
    · refine t_word t2 _ (by omega) fun H58 t3 => ⟨_, _, _, (q28 t3).cell _, ?_⟩
      refine ⟨fun n H' => 0 ≤ n ∧ n ≤ nn ∧ TSt bs H2 H' b3 (W2 ++ [namesT] ++ (r.names.take n.toNat).map textW), fun n _ => (nn - n).toNat, ⟨by omega, by omega, by simpa using t3⟩, ?_⟩
      rintro n H65 ⟨h0, h1, t4⟩
      refine ⟨fun hlt => ?_, fun hge => ?_⟩
      · have hi : n.toNat < r.names.length := by omega
        have hget := List.getElem?_eq_getElem hi
        obtain ⟨b, o, ea, hcell⟩ := (mem2.names.ext t4.x (by simp)).at (strs_at hget)
        refine ⟨h0, hlt, b, o, ea, _, hcell, ?_⟩
        have hlen : (W2 ++ [namesT] ++ (r.names.take n.toNat).map textW).length ≤ 100000000 := by simp; omega
        refine t_text t4 _ (Nat.le_trans (ok.names.2 _ (List.getElem_mem _)) (by decide)) hlen fun H70 t5 => ?_
        refine ⟨⟨by omega, by omega⟩, ⟨by omega, by omega, ?_⟩, by dsimp only; omega⟩
        rw [toNat_succ h0, take_snoc hget, List.map_append, ← List.append_assoc]
        exact t5
      · have hn : n.toNat = r.names.length := by omega
        rw [hn, List.take_length] at t4
        unfold namesW
        rw [if_neg (by omega)]
        simpa using t4
    · unfold namesW
      rw [if_pos (by omega), List.append_nil]
      exact t2
  clear t2
  intro H71 t2
  have w3 : (W2 ++ namesW r.names).length ≤ 3000000 := by rw [List.length_append]; omega
  generalize eW3 : W2 ++ namesW r.names = W3 at t2 w3
  refine t_cut (fun H' => TSt bs H2 H' b3 (W3 ++ dataW r.data)) ?_ ?_
  · refine ⟨_, _, _, (q28 t2).cell _, fun hpos => ?_, fun hneg => ?_⟩
    · refine t_word t2 _ (by omega) fun H58 t3 => ⟨_, _, _, (q28 t3).cell _, ?_⟩
      refine t_bytes t3 mem2.data (by omega) (by simp; omega) fun H82 t4 => ?_
      unfold dataW
      rw [if_neg (by omega)]
      simpa using t4
    · unfold dataW
      rw [if_pos (by omega), List.append_nil]
      exact t2
  clear t2
  intro H83 t2
  have w4 : (W3 ++ dataW r.data).length ≤ 4000000 := by rw [List.length_append]; omega
  generalize eW4 : W3 ++ dataW r.data = W4 at t2 w4
  refine t_cut (fun H' => TSt bs H2 H' b3 (W4 ++ secW changesT r.chs)) ?_ ?_
  · refine ⟨_, _, _, (q1 t2).cell _, fun hpos => ?_, fun hneg => ?_⟩
    · refine t_word t2 _ (by omega) fun H58 t3 => ⟨_, _, _, (q1 t3).cell _, ?_⟩
      refine t_num t3 g2 ⟨by omega, by omega⟩ (by simp; omega) fun H94 t4 => ⟨_, _, _, (q1 t4).cell _, ?_⟩
      refine ⟨fun n H' => 0 ≤ n ∧ n ≤ nch ∧ TSt bs H2 H' b3 (W4 ++ [changesT] ++ [intS (nch : Int)] ++ pairsW (r.chs.take n.toNat)), fun n _ => (nch - n).toNat, ⟨by omega, by omega, by simpa [pairsW] using t4⟩, ?_⟩
      rintro n H101 ⟨h0, h1, t5⟩
      refine ⟨fun hlt => ?_, fun hge => ?_⟩
      · have hi : n.toNat < r.chs.length := by omega
        have hget := List.getElem?_eq_getElem hi
        obtain ⟨b, o, vs, ea, ⟨x2, x3, x4, d, dl, dc, x7, x8, x9, e, el, ec, rfl⟩, hcell⟩ := (mem2.ext t5.x).chs.2 _ _ hget
        have hp := ok.chs.2 _ (List.getElem_mem hi)
        refine ⟨h0, hlt, b, o, ea, _, hcell 0 _ rfl, _, hcell 1 _ rfl, _, hcell 2 _ rfl, _, hcell 3 _ rfl, _, hcell 4 _ rfl, _, _, _, hcell 5 _ rfl, _, hcell 6 _ rfl, _, hcell 7 _ rfl, _, hcell 8 _ rfl, _, _, _, hcell 9 _ rfl, ?_⟩
        intro b118 H119 hn118
        refine ⟨hn118.blk.cells _ _ (by simp), fun H120 hp120 => ?_⟩
        have t6 := t5.put hn118 hp120 (by simp)
        rw [splice_all (by rfl)] at t6
        have hlen : (W4 ++ [changesT] ++ [intS (nch : Int)] ++ pairsW (r.chs.take n.toNat)).length ≤ 50000000 := by rw [List.length_append, pairsW_len]; simp; omega
        refine ⟨_, (t6.blk (List.mem_cons_self)).cell _, t_num t6 g2 ⟨by omega, by omega⟩ (by omega) fun H123 t7 => ⟨_, (t7.blk (List.mem_cons_self)).cell _, ?_⟩⟩
        refine t_text t7 _ (Nat.le_trans hp.1 (by decide)) (by rw [List.length_append, List.length_singleton]; omega) fun H126 t8 => ?_
        refine ⟨⟨by omega, by omega⟩, ⟨by omega, by omega, ?_⟩, by dsimp only; omega⟩
        rw [toNat_succ h0, take_snoc hget, pairsW_snoc, ← List.append_assoc, ← List.append_assoc]
        exact t8.pop
      · have hn : n.toNat = r.chs.length := by omega
        rw [hn, List.take_length] at t5
        unfold secW
        rw [if_neg (by omega), mc2]
        simpa using t5
    · unfold secW
      rw [if_pos (by omega), List.append_nil]
      exact t2
  clear t2
  intro H127 t2
  have w5 : (W4 ++ secW changesT r.chs).length ≤ 10000000 := by rw [List.length_append]; omega
  generalize eW5 : W4 ++ secW changesT r.chs = W5 at t2 w5
  refine t_cut (fun H' => TSt bs H2 H' b3 (W5 ++ secW conflictsT r.cfs)) ?_ ?_
  · refine ⟨_, _, _, (q1 t2).cell _, fun hpos => ?_, fun hneg => ?_⟩
    · refine t_word t2 _ (by omega) fun H58 t3 => ⟨_, _, _, (q1 t3).cell _, ?_⟩
      refine t_num t3 g2 ⟨by omega, by omega⟩ (by simp; omega) fun H94 t4 => ⟨_, _, _, (q1 t4).cell _, ?_⟩
      refine ⟨fun n H' => 0 ≤ n ∧ n ≤ nf ∧ TSt bs H2 H' b3 (W5 ++ [conflictsT] ++ [intS (nf : Int)] ++ pairsW (r.cfs.take n.toNat)), fun n _ => (nf - n).toNat, ⟨by omega, by omega, by simpa [pairsW] using t4⟩, ?_⟩
      rintro n H101 ⟨h0, h1, t5⟩
      refine ⟨fun hlt => ?_, fun hge => ?_⟩
      · have hi : n.toNat < r.cfs.length := by omega
        have hget := List.getElem?_eq_getElem hi
        obtain ⟨b, o, vs, ea, rfl, hcell⟩ := (mem2.ext t5.x).cfs.2 _ _ hget
        have hp := ok.cfs.2 _ (List.getElem_mem hi)
        refine ⟨h0, hlt, b, o, ea, _, hcell 0 _ rfl, _, hcell 1 _ rfl, ?_⟩
        intro b118 H119 hn118
        refine ⟨hn118.blk.cells _ _ (by simp), fun H120 hp120 => ?_⟩
        have t6 := t5.put hn118 hp120 (by simp)
        rw [splice_all (by rfl)] at t6
        have hlen : (W5 ++ [conflictsT] ++ [intS (nf : Int)] ++ pairsW (r.cfs.take n.toNat)).length ≤ 50000000 := by rw [List.length_append, pairsW_len]; simp; omega
        refine ⟨_, (t6.blk (List.mem_cons_self)).cell _, t_num t6 g2 ⟨by omega, by omega⟩ (by omega) fun H123 t7 => ⟨_, (t7.blk (List.mem_cons_self)).cell _, ?_⟩⟩
        refine t_text t7 _ (Nat.le_trans hp.1 (by decide)) (by rw [List.length_append, List.length_singleton]; omega) fun H126 t8 => ?_
        refine ⟨⟨by omega, by omega⟩, ⟨by omega, by omega, ?_⟩, by dsimp only; omega⟩
        rw [toNat_succ h0, take_snoc hget, pairsW_snoc, ← List.append_assoc, ← List.append_assoc]
        exact t8.pop
      · have hn : n.toNat = r.cfs.length := by omega
        rw [hn, List.take_length] at t5
        unfold secW
        rw [if_neg (by omega), mf2]
        simpa using t5
    · unfold secW
      rw [if_pos (by omega), List.append_nil]
      exact t2
  clear t2
  intro H159 t2
  have xt := t2.x
  obtain ⟨_, F, wr, ⟨_, _, a, c, hbk, ho, _⟩, _⟩ := t2
  refine ⟨b3, 0, rfl, a, _, c, hbk.cell _, ?_⟩
  have eW : W5 ++ secW conflictsT r.cfs = tellL r := by
    rw [← eW5, ← eW4, ← eW3, ← eW2]; rfl
  rw [eW] at ho
  have hne : tellL r ≠ [] := tellL_ne r
  have hlen := tellL_len ok
  rw [show (W5 ++ secW conflictsT r.cfs).length = (tellL r).length from by rw [eW]]
  refine (join_ok ho hne (by omega) ?_).mono ?_
  · have := joinW_len (l := tellL r) (m := 5000000) (fun w hw => (tellL_ok ok w hw).1)
    refine Nat.le_trans this (Nat.le_trans (Nat.mul_le_mul_right _ hlen) (by decide))
  · rintro _ H' ⟨rfl, hx'⟩
    exact ⟨_, rfl, rfl, (hn1.ext.trans xt).trans hx'⟩
end
end Go.Proofs
end

section
open Go Go.Vc
namespace Go.Proofs
/-! ### The document's line -/
def RTt (bs : List (Nat × List Value)) (H0 H : Heap) (b : Nat) (ws : List ByteArray) : Prop :=
  Blk H b [.string (joinW ws), .bool false] ∧ (∀ w ∈ ws, WOk w) ∧ H0.size ≤ b ∧ Ext [] H0 H ∧ ∀ p ∈ bs, p.1 ≠ b ∧ Blk H p.1 p.2
section
variable {bs : List (Nat × List Value)} {H0 H : Heap} {b : Nat} {ws : List ByteArray}
theorem RTt.x (h : RTt bs H0 H b ws) : Ext [] H0 H := h.2.2.2.1
theorem RTt.blk (h : RTt bs H0 H b ws) {p : Nat × List Value} (hp : p ∈ bs) : Blk H p.1 p.2 := (h.2.2.2.2 p hp).2
theorem RTt.more (h : RTt bs H0 H b ws) {H' : Heap} (hx : Ext [] H H') : RTt bs H0 H' b ws := by
  obtain ⟨h1, h2, h3, h4, h5⟩ := h
  exact ⟨h1.ext hx (by simp), h2, h3, h4.trans hx, fun p hp => ⟨(h5 p hp).1, (h5 p hp).2.ext hx (by simp)⟩⟩
theorem RTt.put (h : RTt bs H0 H b ws) {H1 H' : Heap} {d j : Nat} {vs us : List Value} {e : TypeId} (hn : New H d vs e H1) (hp : Puts H1 d j us H') (hj : j + us.length ≤ vs.length) : RTt ((d, splice vs j us) :: bs) H0 H' b ws := by
  have hb := h.1.lt
  obtain ⟨h1, h2, h3, h4, h5⟩ := h.more hn.ext
  have h5' := h.2.2.2.2
  have he := hn.eq
  have hx2 := hp.ext
  have hs := h.x.size
  refine ⟨h1.ext hx2 (by simp; omega), h2, h3, h4.trans' hx2 (fun i hi => by simp at hi; left; omega), fun p hp' => ?_⟩
  rcases List.mem_cons.1 hp' with rfl | hp'
  · exact ⟨by simp only; omega, hp.blk hn.blk hj⟩
  · have := (h5' p hp').2.lt
    exact ⟨(h5 p hp').1, (h5 p hp').2.ext hx2 (by simp; omega)⟩
variable {Q : Heap → Prop}
theorem rt_word (h : RTt bs H0 H b ws) (x : ByteArray) (hx : WOk x) (hl : ws.length ≤ 15000000) (k : ∀ H', RTt bs H0 H' b (ws ++ [x]) → Q H') : Does Tryz.prog 17 [.pointer (some ⟨b, 0, none⟩), .string x] H fun v H' => v = .tuple #[] ∧ Q H' := by
  obtain ⟨hb, hw, hb0, hxx, hbs⟩ := h
  have es32 : (ByteArray.mk #[32]).size = 1 := rfl
  have hsz := joinW_len (l := ws) (m := 5000000) (fun w hw' => (hw w hw').1)
  have hsz2 : (joinW ws).size ≤ 100000000000000 := Nat.le_trans hsz (Nat.le_trans (Nat.mul_le_mul_right _ hl) (by decide))
  have hx1 := hx.1
  have fin : ∀ {H' : Heap}, Blk H' b [.string (joinW (ws ++ [x])), .bool false] → Ext [b] H H' → Q H' := fun {H'} hbk hxe => k H' ⟨hbk, fun w hw' => by
      rcases List.mem_append.1 hw' with hw' | hw'
      · exact hw w hw'
      · simp only [List.mem_singleton] at hw'; rw [hw']; exact hx, hb0, hxx.trans' hxe (fun i hi => by simp at hi; left; omega), fun p hp => ⟨(hbs p hp).1, (hbs p hp).2.ext hxe (by simpa using (hbs p hp).1)⟩⟩
  refine Fn_of_vc Tryz.mixed (RWordV _ _ _ _) ?_
  refine ⟨b, 0, rfl, _, hb.cell _, fun hne => ?_, fun he => ?_⟩
  · refine ⟨b, 0, rfl, _, hb.cell _, ⟨by omega, by omega⟩, b, 0, rfl, hb.cells _ _ (by simp), fun H9 hp => ?_⟩
    have hb9 := hp.blk hb (by simp)
    simp only [splice, List.take_zero, List.nil_append, List.length_cons, List.length_nil, Nat.zero_add, List.drop_succ_cons, List.drop_zero] at hb9
    have esz : (joinW ws ++ ByteArray.mk #[32]).size = (joinW ws).size + 1 := by rw [ByteArray.size_append, es32]
    refine ⟨b, 0, rfl, _, hb9.cell _, ⟨by omega, by omega⟩, b, 0, rfl, hb9.cells _ _ (by simp), fun H15 hp2 => ?_⟩
    have hb15 := hp2.blk hb9 (by simp)
    simp only [splice, List.take_zero, List.nil_append, List.length_cons, List.length_nil, Nat.zero_add, List.drop_succ_cons, List.drop_zero, List.cons_append] at hb15
    refine ⟨rfl, fin ?_ (hp.ext.trans hp2.ext)⟩
    have hws : ws ≠ [] := fun h => hne (by rw [h]; rfl)
    have ej : joinW (ws ++ [x]) = joinW ws ++ ByteArray.mk #[32] ++ x := by
      unfold joinW
      rw [List.map_append, List.map_cons, List.map_nil, joinL_snoc _ _ (by simpa using hws)]
      rw [show (ByteArray.mk #[32]) = ByteArray.mk [32].toArray from rfl, ba_app]
      conv => rhs; rw [← ba_eta x]
      rw [ba_app]
      simp
    rw [ej]
    exact hb15
  · have he' := Classical.not_not.1 he
    refine ⟨b, 0, rfl, _, hb.cell _, ⟨by omega, by omega⟩, b, 0, rfl, hb.cells _ _ (by simp), fun H15 hp2 => ?_⟩
    have hb15 := hp2.blk hb (by simp)
    simp only [splice, List.take_zero, List.nil_append, List.length_cons, List.length_nil, Nat.zero_add, List.drop_succ_cons, List.drop_zero, List.cons_append] at hb15
    refine ⟨rfl, fin ?_ hp2.ext⟩
    have hnil : ws = [] := (joinW_zero (l := ws) (fun w hw' => (hw w hw').2)).1 he'
    subst hnil
    have ej : joinW ([] ++ [x]) = joinW [] ++ x := by
      rw [he']
      show joinW [x] = ByteArray.mk #[] ++ x
      unfold joinW
      conv => rhs; rw [show ByteArray.mk #[] = ByteArray.mk [].toArray from rfl, ← ba_eta x, ba_app]
      simp [joinL]
    rw [ej]
    exact hb15
/-- A number's word, then that it is told. -/
theorem rt_num (h : RTt bs H0 H b ws) {n : Int} (hn : 0 ≤ n) (hn2 : n ≤ 5000000) (hl : ws.length ≤ 15000000) (k : ∀ H', RTt bs H0 H' b (ws ++ [intS n]) → Q H') :
    Does Tryz.prog 40 [.int .i64 n] H fun v H2 => ∃ s : ByteArray, v = .string s ∧ Does Tryz.prog 17 [.pointer (some ⟨b, 0, none⟩), .string s] H2 fun v' H' => v' = .tuple #[] ∧ Q H' := by
  refine (rfull_ok (n := n) ⟨by omega, by omega⟩ ⟨by omega, by omega⟩ H).mono ?_
  rintro _ H2 ⟨rfl, hx⟩
  exact ⟨_, rfl, rt_word (h.more hx) _ (wok_int ⟨by omega, by omega⟩) hl k⟩
theorem rt_text (h : RTt bs H0 H b ws) {s : ByteArray} (hs : s.size ≤ 2000000) (hl : ws.length ≤ 15000000) (k : ∀ H', RTt bs H0 H' b (ws ++ [textW s]) → Q H') :
    Does Tryz.prog 42 [.string s] H fun v H2 => ∃ s : ByteArray, v = .string s ∧ Does Tryz.prog 17 [.pointer (some ⟨b, 0, none⟩), .string s] H2 fun v' H' => v' = .tuple #[] ∧ Q H' := by
  refine (said_ok s (by omega) H).mono ?_
  rintro _ H2 ⟨rfl, hx⟩
  exact ⟨_, rfl, rt_word (h.more hx) _ (wok_text hs) hl k⟩
theorem rt_time (h : RTt bs H0 H b ws) {w : Nat} (hw : w < 18446744073709551616) (hl : ws.length ≤ 15000000) (k : ∀ H', RTt bs H0 H' b (ws ++ [hexS (plainW w)]) → Q H') :
    Does Tryz.prog 41 [.float .f64 w] H fun v H2 => ∃ s : ByteArray, v = .string s ∧ Does Tryz.prog 17 [.pointer (some ⟨b, 0, none⟩), .string s] H2 fun v' H' => v' = .tuple #[] ∧ Q H' := by
  refine (rtext_ok hw H).mono ?_
  rintro _ H2 ⟨rfl, hx⟩
  exact ⟨_, rfl, rt_word (h.more hx) _ (wok_time _) hl k⟩
theorem rt_hex (h : RTt bs H0 H b ws) {a : Option Addr} {n c : Nat} {l : List UInt8} (hr : SRow H0 1 n (.slice a n c) (bytesV l)) (hn : n ≤ 2000000) (hl : ws.length ≤ 15000000) (k : ∀ H', RTt bs H0 H' b (ws ++ [hexB l]) → Q H') :
    Does Tryz.prog 43 [.slice a n c] H fun v H2 => ∃ s : ByteArray, v = .string s ∧ Does Tryz.prog 17 [.pointer (some ⟨b, 0, none⟩), .string s] H2 fun v' H' => v' = .tuple #[] ∧ Q H' := by
  have hlen := srow_len hr
  rw [bytesV_length] at hlen
  refine (rhex_ok (srow_ext hr h.x) (by omega)).mono ?_
  rintro _ H2 ⟨rfl, rfl⟩
  exact ⟨_, rfl, rt_word h _ (wok_hex (by omega)) hl k⟩
end
end Go.Proofs
end

section
open Go Go.Vc
namespace Go.Proofs
section
variable {H : Heap} {r : TRow} {nda ad an ac af : Option Addr} {ndc dc nn nc nd nch cc nf fc : Nat} {aw : Int}
set_option maxHeartbeats 1000000 in
theorem rtell_ok (ok : TOk r) (mem : TMem H r an nn nc ad nd dc ac nch cc af nf fc) :
    Does Tryz.prog 15 [.agg #[.int .i64 r.why, .int .i64 aw, .int .i64 r.kind, .int .i64 r.mode, .float .f64 r.time, .slice nda r.nd ndc, .slice ad nd dc, .slice an nn nc, .slice ac nch cc, .slice af nf fc]] H fun v H' => v = .string (joinW (tellL r)) ∧ Ext [] H H' := by
  refine Fn_of_vc Tryz.mixed (RTellV _ _ _ _ _ _ _ _ _ _ _ _ _ _ _ _ _ _ _ _ _ _) ?_
  intro b1 H2 hn1 b3 H4 hn3
  have e1 := hn1.eq
  have e3 := hn3.eq
  have s2 := hn1.size
  have s4 := hn3.size
  have mem2 := mem.ext hn1.ext
  have hb1 : Blk H4 b1 [Value.int .i64 r.why, .int .i64 aw, .int .i64 r.kind, .int .i64 r.mode, .float .f64 r.time, .slice nda r.nd ndc, .slice ad nd dc, .slice an nn nc, .slice ac nch cc, .slice af nf fc] := hn1.blk.ext hn3.ext (by simp)
  have lnn : r.names.length = nn := by have := mem.names.1; rw [strsV_len] at this; omega
  have lnd : r.data.length = nd := by have := mem.data.1; rw [bytesV_length] at this; omega
  have mc2 := mem2.chs.1
  have mf2 := mem2.cfs.1
  have k1 := whyW_len r.why
  have k2 := nodeW_len r
  have k3 := namesW_len r.names
  have k4 := dataW_len r.data
  have k5 := secW_len changesT r.chs
  have k6 := secW_len conflictsT r.cfs
  have o1 := ok.names.1
  have o2 := ok.chs.1
  have o3 := ok.cfs.1
  have o4 := ok.why
  have o5 := ok.kind
  have o6 := ok.mode
  have o7 := ok.data
  have o8 := ok.nd
  have t0 : RTt [(b1, [Value.int .i64 r.why, .int .i64 aw, .int .i64 r.kind, .int .i64 r.mode, .float .f64 r.time, .slice nda r.nd ndc, .slice ad nd dc, .slice an nn nc, .slice ac nch cc, .slice af nf fc])] H2 H4 b3 [] := ⟨hn3.blk, by simp, by omega, hn3.ext, fun p hp => by
    simp only [List.mem_singleton] at hp
    subst hp
    exact ⟨by simp only; omega, hb1⟩⟩
  refine rt_word t0 okS ⟨by decide, by decide⟩ (by simp) fun H6 t1 => ?_
  have hb6 := t1.blk (List.mem_singleton.2 rfl)
  refine ⟨fun p H' => ∃ b, p = some ⟨b, 0, none⟩ ∧ RTt [(b1, [Value.int .i64 r.why, .int .i64 aw, .int .i64 r.kind, .int .i64 r.mode, .float .f64 r.time, .slice nda r.nd ndc, .slice ad nd dc, .slice an nn nc, .slice ac nch cc, .slice af nf fc])] H2 H' b (whyW r.why), ?_, ?_⟩
  · refine ⟨_, hb6.cell _, fun hw => ?_, fun hw => ?_⟩
    · intro b9 H10 hn9
      have e9 := hn9.eq
      have hl6 := hb6.lt
      have x6 := t1.x
      have z6 := x6.size
      have t2 : RTt [(b1, [Value.int .i64 r.why, .int .i64 aw, .int .i64 r.kind, .int .i64 r.mode, .float .f64 r.time, .slice nda r.nd ndc, .slice ad nd dc, .slice an nn nc, .slice ac nch cc, .slice af nf fc])] H2 H10 b9 [] := ⟨hn9.blk, by simp, by omega, x6.trans hn9.ext, fun p hp => by
        simp only [List.mem_singleton] at hp
        subst hp
        exact ⟨by simp only; simp only at hl6; omega, hb6.ext hn9.ext (by simp)⟩⟩
      refine rt_word t2 errorS ⟨by decide, by decide⟩ (by simp) fun H12 t3 => ⟨_, (t3.blk (List.mem_singleton.2 rfl)).cell _, ?_⟩
      refine rt_num t3 o4.1 (by omega) (by simp) fun H18 t4 => ⟨b9, rfl, ?_⟩
      unfold whyW; rw [if_neg hw]; exact t4
    · have hw := Classical.not_not.1 hw
      refine ⟨b3, rfl, ?_⟩
      unfold whyW; rw [if_pos hw]; exact t1
  clear t0 t1 hb6
  rintro _ H20 ⟨b, rfl, t1⟩
  have hc := t1.blk (List.mem_singleton.2 rfl)
  refine ⟨_, hc.cell _, _, hc.cell _, _, hc.cell _, _, _, _, hc.cell _, ?_⟩
  intro b27 H28 hn27
  refine ⟨hn27.blk.cells _ _ (by simp), fun H29 hp29 => ?_⟩
  have t2 := t1.put hn27 hp29 (by simp)
  rw [splice_all (by rfl)] at t2
  clear t1 hc hp29 hn27
  generalize hbs : [(b27, [Value.int .i64 r.kind, .int .i64 r.mode, .float .f64 r.time, .slice nda r.nd ndc]), (b1, [Value.int .i64 r.why, .int .i64 aw, .int .i64 r.kind, .int .i64 r.mode, .float .f64 r.time, .slice nda r.nd ndc, .slice ad nd dc, .slice an nn nc, .slice ac nch cc, .slice af nf fc])] = bs at t2
  have q27 : ∀ {H' ws}, RTt bs H2 H' b ws → Blk H' b27 [Value.int .i64 r.kind, .int .i64 r.mode, .float .f64 r.time, .slice nda r.nd ndc] := fun h => h.blk (p := (b27, _)) (by rw [← hbs]; simp)
  have q1 : ∀ {H' ws}, RTt bs H2 H' b ws → Blk H' b1 [Value.int .i64 r.why, .int .i64 aw, .int .i64 r.kind, .int .i64 r.mode, .float .f64 r.time, .slice nda r.nd ndc, .slice ad nd dc, .slice an nn nc, .slice ac nch cc, .slice af nf fc] := fun h => h.blk (p := (b1, _)) (by rw [← hbs]; simp)
  refine t_cut (fun H' => RTt bs H2 H' b (whyW r.why ++ nodeW r)) ?_ ?_
  · refine ⟨_, (q27 t2).cell _, fun hk => ?_, fun hk => ?_⟩
    · refine rt_word t2 nodeT ⟨by decide, by decide⟩ (by omega) fun _ t3 => ⟨_, (q27 t3).cell _, ?_⟩
      refine rt_num t3 o5.1 (by omega) (by simp; omega) fun _ t4 => ⟨_, (q27 t4).cell _, ?_⟩
      refine rt_num t4 o6.1 (by omega) (by simp; omega) fun H5 t5 => ⟨_, (q27 t5).cell _, ?_⟩
      refine rt_time t5 ok.time (by simp; omega) fun _ t7 => ⟨_, _, _, (q27 t7).cell _, ?_⟩
      refine rt_num t7 (by omega) (by omega) (by simp; omega) fun H8 t8 => ?_
      unfold nodeW; rw [if_neg hk]
      simpa using t8
    · have hk := Classical.not_not.1 hk
      unfold nodeW; rw [if_pos hk, List.append_nil]; exact t2
  clear t2
  intro H52 t2
  have w2 : (whyW r.why ++ nodeW r).length ≤ 10 := by rw [List.length_append]; omega
  generalize eW2 : whyW r.why ++ nodeW r = W2 at t2 w2
  refine t_cut (fun H' => RTt bs H2 H' b (W2 ++ if r.names.length = 0 then [] else [namesT])) ?_ ?_
  · refine ⟨_, _, _, (q1 t2).cell _, fun hpos => ?_, fun hneg => ?_⟩
    · refine rt_word t2 namesT ⟨by decide, by decide⟩ (by omega) fun H58 t3 => ?_
      rw [if_neg (by omega)]
      exact t3
    · rw [if_pos (by omega), List.append_nil]
      exact t2
  clear t2
  intro H67 t2
  have wx : (W2 ++ if r.names.length = 0 then [] else [namesT]).length ≤ W2.length + 1 := by
    rw [List.length_append]
    split
    · simp
    · simp
  refine t_cut (fun H' => RTt bs H2 H' b (W2 ++ namesW r.names)) ?_ ?_
  · refine ⟨fun n H' => 0 ≤ n ∧ n ≤ nn ∧ RTt bs H2 H' b ((W2 ++ if r.names.length = 0 then [] else [namesT]) ++ (r.names.take n.toNat).map textW), fun n _ => (nn - n).toNat, ⟨by omega, by omega, by simpa using t2⟩, ?_⟩
    rintro n H65 ⟨h0, h1, t4⟩
    refine ⟨_, _, _, (q1 t4).cell _, fun hlt => ?_, fun hge => ?_⟩
    · have hi : n.toNat < r.names.length := by omega
      have hget := List.getElem?_eq_getElem hi
      obtain ⟨b79, o, ea, hcell⟩ := (mem2.names.ext t4.x (by simp)).at (strs_at hget)
      refine ⟨_, _, _, (q1 t4).cell _, h0, hlt, b79, o, ea, _, hcell, ?_⟩
      have hlen : ((W2 ++ if r.names.length = 0 then [] else [namesT]) ++ (r.names.take n.toNat).map textW).length ≤ 15000000 := by rw [List.length_append, List.length_map, List.length_take]; omega
      refine rt_text t4 (ok.names.2 _ (List.getElem_mem hi)) hlen fun H70 t5 => ?_
      refine ⟨⟨by omega, by omega⟩, ⟨by omega, by omega, ?_⟩, by dsimp only; omega⟩
      rw [toNat_succ h0, take_snoc hget, List.map_append, ← List.append_assoc]
      exact t5
    · have hn : n.toNat = r.names.length := by omega
      rw [hn, List.take_length] at t4
      unfold namesW
      by_cases hz : r.names.length = 0
      · rw [if_pos hz]
        have hnil : r.names = [] := List.eq_nil_of_length_eq_zero hz
        rw [if_pos hz, hnil] at t4
        simpa using t4
      · rw [if_neg hz]
        rw [if_neg hz, List.append_assoc] at t4
        exact t4
  clear t2 wx
  intro H71 t2
  have w3 : (W2 ++ namesW r.names).length ≤ 3000000 := by rw [List.length_append]; omega
  generalize eW3 : W2 ++ namesW r.names = W3 at t2 w3
  refine t_cut (fun H' => RTt bs H2 H' b (W3 ++ dataW r.data)) ?_ ?_
  · refine ⟨_, _, _, (q1 t2).cell _, fun hpos => ?_, fun hneg => ?_⟩
    · refine rt_word t2 dataT ⟨by decide, by decide⟩ (by omega) fun H58 t3 => ⟨_, _, _, (q1 t3).cell _, ?_⟩
      refine rt_hex t3 mem2.data (by omega) (by simp; omega) fun H82 t4 => ?_
      unfold dataW
      rw [if_neg (by omega)]
      simpa using t4
    · unfold dataW
      rw [if_pos (by omega), List.append_nil]
      exact t2
  clear t2
  intro H83 t2
  have w4 : (W3 ++ dataW r.data).length ≤ 4000000 := by rw [List.length_append]; omega
  generalize eW4 : W3 ++ dataW r.data = W4 at t2 w4
  refine t_cut (fun H' => RTt bs H2 H' b (W4 ++ if r.chs.length = 0 then [] else [changesT, intS (r.chs.length : Int)])) ?_ ?_
  · refine ⟨_, _, _, (q1 t2).cell _, fun hpos => ?_, fun hneg => ?_⟩
    · refine rt_word t2 _ ⟨by decide, by decide⟩ (by omega) fun H58 t3 => ⟨_, _, _, (q1 t3).cell _, ?_⟩
      refine rt_num t3 (by omega) (by omega) (by simp; omega) fun H94 t4 => ?_
      rw [if_neg (by omega), mc2]
      simpa using t4
    · rw [if_pos (by omega), List.append_nil]
      exact t2
  clear t2
  intro H117 t2
  have wx : (W4 ++ if r.chs.length = 0 then [] else [changesT, intS (r.chs.length : Int)]).length ≤ W4.length + 2 := by
    rw [List.length_append]
    split
    · simp
    · simp
  refine t_cut (fun H' => RTt bs H2 H' b (W4 ++ secW changesT r.chs)) ?_ ?_
  · refine ⟨fun n H' => 0 ≤ n ∧ n ≤ nch ∧ RTt bs H2 H' b ((W4 ++ if r.chs.length = 0 then [] else [changesT, intS (r.chs.length : Int)]) ++ pairsW (r.chs.take n.toNat)), fun n _ => (nch - n).toNat, ⟨by omega, by omega, by simpa [pairsW] using t2⟩, ?_⟩
    rintro n H101 ⟨h0, h1, t5⟩
    refine ⟨_, _, _, (q1 t5).cell _, fun hlt => ?_, fun hge => ?_⟩
    · have hi : n.toNat < r.chs.length := by omega
      have hget := List.getElem?_eq_getElem hi
      have hp := ok.chs.2 _ (List.getElem_mem hi)
      have hlen : ((W4 ++ if r.chs.length = 0 then [] else [changesT, intS (r.chs.length : Int)]) ++ pairsW (r.chs.take n.toNat)).length ≤ 14000000 := by rw [List.length_append, pairsW_len, List.length_take]; omega
      obtain ⟨b129, o130, vs, ea, ⟨x2, x3, x4, d, dl, dc, x7, x8, x9, e, el, ec, rfl⟩, hcell⟩ := (mem2.ext t5.x).chs.2 _ _ hget
      refine ⟨_, _, _, (q1 t5).cell _, h0, hlt, b129, o130, ea, _, hcell 1 _ rfl, ?_⟩
      refine rt_num t5 (by omega) (by omega) (by omega) fun H136 t6 => ⟨_, _, _, (q1 t6).cell _, h0, hlt, ?_⟩
      obtain ⟨b140, o141, vs2, ea2, ⟨x2, x3, x4, d, dl, dc, x7, x8, x9, e, el, ec, rfl⟩, hcell2⟩ := (mem2.ext t6.x).chs.2 _ _ hget
      refine ⟨b140, o141, ea2, _, hcell2 0 _ rfl, ?_⟩
      refine rt_text t6 hp.1 (by rw [List.length_append, List.length_singleton]; omega) fun H147 t7 => ?_
      refine ⟨⟨by omega, by omega⟩, ⟨by omega, by omega, ?_⟩, by dsimp only; omega⟩
      rw [toNat_succ h0, take_snoc hget, pairsW_snoc, ← List.append_assoc, ← List.append_assoc]
      exact t7
    · have hn : n.toNat = r.chs.length := by omega
      rw [hn, List.take_length] at t5
      unfold secW
      by_cases hz : r.chs.length = 0
      · rw [if_pos hz]
        have hnil : r.chs = [] := List.eq_nil_of_length_eq_zero hz
        rw [if_pos hz, hnil] at t5
        simpa [pairsW] using t5
      · rw [if_neg hz]
        rw [if_neg hz, List.append_assoc] at t5
        exact t5
  clear t2 wx
  intro H148 t2
  have w5 : (W4 ++ secW changesT r.chs).length ≤ 9000000 := by rw [List.length_append]; omega
  generalize eW5 : W4 ++ secW changesT r.chs = W5 at t2 w5
  refine t_cut (fun H' => RTt bs H2 H' b (W5 ++ if r.cfs.length = 0 then [] else [conflictsT, intS (r.cfs.length : Int)])) ?_ ?_
  · refine ⟨_, _, _, (q1 t2).cell _, fun hpos => ?_, fun hneg => ?_⟩
    · refine rt_word t2 _ ⟨by decide, by decide⟩ (by omega) fun H58 t3 => ⟨_, _, _, (q1 t3).cell _, ?_⟩
      refine rt_num t3 (by omega) (by omega) (by simp; omega) fun H94 t4 => ?_
      rw [if_neg (by omega), mf2]
      simpa using t4
    · rw [if_pos (by omega), List.append_nil]
      exact t2
  clear t2
  intro H117 t2
  have wx : (W5 ++ if r.cfs.length = 0 then [] else [conflictsT, intS (r.cfs.length : Int)]).length ≤ W5.length + 2 := by
    rw [List.length_append]
    split
    · simp
    · simp
  refine t_cut (fun H' => RTt bs H2 H' b (W5 ++ secW conflictsT r.cfs)) ?_ ?_
  · refine ⟨fun n H' => 0 ≤ n ∧ n ≤ nf ∧ RTt bs H2 H' b ((W5 ++ if r.cfs.length = 0 then [] else [conflictsT, intS (r.cfs.length : Int)]) ++ pairsW (r.cfs.take n.toNat)), fun n _ => (nf - n).toNat, ⟨by omega, by omega, by simpa [pairsW] using t2⟩, ?_⟩
    rintro n H101 ⟨h0, h1, t5⟩
    refine ⟨_, _, _, (q1 t5).cell _, fun hlt => ?_, fun hge => ?_⟩
    · have hi : n.toNat < r.cfs.length := by omega
      have hget := List.getElem?_eq_getElem hi
      have hp := ok.cfs.2 _ (List.getElem_mem hi)
      have hlen : ((W5 ++ if r.cfs.length = 0 then [] else [conflictsT, intS (r.cfs.length : Int)]) ++ pairsW (r.cfs.take n.toNat)).length ≤ 14000000 := by rw [List.length_append, pairsW_len, List.length_take]; omega
      obtain ⟨b129, o130, vs, ea, rfl, hcell⟩ := (mem2.ext t5.x).cfs.2 _ _ hget
      refine ⟨_, _, _, (q1 t5).cell _, h0, hlt, b129, o130, ea, _, hcell 1 _ rfl, ?_⟩
      refine rt_num t5 (by omega) (by omega) (by omega) fun H136 t6 => ⟨_, _, _, (q1 t6).cell _, h0, hlt, ?_⟩
      obtain ⟨b140, o141, vs2, ea2, rfl, hcell2⟩ := (mem2.ext t6.x).cfs.2 _ _ hget
      refine ⟨b140, o141, ea2, _, hcell2 0 _ rfl, ?_⟩
      refine rt_text t6 hp.1 (by rw [List.length_append, List.length_singleton]; omega) fun H147 t7 => ?_
      refine ⟨⟨by omega, by omega⟩, ⟨by omega, by omega, ?_⟩, by dsimp only; omega⟩
      rw [toNat_succ h0, take_snoc hget, pairsW_snoc, ← List.append_assoc, ← List.append_assoc]
      exact t7
    · have hn : n.toNat = r.cfs.length := by omega
      rw [hn, List.take_length] at t5
      unfold secW
      by_cases hz : r.cfs.length = 0
      · rw [if_pos hz]
        have hnil : r.cfs = [] := List.eq_nil_of_length_eq_zero hz
        rw [if_pos hz, hnil] at t5
        simpa [pairsW] using t5
      · rw [if_neg hz]
        rw [if_neg hz, List.append_assoc] at t5
        exact t5
  clear t2 wx
  intro H148 t2
  have w6 : (W5 ++ secW conflictsT r.cfs).length ≤ 14000000 := by rw [List.length_append]; omega
  generalize eW6 : W5 ++ secW conflictsT r.cfs = W6 at t2 w6
  refine ⟨b, 0, rfl, _, t2.1.cell _, ?_, hn1.ext.trans t2.x⟩
  rw [← eW6, ← eW5, ← eW4, ← eW3, ← eW2]
  rfl
end
end Go.Proofs
end

section
open Go Go.Vc
namespace Go.Proofs
set_option maxRecDepth 100000
/-- pentimento/pentimentolaw25.ScriptPrints -/
theorem PrintsV (x0_0 : Int) (x0_1 : Int) (x0_2 : Int) (x0_3 : Int) (x0_4 : Int) (x0_5 : Int) (x0_6 : Int) (x0_7 : Int) (x0_8 : Int) (x0_9 : Int) (x0_10 : Int) (x0_11 : Int) (x0_12 : Int) (x0_13 : Nat) (x0_14 : Option Addr) (x0_14l : Nat) (x0_14c : Nat) (x0_15 : ByteArray) (x0_16 : Option Addr) (x0_16l : Nat) (x0_16c : Nat) (x1 : Int) (x2_0 : Int) (x2_1 : Int) (x2_2 : Int) (x2_3 : Int) (x2_4 : Nat) (x2_5 : Option Addr) (x2_5l : Nat) (x2_5c : Nat) (x2_6 : Option Addr) (x2_6l : Nat) (x2_6c : Nat) (x2_7 : Option Addr) (x2_7l : Nat) (x2_7c : Nat) (x2_8 : Option Addr) (x2_8l : Nat) (x2_8c : Nat) (x2_9 : Option Addr) (x2_9l : Nat) (x2_9c : Nat) (H : Heap) (R : Value → Heap → Prop) : Walk Tryz.prog 5 [] [(.agg #[(.int .i64 x0_0), (.int .i64 x0_1), (.int .i64 x0_2), (.int .i64 x0_3), (.int .i64 x0_4), (.int .i64 x0_5), (.int .i64 x0_6), (.int .i64 x0_7), (.int .i64 x0_8), (.int .i64 x0_9), (.int .i64 x0_10), (.int .i64 x0_11), (.int .i64 x0_12), (.float .f64 x0_13), (.slice x0_14 x0_14l x0_14c), (.string x0_15), (.slice x0_16 x0_16l x0_16c)]), (.int .i64 x1), (.agg #[(.int .i64 x2_0), (.int .i64 x2_1), (.int .i64 x2_2), (.int .i64 x2_3), (.float .f64 x2_4), (.slice x2_5 x2_5l x2_5c), (.slice x2_6 x2_6l x2_6c), (.slice x2_7 x2_7l x2_7c), (.slice x2_8 x2_8l x2_8c), (.slice x2_9 x2_9l x2_9c)])] H R = (
 ∀ b1 : Nat, ∀ H2 : Heap, New H b1 [(.int .i64 x0_0), (.int .i64 x0_1), (.int .i64 x0_2), (.int .i64 x0_3), (.int .i64 x0_4), (.int .i64 x0_5), (.int .i64 x0_6), (.int .i64 x0_7), (.int .i64 x0_8), (.int .i64 x0_9), (.int .i64 x0_10), (.int .i64 x0_11), (.int .i64 x0_12), (.float .f64 x0_13), (.slice x0_14 x0_14l x0_14c), (.string x0_15), (.slice x0_16 x0_16l x0_16c)] 27 H2 → (
 ∀ b3 : Nat, ∀ H4 : Heap, New H2 b3 [(.int .i64 x2_0), (.int .i64 x2_1), (.int .i64 x2_2), (.int .i64 x2_3), (.float .f64 x2_4), (.slice x2_5 x2_5l x2_5c), (.slice x2_6 x2_6l x2_6c), (.slice x2_7 x2_7l x2_7c), (.slice x2_8 x2_8l x2_8c), (.slice x2_9 x2_9l x2_9c)] 52 H4 → (
 ∃ n5 : Int, hcell H4 b1 0 = some (.int .i64 n5) ∧ (
 ∃ n6 : Int, hcell H4 b1 (0 + 1) = some (.int .i64 n6) ∧ (
 ∃ n7 : Int, hcell H4 b1 ((0 + 1) + 1) = some (.int .i64 n7) ∧ (
 ∃ n8 : Int, hcell H4 b1 (((0 + 1) + 1) + 1) = some (.int .i64 n8) ∧ (
 ∃ n9 : Int, hcell H4 b1 ((((0 + 1) + 1) + 1) + 1) = some (.int .i64 n9) ∧ (
 ∃ n10 : Int, hcell H4 b1 (((((0 + 1) + 1) + 1) + 1) + 1) = some (.int .i64 n10) ∧ (
 ∃ n11 : Int, hcell H4 b1 ((((((0 + 1) + 1) + 1) + 1) + 1) + 1) = some (.int .i64 n11) ∧ (
 ∃ n12 : Int, hcell H4 b1 (((((((0 + 1) + 1) + 1) + 1) + 1) + 1) + 1) = some (.int .i64 n12) ∧ (
 ∃ n13 : Int, hcell H4 b1 ((((((((0 + 1) + 1) + 1) + 1) + 1) + 1) + 1) + 1) = some (.int .i64 n13) ∧ (
 ∃ n14 : Int, hcell H4 b1 (((((((((0 + 1) + 1) + 1) + 1) + 1) + 1) + 1) + 1) + 1) = some (.int .i64 n14) ∧ (
 ∃ n15 : Int, hcell H4 b1 ((((((((((0 + 1) + 1) + 1) + 1) + 1) + 1) + 1) + 1) + 1) + 1) = some (.int .i64 n15) ∧ (
 ∃ n16 : Int, hcell H4 b1 (((((((((((0 + 1) + 1) + 1) + 1) + 1) + 1) + 1) + 1) + 1) + 1) + 1) = some (.int .i64 n16) ∧ (
 ∃ n17 : Int, hcell H4 b1 ((((((((((((0 + 1) + 1) + 1) + 1) + 1) + 1) + 1) + 1) + 1) + 1) + 1) + 1) = some (.int .i64 n17) ∧ (
 ∃ f18 : Nat, hcell H4 b1 (((((((((((((0 + 1) + 1) + 1) + 1) + 1) + 1) + 1) + 1) + 1) + 1) + 1) + 1) + 1) = some (.float .f64 f18) ∧ (
 ∃ a19 : Option Addr, ∃ l20 : Nat, ∃ c21 : Nat, hcell H4 b1 ((((((((((((((0 + 1) + 1) + 1) + 1) + 1) + 1) + 1) + 1) + 1) + 1) + 1) + 1) + 1) + 1) = some (.slice a19 l20 c21) ∧ (
 ∃ s22 : ByteArray, hcell H4 b1 (((((((((((((((0 + 1) + 1) + 1) + 1) + 1) + 1) + 1) + 1) + 1) + 1) + 1) + 1) + 1) + 1) + 1) = some (.string s22) ∧ (
 ∃ a23 : Option Addr, ∃ l24 : Nat, ∃ c25 : Nat, hcell H4 b1 ((((((((((((((((0 + 1) + 1) + 1) + 1) + 1) + 1) + 1) + 1) + 1) + 1) + 1) + 1) + 1) + 1) + 1) + 1) = some (.slice a23 l24 c25) ∧ (
 Does Tryz.prog 7 [(.agg #[(.int .i64 n5), (.int .i64 n6), (.int .i64 n7), (.int .i64 n8), (.int .i64 n9), (.int .i64 n10), (.int .i64 n11), (.int .i64 n12), (.int .i64 n13), (.int .i64 n14), (.int .i64 n15), (.int .i64 n16), (.int .i64 n17), (.float .f64 f18), (.slice a19 l20 c21), (.string s22), (.slice a23 l24 c25)]), (.int .i64 x1)] H4 fun v26 H27 => ∃ n28 : Int, ∃ s29 : ByteArray, ∃ s30 : ByteArray, ∃ s31 : ByteArray, ∃ n32 : Int, ∃ s33 : ByteArray, ∃ s34 : ByteArray, ∃ n35 : Int, ∃ f36 : Nat, ∃ n37 : Int, ∃ n38 : Int, ∃ a39 : Option Addr, ∃ l40 : Nat, ∃ c41 : Nat, ∃ n42 : Int, ∃ a43 : Option Addr, ∃ l44 : Nat, ∃ c45 : Nat, v26 = (.agg #[(.int .i64 n28), (.string s29), (.string s30), (.string s31), (.int .i64 n32), (.string s33), (.string s34), (.int .i64 n35), (.float .f64 f36), (.int .i64 n37), (.int .i64 n38), (.slice a39 l40 c41), (.int .i64 n42), (.slice a43 l44 c45)]) ∧ (
 ∀ b46 : Nat, ∀ H47 : Heap, New H27 b46 [(.int .i64 0), (.string (ByteArray.mk #[])), (.string (ByteArray.mk #[])), (.string (ByteArray.mk #[])), (.int .i64 0), (.string (ByteArray.mk #[])), (.string (ByteArray.mk #[])), (.int .i64 0), (.float .f64 0), (.int .i64 0), (.int .i64 0), (.slice none 0 0), (.int .i64 0), (.slice none 0 0)] 33 H47 → (
 Cells H47 b46 0 14 ∧ ∀ H48 : Heap, Puts H47 b46 0 [(.int .i64 n28), (.string s29), (.string s30), (.string s31), (.int .i64 n32), (.string s33), (.string s34), (.int .i64 n35), (.float .f64 f36), (.int .i64 n37), (.int .i64 n38), (.slice a39 l40 c41), (.int .i64 n42), (.slice a43 l44 c45)] H48 → (
 ∃ n49 : Int, hcell H48 b46 0 = some (.int .i64 n49) ∧ (
 ∃ s50 : ByteArray, hcell H48 b46 (0 + 1) = some (.string s50) ∧ (
 ∃ s51 : ByteArray, hcell H48 b46 ((0 + 1) + 1) = some (.string s51) ∧ (
 ∃ s52 : ByteArray, hcell H48 b46 (((0 + 1) + 1) + 1) = some (.string s52) ∧ (
 ∃ n53 : Int, hcell H48 b46 ((((0 + 1) + 1) + 1) + 1) = some (.int .i64 n53) ∧ (
 ∃ s54 : ByteArray, hcell H48 b46 (((((0 + 1) + 1) + 1) + 1) + 1) = some (.string s54) ∧ (
 ∃ s55 : ByteArray, hcell H48 b46 ((((((0 + 1) + 1) + 1) + 1) + 1) + 1) = some (.string s55) ∧ (
 ∃ n56 : Int, hcell H48 b46 (((((((0 + 1) + 1) + 1) + 1) + 1) + 1) + 1) = some (.int .i64 n56) ∧ (
 ∃ f57 : Nat, hcell H48 b46 ((((((((0 + 1) + 1) + 1) + 1) + 1) + 1) + 1) + 1) = some (.float .f64 f57) ∧ (
 ∃ n58 : Int, hcell H48 b46 (((((((((0 + 1) + 1) + 1) + 1) + 1) + 1) + 1) + 1) + 1) = some (.int .i64 n58) ∧ (
 ∃ n59 : Int, hcell H48 b46 ((((((((((0 + 1) + 1) + 1) + 1) + 1) + 1) + 1) + 1) + 1) + 1) = some (.int .i64 n59) ∧ (
 ∃ a60 : Option Addr, ∃ l61 : Nat, ∃ c62 : Nat, hcell H48 b46 (((((((((((0 + 1) + 1) + 1) + 1) + 1) + 1) + 1) + 1) + 1) + 1) + 1) = some (.slice a60 l61 c62) ∧ (
 ∃ n63 : Int, hcell H48 b46 ((((((((((((0 + 1) + 1) + 1) + 1) + 1) + 1) + 1) + 1) + 1) + 1) + 1) + 1) = some (.int .i64 n63) ∧ (
 ∃ a64 : Option Addr, ∃ l65 : Nat, ∃ c66 : Nat, hcell H48 b46 (((((((((((((0 + 1) + 1) + 1) + 1) + 1) + 1) + 1) + 1) + 1) + 1) + 1) + 1) + 1) = some (.slice a64 l65 c66) ∧ (
 Does Tryz.prog 13 [(.agg #[(.int .i64 n49), (.string s50), (.string s51), (.string s52), (.int .i64 n53), (.string s54), (.string s55), (.int .i64 n56), (.float .f64 f57), (.int .i64 n58), (.int .i64 n59), (.slice a60 l61 c62), (.int .i64 n63), (.slice a64 l65 c66)])] H48 fun v67 H68 => ∃ s69 : ByteArray, ∃ t70 : Bool, v67 = (.tuple #[(.string s69), (.bool t70)]) ∧ (
 ∃ n71 : Int, hcell H68 b46 0 = some (.int .i64 n71) ∧ (
 ∃ s72 : ByteArray, hcell H68 b46 (0 + 1) = some (.string s72) ∧ (
 ∃ s73 : ByteArray, hcell H68 b46 ((0 + 1) + 1) = some (.string s73) ∧ (
 ∃ s74 : ByteArray, hcell H68 b46 (((0 + 1) + 1) + 1) = some (.string s74) ∧ (
 ∃ n75 : Int, hcell H68 b46 ((((0 + 1) + 1) + 1) + 1) = some (.int .i64 n75) ∧ (
 ∃ s76 : ByteArray, hcell H68 b46 (((((0 + 1) + 1) + 1) + 1) + 1) = some (.string s76) ∧ (
 ∃ s77 : ByteArray, hcell H68 b46 ((((((0 + 1) + 1) + 1) + 1) + 1) + 1) = some (.string s77) ∧ (
 ∃ n78 : Int, hcell H68 b46 (((((((0 + 1) + 1) + 1) + 1) + 1) + 1) + 1) = some (.int .i64 n78) ∧ (
 ∃ f79 : Nat, hcell H68 b46 ((((((((0 + 1) + 1) + 1) + 1) + 1) + 1) + 1) + 1) = some (.float .f64 f79) ∧ (
 ∃ n80 : Int, hcell H68 b46 (((((((((0 + 1) + 1) + 1) + 1) + 1) + 1) + 1) + 1) + 1) = some (.int .i64 n80) ∧ (
 ∃ n81 : Int, hcell H68 b46 ((((((((((0 + 1) + 1) + 1) + 1) + 1) + 1) + 1) + 1) + 1) + 1) = some (.int .i64 n81) ∧ (
 ∃ a82 : Option Addr, ∃ l83 : Nat, ∃ c84 : Nat, hcell H68 b46 (((((((((((0 + 1) + 1) + 1) + 1) + 1) + 1) + 1) + 1) + 1) + 1) + 1) = some (.slice a82 l83 c84) ∧ (
 ∃ n85 : Int, hcell H68 b46 ((((((((((((0 + 1) + 1) + 1) + 1) + 1) + 1) + 1) + 1) + 1) + 1) + 1) + 1) = some (.int .i64 n85) ∧ (
 ∃ a86 : Option Addr, ∃ l87 : Nat, ∃ c88 : Nat, hcell H68 b46 (((((((((((((0 + 1) + 1) + 1) + 1) + 1) + 1) + 1) + 1) + 1) + 1) + 1) + 1) + 1) = some (.slice a86 l87 c88) ∧ (
 Does Tryz.prog 6 [(.agg #[(.int .i64 n71), (.string s72), (.string s73), (.string s74), (.int .i64 n75), (.string s76), (.string s77), (.int .i64 n78), (.float .f64 f79), (.int .i64 n80), (.int .i64 n81), (.slice a82 l83 c84), (.int .i64 n85), (.slice a86 l87 c88)])] H68 fun v89 H90 => ∃ s91 : ByteArray, ∃ t92 : Bool, v89 = (.tuple #[(.string s91), (.bool t92)]) ∧ (
 ∃ n93 : Int, hcell H90 b3 0 = some (.int .i64 n93) ∧ (
 Does Tryz.prog 8 [(.int .i64 n93), (.int .i64 19)] H90 fun v94 H95 => ∃ n96 : Int, v94 = (.int .i64 n96) ∧ (
 Cells H95 b3 0 1 ∧ ∀ H97 : Heap, Puts H95 b3 0 [(.int .i64 n96)] H97 → (
 ∃ n98 : Int, hcell H97 b3 (((0 + 1) + 1) + 1) = some (.int .i64 n98) ∧ (
 Does Tryz.prog 8 [(.int .i64 n98), (.int .i64 5000)] H97 fun v99 H100 => ∃ n101 : Int, v99 = (.int .i64 n101) ∧ (
 Cells H100 b3 (((0 + 1) + 1) + 1) 1 ∧ ∀ H102 : Heap, Puts H100 b3 (((0 + 1) + 1) + 1) [(.int .i64 n101)] H102 → (
 ∃ n103 : Int, hcell H102 b3 ((0 + 1) + 1) = some (.int .i64 n103) ∧ (
 Does Tryz.prog 8 [(.int .i64 n103), (.int .i64 4)] H102 fun v104 H105 => ∃ n106 : Int, v104 = (.int .i64 n106) ∧ (
 Cells H105 b3 ((0 + 1) + 1) 1 ∧ ∀ H107 : Heap, Puts H105 b3 ((0 + 1) + 1) [(.int .i64 n106)] H107 → (
 ∀ b108 : Nat, ∀ H109 : Heap, New H107 b108 [] 54 H109 → (
 ∃ a110 : Option Addr, ∃ l111 : Nat, ∃ c112 : Nat, hcell H109 b3 (0 + 8) = some (.slice a110 l111 c112) ∧ (
 ∃ old113 new114 : List Value, SRow H109 10 0 (.slice (some (⟨b108, 0, none⟩ : Addr)) 0 0) old113 ∧ SRow H109 10 l111 (.slice a110 l111 c112) new114 ∧ (∀ u ∈ new114, Value.oneCell' u = true) ∧ (0 + l111) * 120 ≤ 140737488355328 ∧ (0 + l111 ≤ 0 → roomOf H109 (some (⟨b108, 0, none⟩ : Addr)) (0 * 10) (l111 * 10)) ∧ ∀ a115 : Option Addr, ∀ c116 : Nat, ∀ H117 : Heap, App H109 10 54 [(.string (ByteArray.mk #[])), (.int .i64 0), (.int .i64 0), (.int .i64 0), (.float .f64 0), (.slice none 0 0), (.int .i64 0), (.int .i64 0), (.float .f64 0), (.slice none 0 0)] (some (⟨b108, 0, none⟩ : Addr)) 0 0 old113 new114 l111 a115 c116 H117 → (
 ∃ I118 : Int → Heap → Prop, ∃ μ119 : Int → Heap → Nat, (I118 0 H117) ∧
 ∀ n120 : Int, ∀ H121 : Heap, I118 n120 H121 → (
 ((((n120 : Int) < ((0 + l111) : Int)) → (
 (0 : Int) ≤ n120 ∧ (n120 : Int) < ((0 + l111) : Int) ∧ ∃ b122 o123 : Nat, a115 = some (⟨b122, o123, none⟩ : Addr) ∧ (
 ∃ n124 : Int, hcell H121 b122 ((o123 + (Int.toNat n120) * 10) + 1) = some (.int .i64 n124) ∧ (
 Does Tryz.prog 8 [(.int .i64 n124), (.int .i64 7)] H121 fun v125 H126 => ∃ n127 : Int, v125 = (.int .i64 n127) ∧ (
 (0 : Int) ≤ n120 ∧ (n120 : Int) < ((0 + l111) : Int) ∧ ∃ b128 o129 : Nat, a115 = some (⟨b128, o129, none⟩ : Addr) ∧ (
 Cells H126 b128 ((o129 + (Int.toNat n120) * 10) + 1) 1 ∧ ∀ H130 : Heap, Puts H126 b128 ((o129 + (Int.toNat n120) * 10) + 1) [(.int .i64 n127)] H130 → (
 (In64 (n120 + 1)) ∧
 (I118 (n120 + 1) H130) ∧ μ119 (n120 + 1) H130 < μ119 n120 H121))))))) ∧ (¬ ((n120 : Int) < ((0 + l111) : Int)) → (
 Cells H121 b3 (0 + 8) 1 ∧ ∀ H131 : Heap, Puts H121 b3 (0 + 8) [(.slice a115 (0 + l111) c116)] H131 → (
 ∀ b132 : Nat, ∀ H133 : Heap, New H131 b132 [] 56 H133 → (
 ∃ a134 : Option Addr, ∃ l135 : Nat, ∃ c136 : Nat, hcell H133 b3 (0 + 9) = some (.slice a134 l135 c136) ∧ (
 ∃ old137 new138 : List Value, SRow H133 2 0 (.slice (some (⟨b132, 0, none⟩ : Addr)) 0 0) old137 ∧ SRow H133 2 l135 (.slice a134 l135 c136) new138 ∧ (∀ u ∈ new138, Value.oneCell' u = true) ∧ (0 + l135) * 24 ≤ 140737488355328 ∧ (0 + l135 ≤ 0 → roomOf H133 (some (⟨b132, 0, none⟩ : Addr)) (0 * 2) (l135 * 2)) ∧ ∀ a139 : Option Addr, ∀ c140 : Nat, ∀ H141 : Heap, App H133 2 56 [(.string (ByteArray.mk #[])), (.int .i64 0)] (some (⟨b132, 0, none⟩ : Addr)) 0 0 old137 new138 l135 a139 c140 H141 → (
 ∃ I142 : Int → Heap → Prop, ∃ μ143 : Int → Heap → Nat, (I142 0 H141) ∧
 ∀ n144 : Int, ∀ H145 : Heap, I142 n144 H145 → (
 ((((n144 : Int) < ((0 + l135) : Int)) → (
 (0 : Int) ≤ n144 ∧ (n144 : Int) < ((0 + l135) : Int) ∧ ∃ b146 o147 : Nat, a139 = some (⟨b146, o147, none⟩ : Addr) ∧ (
 ∃ n148 : Int, hcell H145 b146 ((o147 + (Int.toNat n144) * 2) + 1) = some (.int .i64 n148) ∧ (
 Does Tryz.prog 8 [(.int .i64 n148), (.int .i64 9)] H145 fun v149 H150 => ∃ n151 : Int, v149 = (.int .i64 n151) ∧ (
 (0 : Int) ≤ n144 ∧ (n144 : Int) < ((0 + l135) : Int) ∧ ∃ b152 o153 : Nat, a139 = some (⟨b152, o153, none⟩ : Addr) ∧ (
 Cells H150 b152 ((o153 + (Int.toNat n144) * 2) + 1) 1 ∧ ∀ H154 : Heap, Puts H150 b152 ((o153 + (Int.toNat n144) * 2) + 1) [(.int .i64 n151)] H154 → (
 (In64 (n144 + 1)) ∧
 (I142 (n144 + 1) H154) ∧ μ143 (n144 + 1) H154 < μ143 n144 H145))))))) ∧ (¬ ((n144 : Int) < ((0 + l135) : Int)) → (
 Cells H145 b3 (0 + 9) 1 ∧ ∀ H155 : Heap, Puts H145 b3 (0 + 9) [(.slice a139 (0 + l135) c140)] H155 → (
 ∃ I156 : Int → Heap → Prop, ∃ μ157 : Int → Heap → Nat, (I156 0 H155) ∧
 ∀ n158 : Int, ∀ H159 : Heap, I156 n158 H159 → (
 ((((n158 : Int) < 2) → (
 ∃ n160 : Int, hcell H159 b3 0 = some (.int .i64 n160) ∧ (
 ∃ n161 : Int, hcell H159 b3 (0 + 1) = some (.int .i64 n161) ∧ (
 ∃ n162 : Int, hcell H159 b3 ((0 + 1) + 1) = some (.int .i64 n162) ∧ (
 ∃ n163 : Int, hcell H159 b3 (((0 + 1) + 1) + 1) = some (.int .i64 n163) ∧ (
 ∃ f164 : Nat, hcell H159 b3 ((((0 + 1) + 1) + 1) + 1) = some (.float .f64 f164) ∧ (
 ∃ a165 : Option Addr, ∃ l166 : Nat, ∃ c167 : Nat, hcell H159 b3 (((((0 + 1) + 1) + 1) + 1) + 1) = some (.slice a165 l166 c167) ∧ (
 ∃ a168 : Option Addr, ∃ l169 : Nat, ∃ c170 : Nat, hcell H159 b3 ((((((0 + 1) + 1) + 1) + 1) + 1) + 1) = some (.slice a168 l169 c170) ∧ (
 ∃ a171 : Option Addr, ∃ l172 : Nat, ∃ c173 : Nat, hcell H159 b3 (((((((0 + 1) + 1) + 1) + 1) + 1) + 1) + 1) = some (.slice a171 l172 c173) ∧ (
 ∃ a174 : Option Addr, ∃ l175 : Nat, ∃ c176 : Nat, hcell H159 b3 ((((((((0 + 1) + 1) + 1) + 1) + 1) + 1) + 1) + 1) = some (.slice a174 l175 c176) ∧ (
 ∃ a177 : Option Addr, ∃ l178 : Nat, ∃ c179 : Nat, hcell H159 b3 (((((((((0 + 1) + 1) + 1) + 1) + 1) + 1) + 1) + 1) + 1) = some (.slice a177 l178 c179) ∧ (
 ∃ n180 : Int, hcell H159 b3 0 = some (.int .i64 n180) ∧ (
 ∃ n181 : Int, hcell H159 b3 (0 + 1) = some (.int .i64 n181) ∧ (
 ∃ n182 : Int, hcell H159 b3 ((0 + 1) + 1) = some (.int .i64 n182) ∧ (
 ∃ n183 : Int, hcell H159 b3 (((0 + 1) + 1) + 1) = some (.int .i64 n183) ∧ (
 ∃ f184 : Nat, hcell H159 b3 ((((0 + 1) + 1) + 1) + 1) = some (.float .f64 f184) ∧ (
 ∃ a185 : Option Addr, ∃ l186 : Nat, ∃ c187 : Nat, hcell H159 b3 (((((0 + 1) + 1) + 1) + 1) + 1) = some (.slice a185 l186 c187) ∧ (
 ∃ a188 : Option Addr, ∃ l189 : Nat, ∃ c190 : Nat, hcell H159 b3 ((((((0 + 1) + 1) + 1) + 1) + 1) + 1) = some (.slice a188 l189 c190) ∧ (
 ∃ a191 : Option Addr, ∃ l192 : Nat, ∃ c193 : Nat, hcell H159 b3 (((((((0 + 1) + 1) + 1) + 1) + 1) + 1) + 1) = some (.slice a191 l192 c193) ∧ (
 ∃ a194 : Option Addr, ∃ l195 : Nat, ∃ c196 : Nat, hcell H159 b3 ((((((((0 + 1) + 1) + 1) + 1) + 1) + 1) + 1) + 1) = some (.slice a194 l195 c196) ∧ (
 ∃ a197 : Option Addr, ∃ l198 : Nat, ∃ c199 : Nat, hcell H159 b3 (((((((((0 + 1) + 1) + 1) + 1) + 1) + 1) + 1) + 1) + 1) = some (.slice a197 l198 c199) ∧ (
 Does Tryz.prog 14 [(.agg #[(.int .i64 n160), (.int .i64 n161), (.int .i64 n162), (.int .i64 n163), (.float .f64 f164), (.slice a165 l166 c167), (.slice a168 l169 c170), (.slice a171 l172 c173), (.slice a174 l175 c176), (.slice a177 l178 c179)])] H159 fun v200 H201 => ∃ s202 : ByteArray, v200 = (.string s202) ∧ (
 isL H201 b3 0 [(.int .i64 n180), (.int .i64 n181), (.int .i64 n182), (.int .i64 n183), (.float .f64 f184), (.slice a185 l186 c187), (.slice a188 l189 c190), (.slice a191 l192 c193), (.slice a194 l195 c196), (.slice a197 l198 c199)] ∧ (Does Tryz.prog 15 [(.agg #[(.int .i64 n180), (.int .i64 n181), (.int .i64 n182), (.int .i64 n183), (.float .f64 f184), (.slice a185 l186 c187), (.slice a188 l189 c190), (.slice a191 l192 c193), (.slice a194 l195 c196), (.slice a197 l198 c199)])] H201 fun v203 H204 => ∃ s205 : ByteArray, v203 = (.string s205) ∧ (
 (((((s202 : ByteArray) ≠ s205) → (
 R (.bool false) H204)) ∧ (¬ ((s202 : ByteArray) ≠ s205) → (
 Cells H204 b3 (0 + 8) 1 ∧ ∀ H206 : Heap, Puts H204 b3 (0 + 8) [(.slice none 0 0)] H206 → (
 Cells H206 b3 ((0 + 1) + 5) 1 ∧ ∀ H207 : Heap, Puts H206 b3 ((0 + 1) + 5) [(.slice none 0 0)] H207 → (
 (In64 (n158 + 1)) ∧
 (I156 (n158 + 1) H207) ∧ μ157 (n158 + 1) H207 < μ157 n158 H159))))))))))))))))))))))))))))))) ∧ (¬ ((n158 : Int) < 2) → (
 Does Tryz.prog 11 [] H159 fun v208 H209 => ∃ t210 : Bool, v208 = (.bool t210) ∧ (
 ((t210 = true → (
 ((((s69 : ByteArray) = s91) → (
 R (.bool (@decide ((t70 = true) ↔ (t92 = true)) (Classical.propDecidable _))) H209)) ∧ (¬ ((s69 : ByteArray) = s91) → (
 R (.bool false) H209))))) ∧ (t210 = false → (
 R (.bool false) H209)))))))))))))))))))))))))))))))))))))))))))))))))))))))))))))))))))))))))))))))))))))) := by kernel_rfl


end Go.Proofs
end

section
open Go Go.Vc
namespace Go.Proofs
theorem idx_eq {c i j i0 j0 : Nat} (hj : j < c) (hj0 : j0 < c) (h : i * c + j = i0 * c + j0) : i = i0 ∧ j = j0 := by
  have hc : 0 < c := by omega
  have h1 : (i * c + j) / c = i := by rw [Nat.mul_comm, Nat.mul_add_div hc, Nat.div_eq_of_lt hj, Nat.add_zero]
  have h2 : (i0 * c + j0) / c = i0 := by rw [Nat.mul_comm, Nat.mul_add_div hc, Nat.div_eq_of_lt hj0, Nat.add_zero]
  have : i = i0 := by rw [← h1, ← h2, h]
  subst this
  exact ⟨rfl, by omega⟩
/-- What is asked of a row's shape. -/
structure EOk (E : List Value → ByteArray × Int → Prop) (c : Nat) : Prop where
  two : 1 < c
  len : ∀ {vs p}, E vs p → vs.length = c
  one : ∀ {vs p}, E vs p → vs[1]? = some (.int .i64 p.2)
  set : ∀ {vs p}, E vs p → ∀ q, E (vs.set 1 (.int .i64 q)) (p.1, q)
theorem chE : EOk chOk 10 where
  two := by decide
  len := by rintro vs p ⟨_, _, _, _, _, _, _, _, _, _, _, _, rfl⟩; rfl
  one := by rintro vs p ⟨_, _, _, _, _, _, _, _, _, _, _, _, rfl⟩; rfl
  set := by rintro vs p ⟨_, _, _, _, _, _, _, _, _, _, _, _, rfl⟩ q; exact ⟨_, _, _, _, _, _, _, _, _, _, _, _, rfl⟩
theorem cfE : EOk cfOk 2 where
  two := by decide
  len := by rintro vs p rfl; rfl
  one := by rintro vs p rfl; rfl
  set := by rintro vs p rfl q; rfl
def Cp (E : List Value → ByteArray × Int → Prop) (c N m n : Nat) (hi : Int) (H : Heap) (a : Option Addr) : Prop :=
  ∃ b cs, a = some ⟨b, 0, none⟩ ∧ N ≤ b ∧ Blk H b cs ∧ n * c ≤ cs.length ∧ ∀ i, i < n → ∃ p vs, E vs p ∧ p.1.size ≤ 2000000 ∧ (i < m → 0 ≤ p.2 ∧ p.2 ≤ hi) ∧ ∀ (j : Nat) (u : Value), vs[j]? = some u → cs[i * c + j]? = some u
section
variable {E : List Value → ByteArray × Int → Prop} {c N m n : Nat} {hi : Int} {H H' : Heap} {a : Option Addr}
theorem Cp.ext (h : Cp E c N m n hi H a) {M : List Nat} (hx : Ext M H H') (hm : ∀ k ∈ M, k < N) : Cp E c N m n hi H' a := by
  obtain ⟨b, cs, h1, h2, h3, h4⟩ := h
  exact ⟨b, cs, h1, h2, h3.ext hx (fun hb => by have := hm b hb; omega), h4⟩
theorem Cp.app (hE : EOk E c) {rows : List (List Value)} {z : List Value} {e e0 : TypeId} {b0 c' : Nat} {a' : Option Addr} {H0 : Heap} (hN : N ≤ H0.size) (hn0 : New H0 b0 [] e0 H) (h : App H c e z (some ⟨b0, 0, none⟩) 0 0 [] rows.flatten n a' c' H')
    (h1 : rows.length = n) (h2 : ∀ r ∈ rows, ∃ p, E r p ∧ p.1.size ≤ 2000000) : Cp E c N 0 n hi H' a' ∧ Ext [] H H' := by
  have hz := hn0.size
  have he := hn0.eq
  have hl : ∀ r ∈ rows, r.length = c := fun r hr => by obtain ⟨p, hp, _⟩ := h2 r hr; exact hE.len hp
  rcases h with ⟨q1, rfl, rfl, q4⟩ | ⟨q1, rfl, q3, q5, q4⟩
  · have hn : n = 0 := by omega
    subst hn
    have hr : rows = [] := List.eq_nil_of_length_eq_zero h1
    subst hr
    have q4 : H' = H := q4
    subst q4
    exact ⟨⟨b0, [], rfl, by omega, hn0.blk, by simp, fun i hi => absurd hi (by omega)⟩, Ext.refl _ _⟩
  · subst q4
    have hfl := flatten_len hl
    refine ⟨⟨H.size, [] ++ rows.flatten ++ (List.replicate (c' - (0 + n)) z).flatten, rfl, by omega, ?_, ?_, fun i hi => ?_⟩, ⟨by simp, fun k hk _ => by rw [Array.getElem?_push, if_neg (by omega)]⟩⟩
    · exact New.blk (e := e) ⟨rfl, rfl⟩
    · rw [List.nil_append, List.length_append, hfl, h1]; omega
    · have hi' : i < rows.length := by omega
      obtain ⟨p, hp, hps⟩ := h2 _ (List.getElem_mem hi')
      refine ⟨p, rows[i], hp, hps, fun hm => absurd hm (by omega), fun j u hj => ?_⟩
      have hjl := (List.getElem?_eq_some_iff.1 hj).1
      rw [hE.len hp] at hjl
      have := flatten_at hl (List.getElem?_eq_getElem hi') hjl
      rw [hj] at this
      rw [List.nil_append, List.getElem?_append_left (List.getElem?_eq_some_iff.1 this).1]
      exact this
theorem Cp.read (hE : EOk E c) (h : Cp E c N m n hi H a) {i : Nat} (hi' : i < n) : ∃ b o, a = some ⟨b, o, none⟩ ∧ ∃ q : Int, hcell H b (o + i * c + 1) = some (.int .i64 q) := by
  obtain ⟨b, cs, h1, h2, h3, h4, h5⟩ := h
  obtain ⟨p, vs, q1, q2, q3, q4⟩ := h5 i hi'
  refine ⟨b, 0, h1, p.2, ?_⟩
  rw [h3.cell, Nat.zero_add]
  exact q4 1 _ (hE.one q1)
theorem Cp.write (hE : EOk E c) (h : Cp E c N m n hi H a) (hm : m < n) {q : Int} (hq : 0 ≤ q ∧ q ≤ hi) : ∃ b o, a = some ⟨b, o, none⟩ ∧ N ≤ b ∧ Cells H b (o + m * c + 1) 1 ∧ ∀ H', Puts H b (o + m * c + 1) [.int .i64 q] H' → Cp E c N (m + 1) n hi H' a := by
  obtain ⟨b, cs, h1, h2, h3, h4, h5⟩ := h
  have h2c := hE.two
  have hmc : m * c + c ≤ cs.length := by
    have : (m + 1) * c ≤ n * c := Nat.mul_le_mul_right _ hm
    rw [Nat.add_mul] at this
    omega
  refine ⟨b, 0, h1, h2, h3.cells _ _ (by omega), fun H' hp => ?_⟩
  have hb := hp.blk h3 (by simp; omega)
  refine ⟨b, _, h1, h2, hb, ?_, fun i hi' => ?_⟩
  · unfold splice; simp; omega
  · obtain ⟨p, vs, q1, q2, q3, q4⟩ := h5 i hi'
    have hl := hE.len q1
    have spl : ∀ k, (splice cs (0 + m * c + 1) [Value.int .i64 q])[k]? = if k = m * c + 1 then some (.int .i64 q) else cs[k]? := by
      intro k
      unfold splice
      simp only [Nat.zero_add, List.length_cons, List.length_nil]
      have ht : (cs.take (m * c + 1)).length = m * c + 1 := by rw [List.length_take]; omega
      rcases Nat.lt_trichotomy k (m * c + 1) with hk | hk | hk
      · rw [if_neg (by omega), List.append_assoc, List.getElem?_append_left (by omega), List.getElem?_take, if_pos hk]
      · rw [if_pos hk, List.append_assoc, List.getElem?_append_right (by omega), ht, hk]
        simp
      · rw [if_neg (by omega), List.append_assoc, List.getElem?_append_right (by omega), ht, List.getElem?_append_right (by simp; omega), List.getElem?_drop]
        simp only [List.length_cons, List.length_nil]
        congr 1
        omega
    by_cases him : i = m
    · subst him
      refine ⟨(p.1, q), vs.set 1 (.int .i64 q), hE.set q1 q, q2, fun _ => hq, fun j u hj => ?_⟩
      rw [spl]
      rw [List.getElem?_set] at hj
      split at hj
      · rename_i h1j
        subst h1j
        rw [if_pos rfl]
        split at hj
        · exact hj
        · cases hj
      · rename_i h1j
        rw [if_neg (by omega)]
        exact q4 j u hj
    · refine ⟨p, vs, q1, q2, fun hlt => q3 (by omega), fun j u hj => ?_⟩
      have hjl := (List.getElem?_eq_some_iff.1 hj).1
      rw [spl, if_neg (fun hk => him (idx_eq (by omega) h2c hk).1)]
      exact q4 j u hj
def CL (E : List Value → ByteArray × Int → Prop) (c N M n : Nat) (H : Heap) (a : Option Addr) (l : List (ByteArray × Int)) : Prop :=
  l.length = n ∧ ∀ (i : Nat) (p : ByteArray × Int), l[i]? = some p → ∃ (b o : Nat) (vs : List Value), a = some ⟨b, o, none⟩ ∧ (N ≤ b ∧ b < M) ∧ E vs p ∧ ∀ (j : Nat) (u : Value), vs[j]? = some u → hcell H b (o + i * c + j) = some u
theorem CL.ext {M : Nat} {l : List (ByteArray × Int)} (h : CL E c N M n H a l) {L : List Nat} (hx : Ext L H H') (hm : ∀ k ∈ L, k < N ∨ M ≤ k) : CL E c N M n H' a l := by
  refine ⟨h.1, fun i p hp => ?_⟩
  obtain ⟨b, o, vs, q1, q2, q3, q4⟩ := h.2 i p hp
  exact ⟨b, o, vs, q1, q2, q3, fun j u hu => hcell_ext (q4 j u hu) hx (fun hb => by have := hm b hb; omega)⟩
theorem list_of {α : Type} {Q : Nat → α → Prop} : ∀ n, (∀ i, i < n → ∃ p, Q i p) → ∃ l : List α, l.length = n ∧ ∀ i p, l[i]? = some p → Q i p
  | 0, _ => ⟨[], rfl, fun i p h => by simp at h⟩
  | n + 1, h => by
    obtain ⟨l, h1, h2⟩ := list_of n (fun i hi => h i (by omega))
    obtain ⟨p, hp⟩ := h n (by omega)
    refine ⟨l ++ [p], by simp [h1], fun i q hq => ?_⟩
    rcases Nat.lt_trichotomy i n with hi | hi | hi
    · rw [List.getElem?_append_left (by omega)] at hq
      exact h2 i q hq
    · rw [List.getElem?_append_right (by omega), h1, hi] at hq
      simp at hq
      subst hq
      subst hi
      exact hp
    · rw [List.getElem?_eq_none (by simp; omega)] at hq; cases hq
theorem Cp.list (h : Cp E c N n n hi H a) : ∃ l, CL E c N H.size n H a l ∧ ∀ p ∈ l, p.1.size ≤ 2000000 ∧ 0 ≤ p.2 ∧ p.2 ≤ hi := by
  obtain ⟨b, cs, h1, h2, h3, h4, h5⟩ := h
  obtain ⟨l, q1, q2⟩ := list_of (Q := fun i p => ∃ vs, E vs p ∧ p.1.size ≤ 2000000 ∧ (i < n → 0 ≤ p.2 ∧ p.2 ≤ hi) ∧ ∀ (j : Nat) (u : Value), vs[j]? = some u → cs[i * c + j]? = some u) n h5
  refine ⟨l, ⟨q1, fun i p hp => ?_⟩, fun p hp => ?_⟩
  · obtain ⟨vs, r1, r2, r3, r4⟩ := q2 i p hp
    exact ⟨b, 0, vs, h1, ⟨h2, h3.lt⟩, r1, fun j u hu => by rw [h3.cell, Nat.zero_add]; exact r4 j u hu⟩
  · obtain ⟨i, hi, rfl⟩ := List.mem_iff_getElem.1 hp
    obtain ⟨vs, r1, r2, r3, r4⟩ := q2 i _ (List.getElem?_eq_getElem hi)
    exact ⟨r2, r3 (by omega)⟩
end
abbrev rowL (why aw kind mode : Int) (t : Nat) (nda : Option Addr) (nd ndc : Nat) (ad : Option Addr) (dl dc : Nat) (an : Option Addr) (nn nc : Nat) (ac : Option Addr) (cl cc : Nat) (af : Option Addr) (fl fc : Nat) : List Value :=
  [.int .i64 why, .int .i64 aw, .int .i64 kind, .int .i64 mode, .float .f64 t, .slice nda nd ndc, .slice ad dl dc, .slice an nn nc, .slice ac cl cc, .slice af fl fc]
set_option maxHeartbeats 2000000 in
theorem prints_law {H : Heap} (g : Glob H) (x0 x1 x2 x3 x4 y0 y1 y2 y3 y4 y5 y6 y7 : Int) {w : Nat} (h0 : In64 y0) (hw : w < 18446744073709551616) {a : Option Addr} {l c : Nat} (hr : ∃ bs, SRow H 1 l (.slice a l c) (bytesV bs) ∧ l ≤ c) {s : ByteArray} (hs : s.size ≤ 10000000) {ma : Option Addr} {ml mc : Nat} (hr2 : ∃ bs, SRow H 1 ml (.slice ma ml mc) (bytesV bs) ∧ ml ≤ mc) {how : Int} (hh : In64 how)
    (why aw kind mode : Int) {tm : Nat} (htm : tm < 18446744073709551616) {nda : Option Addr} {nd ndc : Nat} (hnd : nd ≤ 2000000)
    {ad : Option Addr} {dl dc : Nat} {data : List UInt8} (hdata : SRow H 1 dl (.slice ad dl dc) (bytesV data)) (hdl : dl ≤ 2000000)
    {an : Option Addr} {nn nc : Nat} {nms : List ByteArray} (hnms : SRow H 1 nn (.slice an nn nc) (strsV nms)) (hnn : nn ≤ 2000000) (hnsz : ∀ s ∈ nms, s.size ≤ 2000000)
    {ac : Option Addr} {cl cc : Nat} {rch : List (List Value)} (hch : SRow H 10 cl (.slice ac cl cc) rch.flatten) (hcl : rch.length = cl) (hcl2 : cl ≤ 2000000) (hch2 : ∀ r ∈ rch, ∃ p, chOk r p ∧ p.1.size ≤ 2000000)
    {af : Option Addr} {fl fc : Nat} {rcf : List (List Value)} (hcf : SRow H 2 fl (.slice af fl fc) rcf.flatten) (hfl : rcf.length = fl) (hfl2 : fl ≤ 2000000) (hcf2 : ∀ r ∈ rcf, ∃ p, cfOk r p ∧ p.1.size ≤ 2000000) :
    Does Tryz.prog 5 [.agg #[.int .i64 x0, .int .i64 x1, .int .i64 x2, .int .i64 x3, .int .i64 x4, .int .i64 y0, .int .i64 y1, .int .i64 y2, .int .i64 y3, .int .i64 y4, .int .i64 y5, .int .i64 y6, .int .i64 y7, .float .f64 w, .slice a l c, .string s, .slice ma ml mc], .int .i64 how, .agg (rowL why aw kind mode tm nda nd ndc ad dl dc an nn nc ac cl cc af fl fc).toArray] H fun v H' => v = .bool true ∧ Ext [] H H' := by
  refine Fn_of_vc Tryz.mixed (PrintsV _ _ _ _ _ _ _ _ _ _ _ _ _ _ _ _ _ _ _ _ _ _ _ _ _ _ _ _ _ _ _ _ _ _ _ _ _ _ _ _ _ _ _ _) ?_
  intro b1 H2 hn1 b3 H4 hn3
  have hx4 : Ext [] H H4 := hn1.ext.trans hn3.ext
  have s2 := hn1.size
  have s4 := hn3.size
  have e3 := hn3.eq
  have hb1 := hn1.blk.ext hn3.ext (by simp)
  have hb3 : Blk H4 b3 (rowL why aw kind mode tm nda nd ndc ad dl dc an nn nc ac cl cc af fl fc) := hn3.blk
  refine ⟨_, hb1.cell _, _, hb1.cell _, _, hb1.cell _, _, hb1.cell _, _, hb1.cell _, _, hb1.cell _, _, hb1.cell _, _, hb1.cell _, _, hb1.cell _, _, hb1.cell _, _, hb1.cell _, _, hb1.cell _, _, hb1.cell _, _, hb1.cell _, _, _, _, hb1.cell _, _, hb1.cell _, _, _, _, hb1.cell _, ?_⟩
  obtain ⟨rb, hr', hrl⟩ := hr
  obtain ⟨rb2, hr2', hrl2⟩ := hr2
  refine (event_ok (g.ext hx4) _ _ _ _ _ _ _ _ _ _ _ _ _ h0 hw ⟨rb, srow_ext hr' hx4, hrl⟩ hs ⟨rb2, srow_ext hr2' hx4, hrl2⟩ hh).mono ?_
  rintro _ H27 ⟨e, da, edl, edc, ma', ml', mc', rfl, he, hrw, hx27⟩
  refine ⟨_, _, _, _, _, _, _, _, _, _, _, _, _, _, _, _, _, _, rfl, ?_⟩
  intro b46 H47 hn46
  have x27 := hx27.size
  have e46 := hn46.eq
  refine EvX.put14 hrw he (Ext.refl _ _) hn46 (by rfl) fun H48 hev hx48 => ?_
  have hx48' : Ext [] H4 H48 := hx27.trans hx48
  obtain ⟨da, edl, edc, ma', ml', mc', hb, hr, _, _, _⟩ := hev
  refine ⟨_, hb.cell _, _, hb.cell _, _, hb.cell _, _, hb.cell _, _, hb.cell _, _, hb.cell _, _, hb.cell _, _, hb.cell _, _, hb.cell _, _, hb.cell _, _, hb.cell _, _, _, _, hb.cell _, _, hb.cell _, _, _, _, hb.cell _, ?_⟩
  refine (print_ok hr he (g.ext (hx4.trans hx48'))).mono ?_
  rintro _ H68 ⟨rfl, hx68⟩
  have hb := hb.ext hx68 (by simp)
  refine ⟨_, _, rfl, _, hb.cell _, _, hb.cell _, _, hb.cell _, _, hb.cell _, _, hb.cell _, _, hb.cell _, _, hb.cell _, _, hb.cell _, _, hb.cell _, _, hb.cell _, _, hb.cell _, _, _, _, hb.cell _, _, hb.cell _, _, _, _, hb.cell _, ?_⟩
  refine (rprint_ok (hr.ext hx68) he).mono ?_
  rintro _ H90 ⟨rfl, hx90⟩
  have hx90' : Ext [] H4 H90 := (hx48'.trans hx68).trans hx90
  have hxa : Ext [] H H90 := hx4.trans hx90'
  clear hb hr hx48' hx48 hx68 hx90 hx27 hrw
  have hb3 := hb3.ext hx90' (by simp)
  have xt : ∀ {A B : Heap} {j : Nat} {vs : List Value}, Ext [] H A → Puts A b3 j vs B → Ext [] H B := fun hx hp => hx.trans' hp.ext (fun i hi => .inl (by simp only [List.mem_singleton] at hi; omega))
  refine ⟨_, _, rfl, _, hb3.cell _, (pick_ok why 19 H90 (by decide) (by decide)).mono ?_⟩
  rintro _ _ ⟨rfl, rfl⟩
  refine ⟨_, rfl, hb3.cells _ _ (by simp), fun H97 hp97 => ?_⟩
  have hb97 : Blk H97 b3 (rowL (why % 19) aw kind mode tm nda nd ndc ad dl dc an nn nc ac cl cc af fl fc) := hp97.blk hb3 (by simp)
  have hx97 := xt hxa hp97
  refine ⟨_, hb97.cell _, (pick_ok mode 5000 H97 (by decide) (by decide)).mono ?_⟩
  rintro _ _ ⟨rfl, rfl⟩
  refine ⟨_, rfl, hb97.cells _ _ (by simp), fun H102 hp102 => ?_⟩
  have hb102 : Blk H102 b3 (rowL (why % 19) aw kind (mode % 5000) tm nda nd ndc ad dl dc an nn nc ac cl cc af fl fc) := hp102.blk hb97 (by simp)
  have hx102 := xt hx97 hp102
  refine ⟨_, hb102.cell _, (pick_ok kind 4 H102 (by decide) (by decide)).mono ?_⟩
  rintro _ _ ⟨rfl, rfl⟩
  refine ⟨_, rfl, hb102.cells _ _ (by simp), fun H107 hp107 => ?_⟩
  have hb107 : Blk H107 b3 (rowL (why % 19) aw (kind % 4) (mode % 5000) tm nda nd ndc ad dl dc an nn nc ac cl cc af fl fc) := hp107.blk hb102 (by simp)
  have hx107 := xt hx102 hp107
  clear hb97 hb102 hb3 hx97 hx102 hp97 hp102 hp107
  have hlt3 := hb107.lt
  intro b108 H109 hn108
  have hx109 := hx107.trans hn108.ext
  have hb109 := hb107.ext hn108.ext (by simp)
  refine ⟨_, _, _, hb109.cell _, [], rch.flatten, ⟨rfl, .inl rfl, fun j u hj => by simp at hj⟩, hch.ext hx109 (by simp), ?_, by omega, fun hle => ?_, ?_⟩
  · intro u hu
    obtain ⟨r, hr, hu⟩ := List.mem_flatten.1 hu
    obtain ⟨p, ⟨_, _, _, _, _, _, _, _, _, _, _, _, rfl⟩, _⟩ := hch2 r hr
    simp only [List.mem_cons, List.mem_nil_iff, or_false] at hu
    rcases hu with rfl | rfl | rfl | rfl | rfl | rfl | rfl | rfl | rfl | rfl <;> rfl
  · have hz : cl * 10 = 0 := by omega
    rw [hz]
    exact ⟨rfl, trivial⟩
  intro a115 c116 H117 happ
  obtain ⟨hcp, hx117⟩ := Cp.app (N := b3 + 1) (hi := 6) chE (by omega) hn108 happ hcl hch2
  have hxb := hx109.trans hx117
  have hbb := hb109.ext hx117 (by simp)
  clear hb109 hb107 happ hx117 hx109 hx107
  refine ⟨fun n H' => 0 ≤ n ∧ n ≤ cl ∧ Cp chOk 10 (b3 + 1) n.toNat cl 6 H' a115 ∧ Ext [] H H' ∧ Blk H' b3 (rowL (why % 19) aw (kind % 4) (mode % 5000) tm nda nd ndc ad dl dc an nn nc ac cl cc af fl fc), fun n _ => (cl - n).toNat, ⟨by omega, by omega, hcp, hxb, hbb⟩, ?_⟩
  clear hcp hxb hbb
  rintro n H121 ⟨n0, n1, hcp, hxb, hbb⟩
  refine ⟨fun hlt => ?_, fun hge => ?_⟩
  · have hnn' : n.toNat < cl := by omega
    obtain ⟨b122, o123, ea, q124, hq⟩ := hcp.read chE hnn'
    refine ⟨n0, hlt, b122, o123, ea, q124, hq, (pick_ok q124 7 H121 (by decide) (by decide)).mono ?_⟩
    rintro _ _ ⟨rfl, rfl⟩
    obtain ⟨b128, o129, ea2, hN, hcells, hput⟩ := hcp.write chE hnn' (q := q124 % 7) ⟨by omega, by omega⟩
    refine ⟨_, rfl, n0, hlt, b128, o129, ea2, hcells, fun H130 hp => ?_⟩
    have hpx := hp.ext
    refine ⟨⟨by omega, by omega⟩, ⟨by omega, by omega, ?_, hxb.trans' hpx (fun i hi => .inl (by simp only [List.mem_singleton] at hi; omega)), hbb.ext hpx (by simp; omega)⟩, by dsimp only; omega⟩
    rw [toNat_succ n0]
    exact hput H130 hp
  have hn : n.toNat = cl := by omega
  rw [hn] at hcp
  refine ⟨hbb.cells _ _ (by simp), fun H131 hp131 => ?_⟩
  have hb131 : Blk H131 b3 (rowL (why % 19) aw (kind % 4) (mode % 5000) tm nda nd ndc ad dl dc an nn nc a115 (0 + cl) c116 af fl fc) := hp131.blk hbb (by simp)
  have hx131 := xt hxb hp131
  obtain ⟨chs, hCL, hCLo⟩ := hcp.list
  have e131 := hp131.size
  rw [← e131] at hCL
  have hCL := hCL.ext hp131.ext (by simp only [List.mem_singleton]; intro k hk; left; omega)
  clear hcp hxb hbb hp131
  intro b132 H133 hn132
  have hx133 := hx131.trans hn132.ext
  have hb133 := hb131.ext hn132.ext (by simp)
  have hlt3' := hb131.lt
  refine ⟨_, _, _, hb133.cell _, [], rcf.flatten, ⟨rfl, .inl rfl, fun j u hj => by simp at hj⟩, hcf.ext hx133 (by simp), ?_, by omega, fun hle => ?_, ?_⟩
  · intro u hu
    obtain ⟨r, hr, hu⟩ := List.mem_flatten.1 hu
    obtain ⟨p, rfl, _⟩ := hcf2 r hr
    simp only [List.mem_cons, List.mem_nil_iff, or_false] at hu
    rcases hu with rfl | rfl <;> rfl
  · have hz : fl * 2 = 0 := by omega
    rw [hz]
    exact ⟨rfl, trivial⟩
  intro a139 c140 H141 happ
  obtain ⟨hcp, hx141⟩ := Cp.app (N := H131.size) (hi := 8) cfE (Nat.le_refl _) hn132 happ hfl hcf2
  have hCL := (hCL.ext hn132.ext (by simp)).ext hx141 (by simp)
  have hxb := hx133.trans hx141
  have hbb := hb133.ext hx141 (by simp)
  clear hb133 hb131 happ hx141 hx133 hx131
  have hcz := hCL.1
  refine ⟨fun n H' => 0 ≤ n ∧ n ≤ fl ∧ Cp cfOk 2 H131.size n.toNat fl 8 H' a139 ∧ Ext [] H H' ∧ CL chOk 10 (b3 + 1) H131.size cl H' a115 chs ∧ Blk H' b3 (rowL (why % 19) aw (kind % 4) (mode % 5000) tm nda nd ndc ad dl dc an nn nc a115 (0 + cl) c116 af fl fc), fun n _ => (fl - n).toNat, ⟨by omega, by omega, hcp, hxb, hCL, hbb⟩, ?_⟩
  clear hcp hxb hbb hCL
  rintro n H145 ⟨n0, n1, hcp, hxb, hCL, hbb⟩
  refine ⟨fun hlt => ?_, fun hge => ?_⟩
  · have hnn' : n.toNat < fl := by omega
    obtain ⟨b146, o147, ea, q148, hq⟩ := hcp.read cfE hnn'
    refine ⟨n0, hlt, b146, o147, ea, q148, hq, (pick_ok q148 9 H145 (by decide) (by decide)).mono ?_⟩
    rintro _ _ ⟨rfl, rfl⟩
    obtain ⟨b152, o153, ea2, hN, hcells, hput⟩ := hcp.write cfE hnn' (q := q148 % 9) ⟨by omega, by omega⟩
    refine ⟨_, rfl, n0, hlt, b152, o153, ea2, hcells, fun H154 hp => ?_⟩
    have hpx := hp.ext
    refine ⟨⟨by omega, by omega⟩, ⟨by omega, by omega, ?_, hxb.trans' hpx (fun i hi => .inl (by simp only [List.mem_singleton] at hi; omega)), hCL.ext hpx (by simp only [List.mem_singleton]; intro k hk; right; omega), hbb.ext hpx (by simp; omega)⟩, by dsimp only; omega⟩
    rw [toNat_succ n0]
    exact hput H154 hp
  have hn : n.toNat = fl := by omega
  rw [hn] at hcp
  refine ⟨hbb.cells _ _ (by simp), fun H155 hp155 => ?_⟩
  have hb155 : Blk H155 b3 (rowL (why % 19) aw (kind % 4) (mode % 5000) tm nda nd ndc ad dl dc an nn nc a115 (0 + cl) c116 a139 (0 + fl) c140) := hp155.blk hbb (by simp)
  have hx155 := xt hxb hp155
  obtain ⟨cfs, hCF, hCFo⟩ := hcp.list
  have hCF := hCF.ext hp155.ext (by simp only [List.mem_singleton]; intro k hk; left; omega)
  have hCL := hCL.ext hp155.ext (by simp only [List.mem_singleton]; intro k hk; left; omega)
  clear hcp hxb hbb hp155
  have lnn : nms.length = nn := by have := hnms.1; rw [strsV_len] at this; omega
  have hfz := hCF.1
  simp only [Nat.zero_add] at hb155
  refine ⟨fun n H' => 0 ≤ n ∧ n ≤ 2 ∧ Ext [] H H' ∧ (∃ (dat : List UInt8) (da : Option Addr) (dl dc : Nat) (ch : List (ByteArray × Int)) (ca : Option Addr) (cl cc : Nat), SRow H 1 dl (.slice da dl dc) (bytesV dat) ∧ dl ≤ 2000000 ∧ cl ≤ 2000000 ∧ (∀ p ∈ ch, p.1.size ≤ 2000000 ∧ 0 ≤ p.2 ∧ p.2 ≤ 6) ∧ CL chOk 10 (b3 + 1) H131.size cl H' ca ch ∧ CL cfOk 2 H131.size H145.size fl H' a139 cfs ∧ Blk H' b3 (rowL (why % 19) aw (kind % 4) (mode % 5000) tm nda nd ndc da dl dc an nn nc ca cl cc a139 fl c140)), fun n _ => (2 - n).toNat, ⟨by omega, by omega, hx155, data, ad, dl, dc, chs, a115, cl, c116, hdata, hdl, hcl2, hCLo, hCL, hCF, hb155⟩, ?_⟩
  clear hx155 hCL hCLo hCF hb155 hcz
  rintro n H159 ⟨n0, n1, hxb, dat, da, dl, dc, ch, ca, cl, cc, hdat, hdl, hcl, hcho, hCL, hCF, hbb⟩
  have ldd : dat.length = dl := by have := hdat.1; rw [bytesV_length] at this; omega
  refine ⟨fun hlt => ?_, fun hge => ?_⟩
  · have q := hbb
    refine ⟨_, q.cell _, _, q.cell _, _, q.cell _, _, q.cell _, _, q.cell _, _, _, _, q.cell _, _, _, _, q.cell _, _, _, _, q.cell _, _, _, _, q.cell _, _, _, _, q.cell _, _, q.cell _, _, q.cell _, _, q.cell _, _, q.cell _, _, q.cell _, _, _, _, q.cell _, _, _, _, q.cell _, _, _, _, q.cell _, _, _, _, q.cell _, _, _, _, q.cell _, ?_⟩
    have ok : TOk ⟨why % 19, kind % 4, mode % 5000, tm, nd, nms, dat, ch, cfs⟩ := ⟨by simp only; omega, by simp only; omega, by simp only; omega, htm, hnd, ⟨by simp only; omega, hnsz⟩, by simp only; omega, ⟨by have := hCL.1; simp only; omega, fun p hp => by have := hcho p hp; omega⟩, ⟨by simp only; omega, fun p hp => by have := hCFo p hp; omega⟩⟩
    have mem : ∀ {H2 : Heap}, Ext [] H159 H2 → TMem H2 ⟨why % 19, kind % 4, mode % 5000, tm, nd, nms, dat, ch, cfs⟩ an nn nc da dl dc ca cl cc a139 fl c140 := fun hx => by
      refine ⟨hnms.ext (hxb.trans hx) (by simp), hdat.ext (hxb.trans hx) (by simp), ⟨hCL.1, fun i p hp => ?_⟩, ⟨hCF.1, fun i p hp => ?_⟩⟩
      · obtain ⟨b, o, vs, q1, q2, q3, q4⟩ := hCL.2 i p hp
        exact ⟨b, o, vs, q1, q3, fun j u hu => hcell_ext (q4 j u hu) hx (by simp)⟩
      · obtain ⟨b, o, vs, q1, q2, q3, q4⟩ := hCF.2 i p hp
        exact ⟨b, o, vs, q1, q3, fun j u hu => hcell_ext (q4 j u hu) hx (by simp)⟩
    have fin : ∀ {H204 : Heap}, Ext [] H159 H204 → Cells H204 b3 (0 + 8) 1 ∧ ∀ H206 : Heap, Puts H204 b3 (0 + 8) [(.slice none 0 0)] H206 → (Cells H206 b3 ((0 + 1) + 5) 1 ∧ ∀ H207 : Heap, Puts H206 b3 ((0 + 1) + 5) [(.slice none 0 0)] H207 → ((In64 (n + 1)) ∧
        (0 ≤ n + 1 ∧ n + 1 ≤ 2 ∧ Ext [] H H207 ∧ (∃ (dat : List UInt8) (da : Option Addr) (dl dc : Nat) (ch : List (ByteArray × Int)) (ca : Option Addr) (cl cc : Nat), SRow H 1 dl (.slice da dl dc) (bytesV dat) ∧ dl ≤ 2000000 ∧ cl ≤ 2000000 ∧ (∀ p ∈ ch, p.1.size ≤ 2000000 ∧ 0 ≤ p.2 ∧ p.2 ≤ 6) ∧ CL chOk 10 (b3 + 1) H131.size cl H207 ca ch ∧ CL cfOk 2 H131.size H145.size fl H207 a139 cfs ∧ Blk H207 b3 (rowL (why % 19) aw (kind % 4) (mode % 5000) tm nda nd ndc da dl dc an nn nc ca cl cc a139 fl c140))) ∧ (2 - (n + 1)).toNat < (2 - n).toNat)) := fun {H204} hx => by
      have hb2 := hbb.ext hx (by simp)
      refine ⟨hb2.cells _ _ (by simp), fun H206 hp => ?_⟩
      have hb3 : Blk H206 b3 (rowL (why % 19) aw (kind % 4) (mode % 5000) tm nda nd ndc da dl dc an nn nc none 0 0 a139 fl c140) := hp.blk hb2 (by simp)
      refine ⟨hb3.cells _ _ (by simp), fun H207 hp2 => ?_⟩
      have hb4 : Blk H207 b3 (rowL (why % 19) aw (kind % 4) (mode % 5000) tm nda nd ndc none 0 0 an nn nc none 0 0 a139 fl c140) := hp2.blk hb3 (by simp)
      have hF := ((hCF.ext hx (by simp)).ext hp.ext (by simp only [List.mem_singleton]; intro k hk; left; omega)).ext hp2.ext (by simp only [List.mem_singleton]; intro k hk; left; omega)
      exact ⟨⟨by omega, by omega⟩, ⟨by omega, by omega, xt (xt (hxb.trans hx) hp) hp2, [], none, 0, 0, [], none, 0, 0, ⟨rfl, rfl⟩, by decide, by decide, by simp, ⟨rfl, fun i p hp => by simp at hp⟩, hF, hb4⟩, by omega⟩
    refine (tell_ok (g.ext hxb) ok (mem (Ext.refl _ _))).mono ?_
    rintro _ H201 ⟨rfl, hx201⟩
    have q := hbb.ext hx201 (by simp)
    refine ⟨_, rfl, ⟨q.cell _, q.cell _, q.cell _, q.cell _, q.cell _, q.cell _, q.cell _, q.cell _, q.cell _, q.cell _, trivial⟩, (rtell_ok ok (mem hx201)).mono ?_⟩
    rintro _ H204 ⟨rfl, hx204⟩
    exact ⟨_, rfl, fun hne => absurd rfl hne, fun _ => fin (hx201.trans hx204)⟩
  · refine (known_ok (g.ext hxb)).mono ?_
    rintro _ H209 ⟨rfl, hx209⟩
    exact ⟨_, rfl, fun _ => ⟨fun _ => ⟨congrArg Value.bool (@decide_eq_true _ (Classical.propDecidable _) Iff.rfl), hxb.trans hx209⟩, fun h => absurd rfl h⟩, (fun h => by cases h)⟩
abbrev nodeRd (B : Nat) : Rd := KAll [(1, KInt .i64), (1, KInt .i64), (1, KFlo .f64), (1, KBytesB B)]
abbrev chRd (B : Nat) : Rd := KAll [(1, KStrB B), (1, KInt .i64), (4, nodeRd B), (4, nodeRd B)]
abbrev cfRd (B : Nat) : Rd := KAll [(1, KStrB B), (1, KInt .i64)]
abbrev rowRd (B : Nat) : Rd := KAll [(1, KInt .i64), (7, KAll [(1, KInt .i64), (4, nodeRd B), (1, KBytesB B), (1, KSliceB B 1 (KStrB B))]), (1, KSliceB B 10 (chRd B)), (1, KSliceB B 2 (cfRd B))]
theorem node_open {B : Nat} {H : Heap} {cs : List Value} (h : nodeRd B H cs) : ∃ (k m : Int) (t : Nat) (a : Option Addr) (l c : Nat), cs = [.int .i64 k, .int .i64 m, .float .f64 t, .slice a l c] ∧ t < 18446744073709551616 ∧ l ≤ B := by
  obtain ⟨k, t0, rfl, _, h⟩ := kall_int h
  obtain ⟨m, t1, rfl, _, h⟩ := kall_int h
  obtain ⟨t, t2, rfl, hw, h⟩ := kall_flo h
  obtain ⟨a, l, c, bs, t3, rfl, hd, h⟩ := kall_bytes h
  have h := kall_nil h
  subst h
  exact ⟨k, m, t, a, l, c, rfl, wff hw, hd.1⟩
theorem kall_slice {B c : Nat} {R : Rd} {r : List (Nat × Rd)} {H : Heap} {cs : List Value} (h : KAll ((1, KSliceB B c R) :: r) H cs) : ∃ (a : Option Addr) (l cap : Nat) (rows : List (List Value)) (t : List Value), cs = .slice a l cap :: t ∧ (rows.length = l ∧ l ≤ B ∧ SRow H c l (.slice a l cap) rows.flatten ∧ (∀ r ∈ rows, r.length = c) ∧ ∀ r ∈ rows, R H r) ∧ KAll r H t := by
  obtain ⟨v, t, rfl, ⟨a, l, cap, rows, h2, h3, h4, h5, h6, h7, h8⟩, h9⟩ := kall1 h
  exact ⟨a, l, cap, rows, t, by rw [List.cons.inj h2 |>.1], ⟨h3, h4, h7, h6, h8⟩, h9⟩
theorem ch_open {B : Nat} (hB : B ≤ 2000000) {H : Heap} {cs : List Value} (h : chRd B H cs) : ∃ p, chOk cs p ∧ p.1.size ≤ 2000000 := by
  obtain ⟨s, t0, rfl, hs, h⟩ := kall_str h
  obtain ⟨k, t1, rfl, _, h⟩ := kall_int h
  obtain ⟨u, t2, rfl, hu, h⟩ := kalln h
  obtain ⟨v, t3, rfl, hv, h⟩ := kalln h
  have h := kall_nil h
  subst h
  obtain ⟨k1, m1, f1, a1, l1, c1, rfl, _⟩ := node_open hu
  obtain ⟨k2, m2, f2, a2, l2, c2, rfl, _⟩ := node_open hv
  exact ⟨(s, k), ⟨_, _, _, _, _, _, _, _, _, _, _, _, rfl⟩, by simp only; omega⟩
theorem cf_open {B : Nat} (hB : B ≤ 2000000) {H : Heap} {cs : List Value} (h : cfRd B H cs) : ∃ p, cfOk cs p ∧ p.1.size ≤ 2000000 := by
  obtain ⟨s, t0, rfl, hs, h⟩ := kall_str h
  obtain ⟨k, t1, rfl, _, h⟩ := kall_int h
  have h := kall_nil h
  subst h
  exact ⟨(s, k), rfl, by simp only; omega⟩
theorem strs_rows {B : Nat} {H : Heap} : ∀ {rows : List (List Value)}, (∀ r ∈ rows, KStrB B H r) → ∃ l : List ByteArray, rows.flatten = strsV l ∧ ∀ s ∈ l, s.size ≤ B
  | [], _ => ⟨[], rfl, by simp⟩
  | r :: rows, h => by
    obtain ⟨l, h1, h2⟩ := strs_rows (rows := rows) (fun r hr => h r (by simp [hr]))
    obtain ⟨s, rfl, hs⟩ := h r (by simp)
    refine ⟨s :: l, by rw [List.flatten_cons, h1]; rfl, fun x hx => ?_⟩
    rcases List.mem_cons.1 hx with rfl | hx
    · exact hs
    · exact h2 x hx
theorem prints_row (H : Heap) (g : Glob H) (cs : Array Value) (s : rawRd 1048576 H cs.toList) (a : Int) (w : (Lit.int .i64 a).wf = true) (ds : Array Value) (s2 : rowRd 1048576 H ds.toList) : Does Tryz.prog 5 [.agg cs, .int .i64 a, .agg ds] H fun v H' => v = .bool true ∧ Ext [] H H' := by
  obtain ⟨x0, x1, x2, x3, x4, y0, y1, y2, y3, y4, y5, y6, y7, wt, d, l, c, st, ma, ml, mc, rfl, h0, hw, hr, hs, hr2⟩ := raw_open (by decide) s
  obtain ⟨ds⟩ := ds
  obtain ⟨why, t0, rfl, _, h⟩ := kall_int s2
  obtain ⟨u, t1, rfl, hu, h⟩ := kalln h
  obtain ⟨ac, cl, cc, rch, t2, rfl, ⟨c1, c2, c3, c4, c5⟩, h⟩ := kall_slice h
  obtain ⟨af, fl, fc, rcf, t3, rfl, ⟨f1, f2, f3, f4, f5⟩, h⟩ := kall_slice h
  have h := kall_nil h
  subst h
  obtain ⟨aw, u0, rfl, _, hu⟩ := kall_int hu
  obtain ⟨v, u1, rfl, hv, hu⟩ := kalln hu
  obtain ⟨ad, dl, dc, data, u2, rfl, hd, hu⟩ := kall_bytes hu
  obtain ⟨an, nn, nc, rn, u3, rfl, ⟨n1, n2, n3, n4, n5⟩, hu⟩ := kall_slice hu
  have hu := kall_nil hu
  subst hu
  obtain ⟨kind, mode, tm, nda, nd, ndc, rfl, htm, hnd⟩ := node_open hv
  obtain ⟨nms, e1, e2⟩ := strs_rows n5
  rw [e1] at n3
  exact prints_law g _ _ _ _ _ _ _ _ _ _ _ _ _ h0 hw hr hs hr2 (wf64 w) why aw kind mode htm (by omega) hd.2.2 (Nat.le_trans hd.1 (by decide)) n3 (by omega) (fun s hs => Nat.le_trans (e2 s hs) (by decide)) c3 c1 (by omega) (fun r hr => ch_open (by decide) (c5 r hr)) f3 f1 (by omega) (fun r hr => cf_open (by decide) (f5 r hr))
end Go.Proofs
end

