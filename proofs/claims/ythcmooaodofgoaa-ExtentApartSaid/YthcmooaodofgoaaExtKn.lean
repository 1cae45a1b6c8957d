/-
  The example of the chapter. No condition.
-/
import Derived.Test.YthcmooaodofgoaaProg
import Derived.Test.YthcmooaodofgoaaVc
import Derived.Test.YthcmooaodofgoaaExtGrow

section
open Go Go.Vc
namespace Go.Proofs
set_option maxRecDepth 100000
/-- pentimento/pentimentolaw7.ExtentPlays -/
theorem vc_eplays (x0 : Int) (x1 : Option Addr) (x1l : Nat) (x1c : Nat) (x2 : Option Addr) (x2l : Nat) (x2c : Nat) (H : Heap) (R : Value → Heap → Prop) : Walk Try.prog 7 [(14, []), (21, [(16, (.int .i64 0))]), (37, [(9, (.slice none 0 0)), (10, (.slice none 0 0))])] [(.int .i64 x0), (.slice x1 x1l x1c), (.slice x2 x2l x2c)] H R = (
  Does Try.prog 11 [(.int .i64 x0), (.int .i64 50)] H fun v1 H2 => ∃ n3 : Int, v1 = (.int .i64 n3) ∧ (
    (In64 (1 + n3)) ∧
    Does Try.prog 27 [(.int .i64 (1 + n3)), (.slice x1 x1l x1c)] H2 fun v4 H5 => ∃ p6 : Option Addr, ∃ p7 : Option Addr, v4 = (.tuple #[(.pointer p6), (.pointer p7)]) ∧ (
      Does Try.prog 28 [] H5 fun v8 H9 => ∃ t10 : Bool, v8 = (.bool t10) ∧ (
        (((t10 = false) → (
              R (.bool false) H9)) ∧ (¬ (t10 = false) → (
              ((((p6 : Option Addr) = none) → (
                    R (.bool false) H9)) ∧ (¬ ((p6 : Option Addr) = none) → (
                    ∃ I11 : Option Addr → Nat → Nat → Option Addr → Nat → Nat → Int → Heap → Prop, ∃ μ12 : Option Addr → Nat → Nat → Option Addr → Nat → Nat → Int → Heap → Nat, (I11 none 0 0 none 0 0 0 H9) ∧
                    ∀ a13 : Option Addr, ∀ l14 : Nat, ∀ c15 : Nat, ∀ a16 : Option Addr, ∀ l17 : Nat, ∀ c18 : Nat, ∀ n19 : Int, ∀ H20 : Heap, I11 a13 l14 c15 a16 l17 c18 n19 H20 → (
                      ((((n19 : Int) < (x2l : Int)) → (
                            ((((n19 : Int) < 30) → (
                                  (0 : Int) ≤ n19 ∧ (n19 : Int) < (x2l : Int) ∧ ∃ b21 o22 : Nat, x2 = some (⟨b21, o22, none⟩ : Addr) ∧ (
                                    ∃ n23 : Int, hcell H20 b21 (o22 + (Int.toNat n19) * 4) = some (.int .i64 n23) ∧ (
                                      ∃ n24 : Int, hcell H20 b21 ((o22 + (Int.toNat n19) * 4) + 1) = some (.int .i64 n24) ∧ (
                                        ∃ n25 : Int, hcell H20 b21 (((o22 + (Int.toNat n19) * 4) + 1) + 1) = some (.int .i64 n25) ∧ (
                                          ∃ n26 : Int, hcell H20 b21 ((((o22 + (Int.toNat n19) * 4) + 1) + 1) + 1) = some (.int .i64 n26) ∧ (
                                            ∀ b27 : Nat, ∀ H28 : Heap, New H20 b27 [(.int .i64 0), (.int .i64 0), (.int .i64 0), (.int .i64 0)] 56 H28 → (
                                              Cells H28 b27 0 4 ∧ ∀ H29 : Heap, Puts H28 b27 0 [(.int .i64 n23), (.int .i64 n24), (.int .i64 n25), (.int .i64 n26)] H29 → (
                                                ∃ n30 : Int, hcell H29 b27 (0 + 2) = some (.int .i64 n30) ∧ (
                                                  (In64 ((1 + n3) + 4)) ∧
                                                  Does Try.prog 11 [(.int .i64 n30), (.int .i64 ((1 + n3) + 4))] H29 fun v31 H32 => ∃ n33 : Int, v31 = (.int .i64 n33) ∧ (
                                                    (In64 (n33 - 2)) ∧
                                                    ∃ n34 : Int, hcell H32 b27 (0 + 3) = some (.int .i64 n34) ∧ (
                                                      Does Try.prog 11 [(.int .i64 n34), (.int .i64 12)] H32 fun v35 H36 => ∃ n37 : Int, v35 = (.int .i64 n37) ∧ (
                                                        (In64 (n37 - 1)) ∧
                                                        ∃ n38 : Int, hcell H36 b27 0 = some (.int .i64 n38) ∧ (
                                                          Does Try.prog 11 [(.int .i64 n38), (.int .i64 6)] H36 fun v39 H40 => ∃ n41 : Int, v39 = (.int .i64 n41) ∧ (
                                                            ∃ I42 : Heap → Prop, (
                                                            ((((1 : Int) < n41) → (
                                                            (((((l14 : Int) : Int) = 0) → (
                                                            (In64 (n19 + 1)) ∧
                                                            (I11 a13 l14 c15 a16 l17 c18 (n19 + 1) H40) ∧ μ12 a13 l14 c15 a16 l17 c18 (n19 + 1) H40 < μ12 a13 l14 c15 a16 l17 c18 n19 H20)) ∧ (¬ (((l14 : Int) : Int) = 0) → (
                                                            I42 H40))))) ∧ (¬ ((1 : Int) < n41) → (
                                                            I42 H40)))) ∧
                                                            ∀ H43 : Heap, I42 H43 → (
                                                            ∃ I44 : Int → Heap → Prop, (
                                                            ((((0 : Int) < (l14 : Int)) → (
                                                            ∃ n45 : Int, hcell H43 b27 (0 + 1) = some (.int .i64 n45) ∧ (
                                                            Does Try.prog 11 [(.int .i64 n45), (.int .i64 (l14 : Int))] H43 fun v46 H47 => ∃ n48 : Int, v46 = (.int .i64 n48) ∧ (
                                                            I44 n48 H47)))) ∧ (¬ ((0 : Int) < (l14 : Int)) → (
                                                            I44 0 H43)))) ∧
                                                            ∀ n49 : Int, ∀ H50 : Heap, I44 n49 H50 → (
                                                            ∃ I51 : Option Addr → Nat → Nat → Option Addr → Nat → Nat → Heap → Prop, (
                                                            ((((n41 : Int) < 2) → (
                                                            Does Try.prog 29 [(.pointer p6), (.int .i64 (n33 - 2)), (.int .i64 (n37 - 1))] H50 fun v52 H53 => ∃ a54 : Option Addr, ∃ l55 : Nat, ∃ c56 : Nat, ∃ t57 : Bool, v52 = (.tuple #[(.slice a54 l55 c56), (.bool t57)]) ∧ (
                                                            Does Try.prog 30 [(.pointer p7), (.slice none 0 0), (.int .i64 (n33 - 2)), (.int .i64 (n37 - 1))] H53 fun v58 H59 => ∃ a60 : Option Addr, ∃ l61 : Nat, ∃ c62 : Nat, ∃ t63 : Bool, v58 = (.tuple #[(.slice a60 l61 c62), (.bool t63)]) ∧ (
                                                            (((¬ ((t57 = true) ↔ (t63 = true))) → (
                                                            R (.bool false) H59)) ∧ (¬ (¬ ((t57 = true) ↔ (t63 = true))) → (
                                                            Does Try.prog 31 [(.slice a54 l55 c56), (.slice a60 l61 c62)] H59 fun v64 H65 => ∃ t66 : Bool, v64 = (.bool t66) ∧ (
                                                            (((t66 = false) → (
                                                            R (.bool false) H65)) ∧ (¬ (t66 = false) → (
                                                            ((t63 = true → (
                                                            ∀ b67 : Nat, ∀ H68 : Heap, New H65 b67 [(.slice a54 l55 c56)] 57 H68 → (
                                                            ∃ old69 new70 : List Value, SRow H68 1 l14 (.slice a13 l14 c15) old69 ∧ SRow H68 1 1 (.slice (some (⟨b67, 0, none⟩ : Addr)) 1 1) new70 ∧ (∀ u ∈ new70, Value.oneCell' u = true) ∧ (l14 + 1) * 24 ≤ 140737488355328 ∧ (l14 + 1 ≤ c15 → roomOf H68 a13 (l14 * 1) (1 * 1)) ∧ ∀ a71 : Option Addr, ∀ c72 : Nat, ∀ H73 : Heap, App H68 1 57 [(.slice none 0 0)] a13 l14 c15 old69 new70 1 a71 c72 H73 → (
                                                            ∀ b74 : Nat, ∀ H75 : Heap, New H73 b74 [(.slice a60 l61 c62)] 57 H75 → (
                                                            ∃ old76 new77 : List Value, SRow H75 1 l17 (.slice a16 l17 c18) old76 ∧ SRow H75 1 1 (.slice (some (⟨b74, 0, none⟩ : Addr)) 1 1) new77 ∧ (∀ u ∈ new77, Value.oneCell' u = true) ∧ (l17 + 1) * 24 ≤ 140737488355328 ∧ (l17 + 1 ≤ c18 → roomOf H75 a16 (l17 * 1) (1 * 1)) ∧ ∀ a78 : Option Addr, ∀ c79 : Nat, ∀ H80 : Heap, App H75 1 57 [(.slice none 0 0)] a16 l17 c18 old76 new77 1 a78 c79 H80 → (
                                                            I51 a71 (l14 + 1) c72 a78 (l17 + 1) c79 H80)))))) ∧ (t63 = false → (
                                                            I51 a13 l14 c15 a16 l17 c18 H65)))))))))))))) ∧ (¬ ((n41 : Int) < 2) → (
                                                            ((((n41 : Int) < 4) → (
                                                            (0 : Int) ≤ n49 ∧ (n49 : Int) < (l14 : Int) ∧ ∃ b81 o82 : Nat, a13 = some (⟨b81, o82, none⟩ : Addr) ∧ (
                                                            ∃ a83 : Option Addr, ∃ l84 : Nat, ∃ c85 : Nat, hcell H50 b81 (o82 + (Int.toNat n49)) = some (.slice a83 l84 c85) ∧ (
                                                            Does Try.prog 32 [(.pointer p6), (.slice a83 l84 c85), (.int .i64 (n33 - 2)), (.int .i64 (n37 - 1))] H50 fun v86 H87 => ∃ a88 : Option Addr, ∃ l89 : Nat, ∃ c90 : Nat, ∃ t91 : Bool, v86 = (.tuple #[(.slice a88 l89 c90), (.bool t91)]) ∧ (
                                                            (0 : Int) ≤ n49 ∧ (n49 : Int) < (l17 : Int) ∧ ∃ b92 o93 : Nat, a16 = some (⟨b92, o93, none⟩ : Addr) ∧ (
                                                            ∃ a94 : Option Addr, ∃ l95 : Nat, ∃ c96 : Nat, hcell H87 b92 (o93 + (Int.toNat n49)) = some (.slice a94 l95 c96) ∧ (
                                                            Does Try.prog 30 [(.pointer p7), (.slice a94 l95 c96), (.int .i64 (n33 - 2)), (.int .i64 (n37 - 1))] H87 fun v97 H98 => ∃ a99 : Option Addr, ∃ l100 : Nat, ∃ c101 : Nat, ∃ t102 : Bool, v97 = (.tuple #[(.slice a99 l100 c101), (.bool t102)]) ∧ (
                                                            (((¬ ((t91 = true) ↔ (t102 = true))) → (
                                                            R (.bool false) H98)) ∧ (¬ (¬ ((t91 = true) ↔ (t102 = true))) → (
                                                            Does Try.prog 31 [(.slice a88 l89 c90), (.slice a99 l100 c101)] H98 fun v103 H104 => ∃ t105 : Bool, v103 = (.bool t105) ∧ (
                                                            (((t105 = false) → (
                                                            R (.bool false) H104)) ∧ (¬ (t105 = false) → (
                                                            ((t102 = true → (
                                                            (0 : Int) ≤ n49 ∧ (n49 : Int) < (l14 : Int) ∧ ∃ b106 o107 : Nat, a13 = some (⟨b106, o107, none⟩ : Addr) ∧ (
                                                            Cells H104 b106 (o107 + (Int.toNat n49)) 1 ∧ ∀ H108 : Heap, Puts H104 b106 (o107 + (Int.toNat n49)) [(.slice a88 l89 c90)] H108 → (
                                                            (0 : Int) ≤ n49 ∧ (n49 : Int) < (l17 : Int) ∧ ∃ b109 o110 : Nat, a16 = some (⟨b109, o110, none⟩ : Addr) ∧ (
                                                            Cells H108 b109 (o110 + (Int.toNat n49)) 1 ∧ ∀ H111 : Heap, Puts H108 b109 (o110 + (Int.toNat n49)) [(.slice a99 l100 c101)] H111 → (
                                                            I51 a13 l14 c15 a16 l17 c18 H111)))))) ∧ (t102 = false → (
                                                            I51 a13 l14 c15 a16 l17 c18 H104)))))))))))))))))) ∧ (¬ ((n41 : Int) < 4) → (
                                                            (0 : Int) ≤ n49 ∧ (n49 : Int) < (l14 : Int) ∧ ∃ b112 o113 : Nat, a13 = some (⟨b112, o113, none⟩ : Addr) ∧ (
                                                            ∃ a114 : Option Addr, ∃ l115 : Nat, ∃ c116 : Nat, hcell H50 b112 (o113 + (Int.toNat n49)) = some (.slice a114 l115 c116) ∧ (
                                                            Does Try.prog 33 [(.pointer p6), (.slice a114 l115 c116), (.int .i64 (n37 - 1))] H50 fun v117 H118 => ∃ a119 : Option Addr, ∃ l120 : Nat, ∃ c121 : Nat, v117 = (.slice a119 l120 c121) ∧ (
                                                            (0 : Int) ≤ n49 ∧ (n49 : Int) < (l14 : Int) ∧ ∃ b122 o123 : Nat, a13 = some (⟨b122, o123, none⟩ : Addr) ∧ (
                                                            Cells H118 b122 (o123 + (Int.toNat n49)) 1 ∧ ∀ H124 : Heap, Puts H118 b122 (o123 + (Int.toNat n49)) [(.slice a119 l120 c121)] H124 → (
                                                            (0 : Int) ≤ n49 ∧ (n49 : Int) < (l17 : Int) ∧ ∃ b125 o126 : Nat, a16 = some (⟨b125, o126, none⟩ : Addr) ∧ (
                                                            ∃ a127 : Option Addr, ∃ l128 : Nat, ∃ c129 : Nat, hcell H124 b125 (o126 + (Int.toNat n49)) = some (.slice a127 l128 c129) ∧ (
                                                            Does Try.prog 34 [(.pointer p7), (.slice a127 l128 c129), (.int .i64 (n37 - 1))] H124 fun v130 H131 => ∃ a132 : Option Addr, ∃ l133 : Nat, ∃ c134 : Nat, v130 = (.slice a132 l133 c134) ∧ (
                                                            (0 : Int) ≤ n49 ∧ (n49 : Int) < (l17 : Int) ∧ ∃ b135 o136 : Nat, a16 = some (⟨b135, o136, none⟩ : Addr) ∧ (
                                                            Cells H131 b135 (o136 + (Int.toNat n49)) 1 ∧ ∀ H137 : Heap, Puts H131 b135 (o136 + (Int.toNat n49)) [(.slice a132 l133 c134)] H137 → (
                                                            (0 : Int) ≤ n49 ∧ (n49 : Int) < (l14 : Int) ∧ ∃ b138 o139 : Nat, a13 = some (⟨b138, o139, none⟩ : Addr) ∧ (
                                                            ∃ a140 : Option Addr, ∃ l141 : Nat, ∃ c142 : Nat, hcell H137 b138 (o139 + (Int.toNat n49)) = some (.slice a140 l141 c142) ∧ (
                                                            (0 : Int) ≤ n49 ∧ (n49 : Int) < (l17 : Int) ∧ ∃ b143 o144 : Nat, a16 = some (⟨b143, o144, none⟩ : Addr) ∧ (
                                                            ∃ a145 : Option Addr, ∃ l146 : Nat, ∃ c147 : Nat, hcell H137 b143 (o144 + (Int.toNat n49)) = some (.slice a145 l146 c147) ∧ (
                                                            Does Try.prog 31 [(.slice a140 l141 c142), (.slice a145 l146 c147)] H137 fun v148 H149 => ∃ t150 : Bool, v148 = (.bool t150) ∧ (
                                                            ((((t150 = false) → (
                                                            R (.bool false) H149)) ∧ (¬ (t150 = false) → (
                                                            I51 a13 l14 c15 a16 l17 c18 H149)))))))))))))))))))))))))) ∧
                                                            ∀ a151 : Option Addr, ∀ l152 : Nat, ∀ c153 : Nat, ∀ a154 : Option Addr, ∀ l155 : Nat, ∀ c156 : Nat, ∀ H157 : Heap, I51 a151 l152 c153 a154 l155 c156 H157 → (
                                                            Does Try.prog 35 [(.pointer p6), (.pointer p7)] H157 fun v158 H159 => ∃ t160 : Bool, v158 = (.bool t160) ∧ (
                                                            (((t160 = false) → (
                                                            R (.bool false) H159)) ∧ (¬ (t160 = false) → (
                                                            ∃ I161 : Int → Heap → Prop, ∃ μ162 : Int → Heap → Nat, (I161 0 H159) ∧
                                                            ∀ n163 : Int, ∀ H164 : Heap, I161 n163 H164 → (
                                                            ((((n163 : Int) < (l152 : Int)) → (
                                                            (0 : Int) ≤ n163 ∧ (n163 : Int) < (l152 : Int) ∧ ∃ b165 o166 : Nat, a151 = some (⟨b165, o166, none⟩ : Addr) ∧ (
                                                            ∃ a167 : Option Addr, ∃ l168 : Nat, ∃ c169 : Nat, hcell H164 b165 (o166 + (Int.toNat n163)) = some (.slice a167 l168 c169) ∧ (
                                                            Does Try.prog 36 [(.slice a167 l168 c169), (.int .i64 (n37 - 1))] H164 fun v170 H171 => ∃ n172 : Int, ∃ t173 : Bool, v170 = (.tuple #[(.int .i64 n172), (.bool t173)]) ∧ (
                                                            (0 : Int) ≤ n163 ∧ (n163 : Int) < (l155 : Int) ∧ ∃ b174 o175 : Nat, a154 = some (⟨b174, o175, none⟩ : Addr) ∧ (
                                                            ∃ a176 : Option Addr, ∃ l177 : Nat, ∃ c178 : Nat, hcell H171 b174 (o175 + (Int.toNat n163)) = some (.slice a176 l177 c178) ∧ (
                                                            Does Try.prog 37 [(.slice a176 l177 c178), (.int .i64 (n37 - 1))] H171 fun v179 H180 => ∃ n181 : Int, ∃ t182 : Bool, v179 = (.tuple #[(.int .i64 n181), (.bool t182)]) ∧ (
                                                            ((((n172 : Int) ≠ n181) → (
                                                            R (.bool false) H180)) ∧ (¬ ((n172 : Int) ≠ n181) → (
                                                            (((¬ ((t173 = true) ↔ (t182 = true))) → (
                                                            R (.bool false) H180)) ∧ (¬ (¬ ((t173 = true) ↔ (t182 = true))) → (
                                                            (0 : Int) ≤ n163 ∧ (n163 : Int) < (l152 : Int) ∧ ∃ b183 o184 : Nat, a151 = some (⟨b183, o184, none⟩ : Addr) ∧ (
                                                            ∃ a185 : Option Addr, ∃ l186 : Nat, ∃ c187 : Nat, hcell H180 b183 (o184 + (Int.toNat n163)) = some (.slice a185 l186 c187) ∧ (
                                                            (0 : Int) ≤ n163 ∧ (n163 : Int) < (l155 : Int) ∧ ∃ b188 o189 : Nat, a154 = some (⟨b188, o189, none⟩ : Addr) ∧ (
                                                            ∃ a190 : Option Addr, ∃ l191 : Nat, ∃ c192 : Nat, hcell H180 b188 (o189 + (Int.toNat n163)) = some (.slice a190 l191 c192) ∧ (
                                                            Does Try.prog 38 [(.slice a185 l186 c187)] H180 fun v193 H194 => ∃ n195 : Int, v193 = (.int .i64 n195) ∧ (
                                                            isL H194 b188 (o189 + (Int.toNat n163)) [(.slice a190 l191 c192)] ∧ (Does Try.prog 39 [(.slice a190 l191 c192)] H194 fun v196 H197 => ∃ n198 : Int, v196 = (.int .i64 n198) ∧ (
                                                            (((((n195 : Int) ≠ n198) → (
                                                            R (.bool false) H197)) ∧ (¬ ((n195 : Int) ≠ n198) → (
                                                            (0 : Int) ≤ n163 ∧ (n163 : Int) < (l152 : Int) ∧ ∃ b199 o200 : Nat, a151 = some (⟨b199, o200, none⟩ : Addr) ∧ (
                                                            ∃ a201 : Option Addr, ∃ l202 : Nat, ∃ c203 : Nat, hcell H197 b199 (o200 + (Int.toNat n163)) = some (.slice a201 l202 c203) ∧ (
                                                            Does Try.prog 40 [(.slice a201 l202 c203), (.int .i64 0), (.int .i64 (1 + n3))] H197 fun v204 H205 => ∃ t206 : Bool, v204 = (.bool t206) ∧ (
                                                            ((((t206 = false) → (
                                                            R (.bool false) H205)) ∧ (¬ (t206 = false) → (
                                                            (In64 (n163 + 1)) ∧
                                                            (I161 (n163 + 1) H205) ∧ μ162 (n163 + 1) H205 < μ162 n163 H164)))))))))))))))))))))))))))))))) ∧ (¬ ((n163 : Int) < (l152 : Int)) → (
                                                            (In64 (n19 + 1)) ∧
                                                            (I11 a151 l152 c153 a154 l155 c156 (n19 + 1) H164) ∧ μ12 a151 l152 c153 a154 l155 c156 (n19 + 1) H164 < μ12 a13 l14 c15 a16 l17 c18 n19 H20)))))))))))))))))))))))))) ∧ (¬ ((n19 : Int) < 30) → (
                                  R (.bool true) H20))))) ∧ (¬ ((n19 : Int) < (x2l : Int)) → (
                            R (.bool true) H20)))))))))))))) := by kernel_rfl


/-- pentimento/pentimentolaw7.ExtentApart -/
theorem vc_eapart (x0 : Int) (x1 : Option Addr) (x1l : Nat) (x1c : Nat) (x2 : Option Addr) (x2l : Nat) (x2c : Nat) (x3 : Option Addr) (x3l : Nat) (x3c : Nat) (H : Heap) (R : Value → Heap → Prop) : Walk Try.prog 8 [] [(.int .i64 x0), (.slice x1 x1l x1c), (.slice x2 x2l x2c), (.slice x3 x3l x3c)] H R = (
  Does Try.prog 11 [(.int .i64 x0), (.int .i64 60)] H fun v1 H2 => ∃ n3 : Int, v1 = (.int .i64 n3) ∧ (
    (In64 (8 + n3)) ∧
    Does Try.prog 27 [(.int .i64 (8 + n3)), (.slice x1 x1l x1c)] H2 fun v4 H5 => ∃ p6 : Option Addr, ∃ p7 : Option Addr, v4 = (.tuple #[(.pointer p6), (.pointer p7)]) ∧ (
      Does Try.prog 28 [] H5 fun v8 H9 => ∃ t10 : Bool, v8 = (.bool t10) ∧ (
        (((t10 = false) → (
              R (.bool false) H9)) ∧ (¬ (t10 = false) → (
              ((((p6 : Option Addr) = none) → (
                    R (.bool false) H9)) ∧ (¬ ((p6 : Option Addr) = none) → (
                    ∃ I11 : Option Addr → Nat → Nat → Int → Heap → Prop, ∃ μ12 : Option Addr → Nat → Nat → Int → Heap → Nat, (I11 none 0 0 0 H9) ∧
                    ∀ a13 : Option Addr, ∀ l14 : Nat, ∀ c15 : Nat, ∀ n16 : Int, ∀ H17 : Heap, I11 a13 l14 c15 n16 H17 → (
                      ((((n16 : Int) < (x2l : Int)) → (
                            ((((n16 : Int) < 12) → (
                                  (0 : Int) ≤ n16 ∧ (n16 : Int) < (x2l : Int) ∧ ∃ b18 o19 : Nat, x2 = some (⟨b18, o19, none⟩ : Addr) ∧ (
                                    ∃ n20 : Int, hcell H17 b18 (o19 + (Int.toNat n16)) = some (.int .i64 n20) ∧ (
                                      Does Try.prog 11 [(.int .i64 n20), (.int .i64 9)] H17 fun v21 H22 => ∃ n23 : Int, v21 = (.int .i64 n23) ∧ (
                                        Does Try.prog 23 [(.pointer p6)] H22 fun v24 H25 => ∃ p26 : Option Addr, v24 = (.pointer p26) ∧ (
                                          Does Try.prog 29 [(.pointer p6), (.int .i64 0), (.int .i64 n23)] H25 fun v27 H28 => ∃ a29 : Option Addr, ∃ l30 : Nat, ∃ c31 : Nat, ∃ t32 : Bool, v27 = (.tuple #[(.slice a29 l30 c31), (.bool t32)]) ∧ (
                                            ((((p26 : Option Addr) = none) → (
                                                  R (.bool false) H28)) ∧ (¬ ((p26 : Option Addr) = none) → (
                                                  (((t32 = false) → (
                                                        Does Try.prog 18 [(.pointer p26)] H28 fun v33 H34 => ∃ a35 : Option Addr, ∃ l36 : Nat, ∃ c37 : Nat, v33 = (.slice a35 l36 c37) ∧ (
                                                          (∃ l38 : List UInt8, SRow H34 1 l36 (.slice a35 l36 c37) (List.map (fun (b : UInt8) => Value.int .u8 b.toNat) l38) ∧ (
                                                            Does Try.prog 18 [(.pointer p6)] H34 fun v39 H40 => ∃ a41 : Option Addr, ∃ l42 : Nat, ∃ c43 : Nat, v39 = (.slice a41 l42 c43) ∧ (
                                                            SRow H40 1 l36 (.slice a35 l36 c37) (List.map (fun (b : UInt8) => Value.int .u8 b.toNat) l38) ∧ (∃ l44 : List UInt8, SRow H40 1 l42 (.slice a41 l42 c43) (List.map (fun (b : UInt8) => Value.int .u8 b.toNat) l44) ∧ (
                                                            (((((ByteArray.mk (List.toArray l38)) : ByteArray) ≠ (ByteArray.mk (List.toArray l44))) → (
                                                            R (.bool false) H40)) ∧ (¬ (((ByteArray.mk (List.toArray l38)) : ByteArray) ≠ (ByteArray.mk (List.toArray l44))) → (
                                                            (In64 (n16 + 1)) ∧
                                                            (I11 a13 l14 c15 (n16 + 1) H40) ∧ μ12 a13 l14 c15 (n16 + 1) H40 < μ12 a13 l14 c15 n16 H17))))))))))) ∧ (¬ (t32 = false) → (
                                                        Does Try.prog 38 [(.slice a29 l30 c31)] H28 fun v45 H46 => ∃ n47 : Int, v45 = (.int .i64 n47) ∧ (
                                                          ((((n47 : Int) ≠ n23) → (
                                                            R (.bool false) H46)) ∧ (¬ ((n47 : Int) ≠ n23) → (
                                                            Does Try.prog 17 [(.pointer p26)] H46 fun v48 H49 => ∃ n50 : Int, v48 = (.int .i64 n50) ∧ (
                                                            Does Try.prog 17 [(.pointer p6)] H49 fun v51 H52 => ∃ n53 : Int, v51 = (.int .i64 n53) ∧ (
                                                            (In64 (n50 - n53)) ∧
                                                            (((((n50 - n53) : Int) ≠ n23) → (
                                                            R (.bool false) H52)) ∧ (¬ (((n50 - n53) : Int) ≠ n23) → (
                                                            Does Try.prog 40 [(.slice a29 l30 c31), (.int .i64 0), (.int .i64 (8 + n3))] H52 fun v54 H55 => ∃ t56 : Bool, v54 = (.bool t56) ∧ (
                                                            (((t56 = false) → (
                                                            R (.bool false) H55)) ∧ (¬ (t56 = false) → (
                                                            ∃ I57 : Int → Int → Heap → Prop, ∃ μ58 : Int → Int → Heap → Nat, (I57 (-1) 0 H55) ∧
                                                            ∀ n59 : Int, ∀ n60 : Int, ∀ H61 : Heap, I57 n59 n60 H61 → (
                                                            ((((n60 : Int) < n23) → (
                                                            Does Try.prog 36 [(.slice a29 l30 c31), (.int .i64 n60)] H61 fun v62 H63 => ∃ n64 : Int, ∃ t65 : Bool, v62 = (.tuple #[(.int .i64 n64), (.bool t65)]) ∧ (
                                                            (((t65 = false) → (
                                                            R (.bool false) H63)) ∧ (¬ (t65 = false) → (
                                                            ((((n64 : Int) ≤ n59) → (
                                                            R (.bool false) H63)) ∧ (¬ ((n64 : Int) ≤ n59) → (
                                                            Does Try.prog 16 [(.pointer p26), (.int .i64 n64)] H63 fun v66 H67 => ∃ t68 : Bool, v66 = (.bool t68) ∧ (
                                                            ((t68 = true → (
                                                            R (.bool false) H67)) ∧ (t68 = false → (
                                                            Does Try.prog 16 [(.pointer p6), (.int .i64 n64)] H67 fun v69 H70 => ∃ t71 : Bool, v69 = (.bool t71) ∧ (
                                                            (((t71 = false) → (
                                                            R (.bool false) H70)) ∧ (¬ (t71 = false) → (
                                                            (In64 (n59 + 1)) ∧
                                                            ∃ I72 : Int → Heap → Prop, ∃ μ73 : Int → Heap → Nat, (I72 (n59 + 1) H70) ∧
                                                            ∀ n74 : Int, ∀ H75 : Heap, I72 n74 H75 → (
                                                            ((((n74 : Int) < n64) → (
                                                            Does Try.prog 16 [(.pointer p26), (.int .i64 n74)] H75 fun v76 H77 => ∃ t78 : Bool, v76 = (.bool t78) ∧ (
                                                            (((t78 = false) → (
                                                            R (.bool false) H77)) ∧ (¬ (t78 = false) → (
                                                            (In64 (n74 + 1)) ∧
                                                            (I72 (n74 + 1) H77) ∧ μ73 (n74 + 1) H77 < μ73 n74 H75)))))) ∧ (¬ ((n74 : Int) < n64) → (
                                                            (In64 (n60 + 1)) ∧
                                                            (I57 n64 (n60 + 1) H75) ∧ μ58 n64 (n60 + 1) H75 < μ58 n59 n60 H61))))))))))))))))))))) ∧ (¬ ((n60 : Int) < n23) → (
                                                            ∀ b79 : Nat, ∀ H80 : Heap, New H61 b79 [(.slice a29 l30 c31)] 57 H80 → (
                                                            ∃ old81 new82 : List Value, SRow H80 1 l14 (.slice a13 l14 c15) old81 ∧ SRow H80 1 1 (.slice (some (⟨b79, 0, none⟩ : Addr)) 1 1) new82 ∧ (∀ u ∈ new82, Value.oneCell' u = true) ∧ (l14 + 1) * 24 ≤ 140737488355328 ∧ (l14 + 1 ≤ c15 → roomOf H80 a13 (l14 * 1) (1 * 1)) ∧ ∀ a83 : Option Addr, ∀ c84 : Nat, ∀ H85 : Heap, App H80 1 57 [(.slice none 0 0)] a13 l14 c15 old81 new82 1 a83 c84 H85 → (
                                                            ((((n16 : Int) < (x3l : Int)) → (
                                                            (0 : Int) ≤ n16 ∧ (n16 : Int) < (x3l : Int) ∧ ∃ b86 o87 : Nat, x3 = some (⟨b86, o87, none⟩ : Addr) ∧ (
                                                            ∃ t88 : Bool, hcell H85 b86 (o87 + (Int.toNat n16)) = some (.bool t88) ∧ (
                                                            ((t88 = true → (
                                                            (0 : Int) ≤ 0 ∧ (0 : Int) < ((l14 + 1) : Int) ∧ ∃ b89 o90 : Nat, a83 = some (⟨b89, o90, none⟩ : Addr) ∧ (
                                                            ∃ a91 : Option Addr, ∃ l92 : Nat, ∃ c93 : Nat, hcell H85 b89 (o90 + (Int.toNat 0)) = some (.slice a91 l92 c93) ∧ (
                                                            Does Try.prog 17 [(.pointer p6)] H85 fun v94 H95 => ∃ n96 : Int, v94 = (.int .i64 n96) ∧ (
                                                            Does Try.prog 33 [(.pointer p6), (.slice a91 l92 c93), (.int .i64 0)] H95 fun v97 H98 => ∃ a99 : Option Addr, ∃ l100 : Nat, ∃ c101 : Nat, v97 = (.slice a99 l100 c101) ∧ (
                                                            (((((l100 : Int) : Int) ≠ 0) → (
                                                            R (.bool false) H98)) ∧ (¬ (((l100 : Int) : Int) ≠ 0) → (
                                                            Does Try.prog 17 [(.pointer p6)] H98 fun v102 H103 => ∃ n104 : Int, v102 = (.int .i64 n104) ∧ (
                                                            Does Try.prog 38 [(.slice a91 l92 c93)] H103 fun v105 H106 => ∃ n107 : Int, v105 = (.int .i64 n107) ∧ (
                                                            (In64 (n96 + n107)) ∧
                                                            ((((n104 : Int) ≠ (n96 + n107)) → (
                                                            R (.bool false) H106)) ∧ (¬ ((n104 : Int) ≠ (n96 + n107)) → (
                                                            (0 : Int) ≤ 1 ∧ (1 : Int) ≤ ((l14 + 1) : Int) ∧ ∀ a108 : Option Addr, a108 = (if c84 = (Int.toNat 1) then a83 else Option.map (fun x => Addr.add x ((Int.toNat 1) * 1)) a83) → (
                                                            (In64 (n16 + 1)) ∧
                                                            (I11 a108 ((l14 + 1) - (Int.toNat 1)) (c84 - (Int.toNat 1)) (n16 + 1) H106) ∧ μ12 a108 ((l14 + 1) - (Int.toNat 1)) (c84 - (Int.toNat 1)) (n16 + 1) H106 < μ12 a13 l14 c15 n16 H17))))))))))))))) ∧ (t88 = false → (
                                                            (In64 (n16 + 1)) ∧
                                                            (I11 a83 (l14 + 1) c84 (n16 + 1) H85) ∧ μ12 a83 (l14 + 1) c84 (n16 + 1) H85 < μ12 a13 l14 c15 n16 H17))))))) ∧ (¬ ((n16 : Int) < (x3l : Int)) → (
                                                            (In64 (n16 + 1)) ∧
                                                            (I11 a83 (l14 + 1) c84 (n16 + 1) H85) ∧ μ12 a83 (l14 + 1) c84 (n16 + 1) H85 < μ12 a13 l14 c15 n16 H17))))))))))))))))))))))))))))))))))) ∧ (¬ ((n16 : Int) < 12) → (
                                  R (.bool true) H17))))) ∧ (¬ ((n16 : Int) < (x2l : Int)) → (
                            R (.bool true) H17)))))))))))))) := by kernel_rfl


/-- pentimento/pentimentolaw7.ExtentKnown -/
theorem vc_eknown (H : Heap) (R : Value → Heap → Prop) : Walk Try.prog 9 [] [] H R = (
  ∀ b1 : Nat, ∀ H2 : Heap, New H b1 [(.int .i64 1), (.int .i64 3), (.int .i64 5), (.int .i64 7), (.int .i64 9), (.int .i64 11), (.int .i64 13)] 3 H2 → (
    Does Try.prog 27 [(.int .i64 16), (.slice (some (⟨b1, 0, none⟩ : Addr)) 7 7)] H2 fun v3 H4 => ∃ p5 : Option Addr, ∃ p6 : Option Addr, v3 = (.tuple #[(.pointer p5), (.pointer p6)]) ∧ (
      Does Try.prog 28 [] H4 fun v7 H8 => ∃ t9 : Bool, v7 = (.bool t9) ∧ (
        (((t9 = false) → (
              R (.bool false) H8)) ∧ (¬ (t9 = false) → (
              ((((p5 : Option Addr) = none) → (
                    R (.bool false) H8)) ∧ (¬ ((p5 : Option Addr) = none) → (
                    Does Try.prog 29 [(.pointer p5), (.int .i64 0), (.int .i64 7)] H8 fun v10 H11 => ∃ a12 : Option Addr, ∃ l13 : Nat, ∃ c14 : Nat, ∃ t15 : Bool, v10 = (.tuple #[(.slice a12 l13 c14), (.bool t15)]) ∧ (
                      Does Try.prog 17 [(.pointer p5)] H11 fun v16 H17 => ∃ n18 : Int, v16 = (.int .i64 n18) ∧ (
                        Does Try.prog 29 [(.pointer p5), (.int .i64 0), (.int .i64 6)] H17 fun v19 H20 => ∃ a21 : Option Addr, ∃ l22 : Nat, ∃ c23 : Nat, ∃ t24 : Bool, v19 = (.tuple #[(.slice a21 l22 c23), (.bool t24)]) ∧ (
                          Does Try.prog 29 [(.pointer p5), (.int .i64 0), (.int .i64 9)] H20 fun v25 H26 => ∃ a27 : Option Addr, ∃ l28 : Nat, ∃ c29 : Nat, ∃ t30 : Bool, v25 = (.tuple #[(.slice a27 l28 c29), (.bool t30)]) ∧ (
                            Does Try.prog 33 [(.pointer p5), (.slice a21 l22 c23), (.int .i64 2)] H26 fun v31 H32 => ∃ a33 : Option Addr, ∃ l34 : Nat, ∃ c35 : Nat, v31 = (.slice a33 l34 c35) ∧ (
                              Does Try.prog 32 [(.pointer p5), (.slice a33 l34 c35), (.int .i64 4), (.int .i64 1)] H32 fun v36 H37 => ∃ a38 : Option Addr, ∃ l39 : Nat, ∃ c40 : Nat, ∃ t41 : Bool, v36 = (.tuple #[(.slice a38 l39 c40), (.bool t41)]) ∧ (
                                Does Try.prog 36 [(.slice a38 l39 c40), (.int .i64 2)] H37 fun v42 H43 => ∃ n44 : Int, ∃ t45 : Bool, v42 = (.tuple #[(.int .i64 n44), (.bool t45)]) ∧ (
                                  Does Try.prog 36 [(.slice a38 l39 c40), (.int .i64 3)] H43 fun v46 H47 => ∃ n48 : Int, ∃ t49 : Bool, v46 = (.tuple #[(.int .i64 n48), (.bool t49)]) ∧ (
                                    ∀ b50 : Nat, ∀ H51 : Heap, New H47 b50 [(.int .i64 2), (.int .i64 4611686018427387904)] 73 H51 → (
                                      Does Try.prog 32 [(.pointer p5), (.slice (some (⟨b50, 0, none⟩ : Addr)) 1 1), (.int .i64 0), (.int .i64 1)] H51 fun v52 H53 => ∃ a54 : Option Addr, ∃ l55 : Nat, ∃ c56 : Nat, ∃ t57 : Bool, v52 = (.tuple #[(.slice a54 l55 c56), (.bool t57)]) ∧ (
                                        (((t15 = false) → (
                                              ((((n18 : Int) = 9) → (
                                                    ((t24 = true → (
                                                          (((((l22 : Int) : Int) = 6) → (
                                                            (((t30 = false) → (
                                                            Does Try.prog 38 [(.slice a33 l34 c35)] H53 fun v58 H59 => ∃ n60 : Int, v58 = (.int .i64 n60) ∧ (
                                                            ((((n60 : Int) = 2) → (
                                                            ((t41 = true → (
                                                            (((((l39 : Int) : Int) = 3) → (
                                                            ((((n44 : Int) = 4) → (
                                                            ((t45 = true → (
                                                            (((t49 = false) → (
                                                            (((t57 = false) → (
                                                            Does Try.prog 41 [(.int .i64 0)] H59 fun v61 H62 => ∃ n63 : Int, v61 = (.int .i64 n63) ∧ (
                                                            ((((n63 : Int) = 0) → (
                                                            Does Try.prog 41 [(.int .i64 1)] H62 fun v64 H65 => ∃ n66 : Int, v64 = (.int .i64 n66) ∧ (
                                                            ((((n66 : Int) = 1) → (
                                                            Does Try.prog 41 [(.int .i64 128)] H65 fun v67 H68 => ∃ n69 : Int, v67 = (.int .i64 n69) ∧ (
                                                            ((((n69 : Int) = 1) → (
                                                            Does Try.prog 41 [(.int .i64 129)] H68 fun v70 H71 => ∃ n72 : Int, v70 = (.int .i64 n72) ∧ (
                                                            ((((n72 : Int) = 2) → (
                                                            Does Try.prog 40 [(.slice a38 l39 c40), (.int .i64 0), (.int .i64 16)] H71 fun v73 H74 => ∃ t75 : Bool, v73 = (.bool t75) ∧ (
                                                            ((t75 = true → (
                                                            Does Try.prog 40 [(.slice a38 l39 c40), (.int .i64 1), (.int .i64 16)] H74 fun v76 H77 => ∃ t78 : Bool, v76 = (.bool t78) ∧ (
                                                            (((t78 = false) → (
                                                            ∀ b79 : Nat, ∀ H80 : Heap, New H77 b79 [(.int .i64 0), (.int .i64 1), (.int .i64 1), (.int .i64 1)] 73 H80 → (
                                                            Does Try.prog 40 [(.slice (some (⟨b79, 0, none⟩ : Addr)) 2 2), (.int .i64 0), (.int .i64 9)] H80 fun v81 H82 => ∃ t83 : Bool, v81 = (.bool t83) ∧ (
                                                            (((t83 = false) → (
                                                            ∀ b84 : Nat, ∀ H85 : Heap, New H82 b84 [(.int .i64 0), (.int .i64 (-1))] 73 H85 → (
                                                            Does Try.prog 38 [(.slice (some (⟨b84, 0, none⟩ : Addr)) 1 1)] H85 fun v86 H87 => ∃ n88 : Int, v86 = (.int .i64 n88) ∧ (
                                                            R (.bool (@decide ((n88 : Int) = 0) (Classical.propDecidable _))) H87)))) ∧ (¬ (t83 = false) → (
                                                            R (.bool false) H82))))))) ∧ (¬ (t78 = false) → (
                                                            R (.bool false) H77)))))) ∧ (t75 = false → (
                                                            R (.bool false) H74)))))) ∧ (¬ ((n72 : Int) = 2) → (
                                                            R (.bool false) H71)))))) ∧ (¬ ((n69 : Int) = 1) → (
                                                            R (.bool false) H68)))))) ∧ (¬ ((n66 : Int) = 1) → (
                                                            R (.bool false) H65)))))) ∧ (¬ ((n63 : Int) = 0) → (
                                                            R (.bool false) H62)))))) ∧ (¬ (t57 = false) → (
                                                            R (.bool false) H59))))) ∧ (¬ (t49 = false) → (
                                                            R (.bool false) H59))))) ∧ (t45 = false → (
                                                            R (.bool false) H59))))) ∧ (¬ ((n44 : Int) = 4) → (
                                                            R (.bool false) H59))))) ∧ (¬ (((l39 : Int) : Int) = 3) → (
                                                            R (.bool false) H59))))) ∧ (t41 = false → (
                                                            R (.bool false) H59))))) ∧ (¬ ((n60 : Int) = 2) → (
                                                            R (.bool false) H59)))))) ∧ (¬ (t30 = false) → (
                                                            R (.bool false) H53))))) ∧ (¬ (((l22 : Int) : Int) = 6) → (
                                                            R (.bool false) H53))))) ∧ (t24 = false → (
                                                          R (.bool false) H53))))) ∧ (¬ ((n18 : Int) = 9) → (
                                                    R (.bool false) H53))))) ∧ (¬ (t15 = false) → (
                                              R (.bool false) H53))))))))))))))))))))))) := by kernel_rfl


/-- pentimento/pentimentolaw7.ExtentRaw -/
theorem vc_eraw (x0 : Option Addr) (x0l : Nat) (x0c : Nat) (x1 : Bool) (x2 : Int) (x3 : Int) (x4 : Int) (x5 : Int) (x6 : Int) (H : Heap) (R : Value → Heap → Prop) : Walk Try.prog 10 [(9, []), (10, [(15, (.slice none 0 0))]), (13, [(2, (.int .i64 0)), (3, (.int .i64 0))]), (29, [(6, (.int .i64 0))])] [(.slice x0 x0l x0c), (.bool x1), (.int .i64 x2), (.int .i64 x3), (.int .i64 x4), (.int .i64 x5), (.int .i64 x6)] H R = (
  ∃ I1 : Option Addr → Nat → Nat → Heap → Prop, (
    ∃ I2 : Option Addr → Nat → Nat → Int → Heap → Prop, ∃ μ3 : Option Addr → Nat → Nat → Int → Heap → Nat, (I2 none 0 0 0 H) ∧
    ∀ a4 : Option Addr, ∀ l5 : Nat, ∀ c6 : Nat, ∀ n7 : Int, ∀ H8 : Heap, I2 a4 l5 c6 n7 H8 → (
      ((((n7 : Int) < (x0l : Int)) → (
            ((((n7 : Int) < 8) → (
                  (0 : Int) ≤ n7 ∧ (n7 : Int) < (x0l : Int) ∧ ∃ b9 o10 : Nat, x0 = some (⟨b9, o10, none⟩ : Addr) ∧ (
                    ∃ n11 : Int, hcell H8 b9 (o10 + (Int.toNat n7) * 2) = some (.int .i64 n11) ∧ (
                      ∃ n12 : Int, hcell H8 b9 ((o10 + (Int.toNat n7) * 2) + 1) = some (.int .i64 n12) ∧ (
                        ∀ b13 : Nat, ∀ H14 : Heap, New H8 b13 [(.int .i64 0), (.int .i64 0)] 73 H14 → (
                          Cells H14 b13 0 2 ∧ ∀ H15 : Heap, Puts H14 b13 0 [(.int .i64 n11), (.int .i64 n12)] H15 → (
                            ∃ I16 : Heap → Prop, (
                              ((x1 = true → (
                                    ∃ n17 : Int, hcell H15 b13 0 = some (.int .i64 n17) ∧ (
                                      Does Try.prog 11 [(.int .i64 n17), (.int .i64 40)] H15 fun v18 H19 => ∃ n20 : Int, v18 = (.int .i64 n20) ∧ (
                                        (In64 (n20 - 1)) ∧
                                        Cells H19 b13 0 1 ∧ ∀ H21 : Heap, Puts H19 b13 0 [(.int .i64 (n20 - 1))] H21 → (
                                          ∃ n22 : Int, hcell H21 b13 (0 + 1) = some (.int .i64 n22) ∧ (
                                            Does Try.prog 11 [(.int .i64 n22), (.int .i64 7)] H21 fun v23 H24 => ∃ n25 : Int, v23 = (.int .i64 n25) ∧ (
                                              Cells H24 b13 (0 + 1) 1 ∧ ∀ H26 : Heap, Puts H24 b13 (0 + 1) [(.int .i64 n25)] H26 → (
                                                I16 H26)))))))) ∧ (x1 = false → (
                                    I16 H15)))) ∧
                            ∀ H27 : Heap, I16 H27 → (
                              ∃ n28 : Int, hcell H27 b13 0 = some (.int .i64 n28) ∧ (
                                ∃ n29 : Int, hcell H27 b13 (0 + 1) = some (.int .i64 n29) ∧ (
                                  ∀ b30 : Nat, ∀ H31 : Heap, New H27 b30 [(.int .i64 n28), (.int .i64 n29)] 73 H31 → (
                                    ∃ old32 new33 : List Value, SRow H31 2 l5 (.slice a4 l5 c6) old32 ∧ SRow H31 2 1 (.slice (some (⟨b30, 0, none⟩ : Addr)) 1 1) new33 ∧ (∀ u ∈ new33, Value.oneCell' u = true) ∧ (l5 + 1) * 16 ≤ 140737488355328 ∧ (l5 + 1 ≤ c6 → roomOf H31 a4 (l5 * 2) (1 * 2)) ∧ ∀ a34 : Option Addr, ∀ c35 : Nat, ∀ H36 : Heap, App H31 2 73 [(.int .i64 0), (.int .i64 0)] a4 l5 c6 old32 new33 1 a34 c35 H36 → (
                                      (In64 (n7 + 1)) ∧
                                      (I2 a34 (l5 + 1) c35 (n7 + 1) H36) ∧ μ3 a34 (l5 + 1) c35 (n7 + 1) H36 < μ3 a4 l5 c6 n7 H8)))))))))))) ∧ (¬ ((n7 : Int) < 8) → (
                  I1 a4 l5 c6 H8))))) ∧ (¬ ((n7 : Int) < (x0l : Int)) → (
            I1 a4 l5 c6 H8))))) ∧
  ∀ a37 : Option Addr, ∀ l38 : Nat, ∀ c39 : Nat, ∀ H40 : Heap, I1 a37 l38 c39 H40 → (
    ∃ I41 : Int → Int → Heap → Prop, (
      ((x1 = true → (
            Does Try.prog 11 [(.int .i64 x2), (.int .i64 6)] H40 fun v42 H43 => ∃ n44 : Int, v42 = (.int .i64 n44) ∧ (
              Does Try.prog 11 [(.int .i64 x3), (.int .i64 60)] H43 fun v45 H46 => ∃ n47 : Int, v45 = (.int .i64 n47) ∧ (
                I41 n44 n47 H46)))) ∧ (x1 = false → (
            I41 x2 x3 H40)))) ∧
    ∀ n48 : Int, ∀ n49 : Int, ∀ H50 : Heap, I41 n48 n49 H50 → (
      Does Try.prog 11 [(.int .i64 x4), (.int .i64 40)] H50 fun v51 H52 => ∃ n53 : Int, v51 = (.int .i64 n53) ∧ (
        (In64 (n53 - 2)) ∧
        Does Try.prog 27 [(.int .i64 40), (.slice none 0 0)] H52 fun v54 H55 => ∃ p56 : Option Addr, ∃ p57 : Option Addr, v54 = (.tuple #[(.pointer p56), (.pointer p57)]) ∧ (
          Does Try.prog 28 [] H55 fun v58 H59 => ∃ t60 : Bool, v58 = (.bool t60) ∧ (
            (((t60 = false) → (
                  R (.bool false) H59)) ∧ (¬ (t60 = false) → (
                  ((((p56 : Option Addr) = none) → (
                        R (.bool false) H59)) ∧ (¬ ((p56 : Option Addr) = none) → (
                        Does Try.prog 36 [(.slice a37 l38 c39), (.int .i64 (n53 - 2))] H59 fun v61 H62 => ∃ n63 : Int, ∃ t64 : Bool, v61 = (.tuple #[(.int .i64 n63), (.bool t64)]) ∧ (
                          Does Try.prog 37 [(.slice a37 l38 c39), (.int .i64 (n53 - 2))] H62 fun v65 H66 => ∃ n67 : Int, ∃ t68 : Bool, v65 = (.tuple #[(.int .i64 n67), (.bool t68)]) ∧ (
                            Does Try.prog 40 [(.slice a37 l38 c39), (.int .i64 (max 0 n48)), (.int .i64 (max 0 n49))] H66 fun v69 H70 => ∃ t71 : Bool, v69 = (.bool t71) ∧ (
                              Does Try.prog 42 [(.slice a37 l38 c39), (.int .i64 (max 0 n48)), (.int .i64 (max 0 n49))] H70 fun v72 H73 => ∃ t74 : Bool, v72 = (.bool t74) ∧ (
                                (((¬ ((t71 = true) ↔ (t74 = true))) → (
                                      R (.bool false) H73)) ∧ (¬ (¬ ((t71 = true) ↔ (t74 = true))) → (
                                      Does Try.prog 38 [(.slice a37 l38 c39)] H73 fun v75 H76 => ∃ n77 : Int, v75 = (.int .i64 n77) ∧ (
                                        Does Try.prog 39 [(.slice a37 l38 c39)] H76 fun v78 H79 => ∃ n80 : Int, v78 = (.int .i64 n80) ∧ (
                                          ((((n77 : Int) ≠ n80) → (
                                                R (.bool false) H79)) ∧ (¬ ((n77 : Int) ≠ n80) → (
                                                ((((n63 : Int) ≠ n67) → (
                                                      R (.bool false) H79)) ∧ (¬ ((n63 : Int) ≠ n67) → (
                                                      (((¬ ((t64 = true) ↔ (t68 = true))) → (
                                                            R (.bool false) H79)) ∧ (¬ (¬ ((t64 = true) ↔ (t68 = true))) → (
                                                            Does Try.prog 11 [(.int .i64 x5), (.int .i64 5)] H79 fun v81 H82 => ∃ n83 : Int, v81 = (.int .i64 n83) ∧ (
                                                            Does Try.prog 32 [(.pointer p56), (.slice a37 l38 c39), (.int .i64 0), (.int .i64 n83)] H82 fun v84 H85 => ∃ a86 : Option Addr, ∃ l87 : Nat, ∃ c88 : Nat, ∃ t89 : Bool, v84 = (.tuple #[(.slice a86 l87 c88), (.bool t89)]) ∧ (
                                                            Does Try.prog 11 [(.int .i64 x5), (.int .i64 5)] H85 fun v90 H91 => ∃ n92 : Int, v90 = (.int .i64 n92) ∧ (
                                                            Does Try.prog 30 [(.pointer p57), (.slice a37 l38 c39), (.int .i64 0), (.int .i64 n92)] H91 fun v93 H94 => ∃ a95 : Option Addr, ∃ l96 : Nat, ∃ c97 : Nat, ∃ t98 : Bool, v93 = (.tuple #[(.slice a95 l96 c97), (.bool t98)]) ∧ (
                                                            (((¬ ((t89 = true) ↔ (t98 = true))) → (
                                                            R (.bool false) H94)) ∧ (¬ (¬ ((t89 = true) ↔ (t98 = true))) → (
                                                            Does Try.prog 31 [(.slice a86 l87 c88), (.slice a95 l96 c97)] H94 fun v99 H100 => ∃ t101 : Bool, v99 = (.bool t101) ∧ (
                                                            (((t101 = false) → (
                                                            R (.bool false) H100)) ∧ (¬ (t101 = false) → (
                                                            ∃ I102 : Int → Heap → Prop, (
                                                            ((((1099511627776 : Int) < x6) → (
                                                            ((1099511627776 : Int) ≠ 0) ∧
                                                            ∀ q103 : Int, q103 = Int.tmod x6 1099511627776 → (
                                                            I102 q103 H100))) ∧ (¬ ((1099511627776 : Int) < x6) → (
                                                            ((((x6 : Int) < (-1099511627776)) → (
                                                            ((1099511627776 : Int) ≠ 0) ∧
                                                            ∀ q104 : Int, q104 = Int.tmod x6 1099511627776 → (
                                                            I102 q104 H100))) ∧ (¬ ((x6 : Int) < (-1099511627776)) → (
                                                            I102 x6 H100))))))) ∧
                                                            ∀ n105 : Int, ∀ H106 : Heap, I102 n105 H106 → (
                                                            Does Try.prog 33 [(.pointer p56), (.slice a37 l38 c39), (.int .i64 (n53 - 2))] H106 fun v107 H108 => ∃ a109 : Option Addr, ∃ l110 : Nat, ∃ c111 : Nat, v107 = (.slice a109 l110 c111) ∧ (
                                                            (Does Try.prog 34 [(.pointer p57), (.slice a37 l38 c39), (.int .i64 (n53 - 2))] H108 fun v112 H113 => ∃ a114 : Option Addr, ∃ l115 : Nat, ∃ c116 : Nat, v112 = (.slice a114 l115 c116) ∧ (
                                                            (Does Try.prog 31 [(.slice a109 l110 c111), (.slice a114 l115 c116)] H113 fun v117 H118 => ∃ t119 : Bool, v117 = (.bool t119) ∧ (
                                                            (((t119 = true → (
                                                            Does Try.prog 18 [(.pointer p56)] H118 fun v120 H121 => ∃ a122 : Option Addr, ∃ l123 : Nat, ∃ c124 : Nat, v120 = (.slice a122 l123 c124) ∧ (
                                                            (∃ l125 : List UInt8, SRow H121 1 l123 (.slice a122 l123 c124) (List.map (fun (b : UInt8) => Value.int .u8 b.toNat) l125) ∧ (
                                                            Does Try.prog 22 [(.pointer p57)] H121 fun v126 H127 => ∃ a128 : Option Addr, ∃ l129 : Nat, ∃ c130 : Nat, v126 = (.slice a128 l129 c130) ∧ (
                                                            SRow H127 1 l123 (.slice a122 l123 c124) (List.map (fun (b : UInt8) => Value.int .u8 b.toNat) l125) ∧ (∃ l131 : List UInt8, SRow H127 1 l129 (.slice a128 l129 c130) (List.map (fun (b : UInt8) => Value.int .u8 b.toNat) l131) ∧ (
                                                            (((((ByteArray.mk (List.toArray l125)) : ByteArray) = (ByteArray.mk (List.toArray l131))) → (
                                                            Does Try.prog 41 [(.int .i64 n105)] H127 fun v132 H133 => ∃ n134 : Int, v132 = (.int .i64 n134) ∧ (
                                                            (Does Try.prog 43 [(.int .i64 n105)] H133 fun v135 H136 => ∃ n137 : Int, v135 = (.int .i64 n137) ∧ (
                                                            (R (.bool (@decide ((n134 : Int) = n137) (Classical.propDecidable _))) H136)))))) ∧ (¬ (((ByteArray.mk (List.toArray l125)) : ByteArray) = (ByteArray.mk (List.toArray l131))) → (
                                                            R (.bool false) H127))))))))))) ∧ (t119 = false → (
                                                            R (.bool false) H118))))))))))))))))))))))))))))))))))))))))))))))))))) := by kernel_rfl


end Go.Proofs
end

section
open Go Go.Vc
namespace Go.Proofs

theorem freeb_ok {H : Heap} {pb : Nat} {a : Option Addr} {c : Nat} {bs : List Bool} (h : IsB H pb a c bs) : Does Try.prog 17 [.pointer (some ⟨pb, 0, none⟩)] H fun v H' => v = .int .i64 (cntF (onB bs) bs.length) ∧ H = H' := by
  obtain ⟨xs, hm, hb⟩ := h
  have : onB bs = bit xs := funext fun i => (hb.bits i).symm
  rw [this]
  exact free_ok hm

theorem GrowR.yes {H H' : Heap} {bs : List Bool} {l : List Pc} {k n : Int} {v : Value} {bs' : List Bool} (h : GrowR H H' bs l k n v bs') (hg : growOk bs l k n) {bs2 : List Bool} {out : List Pc} (e1 : setAll bs (foundF bs k n.toNat) true = bs2) (e2 : growF bs l k n = out) :
    bs' = bs2 ∧ ∃ a c, v = .tuple #[.slice a out.length c, .bool true] ∧ Own H' 2 a out.length c (piecesV out) ∧ (∀ k, k ∈ blkOf a → H.size ≤ k) := by
  subst e1; subst e2
  rcases h with ⟨h1, _⟩ | ⟨_, h2, h3⟩
  · exact absurd hg h1
  · exact ⟨h2, h3⟩

theorem GrowR.no {H H' : Heap} {bs : List Bool} {l : List Pc} {k n : Int} {v : Value} {bs' : List Bool} (h : GrowR H H' bs l k n v bs') (hg : ¬ growOk bs l k n) : v = .tuple #[.slice none 0 0, .bool false] ∧ bs' = bs := by
  rcases h with ⟨_, h1⟩ | ⟨h1, _⟩
  · exact h1
  · exact absurd h1 hg

theorem right_nil (a e : Int) : RightP [] a e := ⟨by simp, fun i p hp => by simp at hp⟩

theorem New.ints {H H' : Heap} {b : Nat} {xs : List Int} {e : TypeId} (h : New H b (intsV xs) e H') : Ints H' (some ⟨b, 0, none⟩) xs.length xs :=
  ⟨rfl, fun _ => ⟨by simp [intsV], rfl, fun j u hj => by
    show hcell H' b (0 + j) = some u
    rw [Nat.zero_add, h.blk.cell]; exact hj⟩⟩

theorem known7_ok (H : Heap) : Does Try.prog 28 [] H fun v H' => v = .bool true ∧ Ext [] H H' := by
  refine Fn_of_vc Try.mixed (vc_known7 _ _) ?_
  intro b1 H2 hn
  have hi : Ints H2 (some ⟨b1, 0, none⟩) 1 [1] := New.ints (xs := [1]) hn
  have hn2 : ∀ {x : Addr}, ¬ ((some x : Option Addr) = none) := by intro x e; cases e
  refine (of_ok hi 8 (by decide) (by decide)).mono ?_
  rintro _ H4 ⟨pb, bb, c, qb, rb, rfl, hp⟩
  refine ⟨_, _, rfl, fun e => absurd e hn2, fun _ => (take_ok hp.map 0 3 (by decide) (by decide) (by rw [ofF_length]; decide)).mono ?_⟩
  rintro _ H8 ⟨bs', hg, hb, hx⟩
  obtain ⟨rfl, a, c', rfl, ho, hf⟩ := GrowR.yes hg ⟨right_nil _ _, by decide +kernel⟩ (bs2 := [true, true, true, true, false, false, false, false]) (out := [⟨0, 1⟩, ⟨2, 2⟩]) (by decide +kernel) (by decide +kernel)
  have hpc := Own.pcs ho
  obtain ⟨b, o, rfl, k0, k1⟩ := hpc.get 0 ⟨0, 1⟩ rfl
  obtain ⟨b', o', e', k2, k3⟩ := hpc.get 1 ⟨2, 2⟩ rfl
  cases e'
  have hx' : Ext [] H H8 := (hn.ext.trans hp.ext).trans' hx (by intro i hi; simp only [blkOf, List.mem_singleton] at hi; subst hi; have := hp.fb; have := hn.ext.size; omega)
  refine ⟨_, _, _, _, rfl, fun _ => ⟨fun _ => ⟨by decide, by decide, b, o, rfl, _, k0, _, k1, fun _ => ⟨by decide, by decide, b, o, rfl, _, k2, _, k3, fun _ => (freeb_ok hb).mono ?_, fun e => absurd (by decide) e⟩, fun e => absurd (by decide) e⟩, fun e => absurd (by decide) e⟩, fun e => (by cases e)⟩
  rintro _ _ ⟨rfl, rfl⟩
  exact ⟨_, rfl, yes (by decide +kernel), hx'⟩

end Go.Proofs
end

section
open Go Go.Vc
namespace Go.Proofs

instance (a e : Int) (p : Pc) : Decidable (okP a e p) := by unfold okP; infer_instance
instance (q p : Pc) : Decidable (apartP q p) := by unfold apartP; infer_instance
instance (p : Pc) : Decidable (fewP p) := by unfold fewP; infer_instance

theorem all_get {l : List Pc} {P : Nat → Pc → Prop} : (∀ i p, l[i]? = some p → P i p) ↔ ∀ i : Fin l.length, P i.val l[i] := by
  constructor
  · intro h i
    exact h i.val _ (List.getElem?_eq_getElem i.isLt)
  · intro h i p hp
    obtain ⟨hi, rfl⟩ := List.getElem?_eq_some_iff.1 hp
    exact h ⟨i, hi⟩

instance (l : List Pc) (a e : Int) : Decidable (RightP l a e) :=
  decidable_of_iff (l.length ≤ 6 ∧ ∀ i : Fin l.length, okP a e l[i] ∧ ∀ k : Fin l.length, k.val < i.val → apartP l[k] l[i] ∧ (k.val + 1 = i.val → l[k].s + l[k].c ≠ l[i].s)) (by
    unfold RightP fitsP
    rw [all_get (P := fun i p => okP a e p ∧ ∀ k q, k < i → l[k]? = some q → apartP q p ∧ (k + 1 = i → q.s + q.c ≠ p.s))]
    refine and_congr_right fun _ => forall_congr' fun i => and_congr_right fun _ => ?_
    constructor
    · intro h k q hk hq
      obtain ⟨hi, rfl⟩ := List.getElem?_eq_some_iff.1 hq
      exact h ⟨k, hi⟩ hk
    · intro h k hk
      exact h k.val _ hk (List.getElem?_eq_getElem k.isLt))

instance (l : List Pc) : Decidable (SmallP l) :=
  decidable_of_iff (l.length ≤ 6 ∧ ∀ i : Fin l.length, fewP l[i]) (by
    unfold SmallP
    rw [all_get (P := fun _ p => fewP p)])

instance (bs : List Bool) (l : List Pc) (k n : Int) : Decidable (growOk bs l k n) := by unfold growOk; infer_instance

theorem countF_yes {l : List Pc} (h : SmallP l) : countF l = totalP l := by
  unfold countF
  rw [← decP_true h, if_pos rfl]
theorem countF_no {l : List Pc} (h : ¬ SmallP l) : countF l = 0 := by
  unfold countF
  rw [← decP_false h, if_neg (by decide)]

theorem ShrinkR.yes {H H' : Heap} {bs : List Bool} {l : List Pc} {n : Int} {v : Value} {bs' : List Bool} (h : ShrinkR H H' bs l n v bs') (hg : RightP l 0 bs.length) {bs2 : List Bool} {out : List Pc} (e1 : setAll bs ((blocksI l).drop n.toNat) false = bs2) (e2 : piecesF ((blocksI l).take n.toNat) = out) :
    bs' = bs2 ∧ ∃ a c, v = .slice a out.length c ∧ Own H' 2 a out.length c (piecesV out) ∧ (∀ k, k ∈ blkOf a → H.size ≤ k) := by
  subst e1; subst e2
  rcases h with ⟨h1, _⟩ | ⟨_, h2, h3⟩
  · exact absurd hg h1
  · exact ⟨h2, h3⟩

theorem New.pcsL {H H' : Heap} {b : Nat} {xs : List Pc} {e : TypeId} (h : New H b (piecesV xs) e H') : Pcs H' (some ⟨b, 0, none⟩) xs.length xs :=
  ⟨rfl, fun _ => ⟨piecesV_length xs, rfl, fun j u hj => by
    show hcell H' b (0 + j) = some u
    rw [Nat.zero_add, h.blk.cell]; exact hj⟩⟩

theorem eknown_law (H : Heap) : Does Try.prog 9 [] H fun v H' => v = .bool true ∧ Ext [] H H' := by
  refine Fn_of_vc Try.mixed (vc_eknown _ _) ?_
  intro b1 H2 hn
  have hi : Ints H2 (some ⟨b1, 0, none⟩) 7 [1, 3, 5, 7, 9, 11, 13] := New.ints (xs := [1, 3, 5, 7, 9, 11, 13]) hn
  have hn2 : ∀ {x : Addr}, ¬ ((some x : Option Addr) = none) := by intro x e; cases e
  refine (of_ok hi 16 (by decide) (by decide)).mono ?_
  rintro _ H4 ⟨pb, bb, c, qb, rb, rfl, hp⟩
  refine ⟨_, _, rfl, (known7_ok H4).mono ?_⟩
  rintro _ H8 ⟨rfl, hx8⟩
  have hp8 := hp.more hx8
  have hm8 := hp8.map
  have eb : ofF 16 [1, 3, 5, 7, 9, 11, 13] = [false, true, false, true, false, true, false, true, false, true, false, true, false, true, false, false] := by decide +kernel
  rw [eb] at hm8
  have s2 := hn.ext.size
  have fb := hp.fb
  have hxa : Ext [] H H8 := hn.ext.trans hp8.ext
  have tr : ∀ {A B}, Ext [] H A → Ext (blkOf (some ⟨bb, 0, none⟩)) A B → Ext [] H B := fun h1 h2 => h1.trans' h2 (by intro i hi; simp only [blkOf, List.mem_singleton] at hi; subst hi; omega)
  refine ⟨_, rfl, fun e => (by cases e), fun _ => ⟨fun e => absurd e hn2, fun _ => (take_ok hm8 0 7 (by decide) (by decide) (by decide)).mono ?_⟩⟩
  rintro _ H11 ⟨bs1, hg, hb11, hx11⟩
  obtain ⟨rfl, rfl⟩ := GrowR.no hg (by decide +kernel)
  have hx11' := tr hxa hx11
  refine ⟨_, _, _, _, rfl, (freeb_ok hb11).mono ?_⟩
  rintro _ _ ⟨rfl, rfl⟩
  refine ⟨_, rfl, (take_ok hb11 0 6 (by decide) (by decide) (by decide)).mono ?_⟩
  rintro _ H20 ⟨bs2, hg, hb20, hx20⟩
  obtain ⟨rfl, a21, c23, rfl, ho21, hf21⟩ := GrowR.yes hg (by decide +kernel) (bs2 := [true, true, true, true, true, true, true, true, true, true, true, true, false, true, false, false]) (out := [⟨0, 1⟩, ⟨2, 1⟩, ⟨4, 1⟩, ⟨6, 1⟩, ⟨8, 1⟩, ⟨10, 1⟩]) (by decide +kernel) (by decide +kernel)
  have hx20' := tr hx11' hx20
  refine ⟨_, _, _, _, rfl, (take_ok hb20 0 9 (by decide) (by decide) (by decide)).mono ?_⟩
  rintro _ H26 ⟨bs3, hg, hb26, hx26⟩
  obtain ⟨rfl, rfl⟩ := GrowR.no hg (by decide +kernel)
  have hx26' := tr hx20' hx26
  have lb := hb11.lt.2 bb (by simp [blkOf])
  have lb8 := hm8.lt.2 bb (by simp [blkOf])
  have ap : ∀ {a : Option Addr}, (∀ k, k ∈ blkOf a → H11.size ≤ k) → ∀ k, k ∈ blkOf a → k ∉ blkOf (some ⟨bb, 0, none⟩) := by
    intro a h1 k hk hk'
    simp only [blkOf, List.mem_singleton] at hk'
    subst hk'
    have := h1 _ hk
    omega
  have hpc21 := (Own.pcs ho21).ext hx26 (ap hf21)
  refine ⟨_, _, _, _, rfl, (shrink_ok hb26 hpc21 (ap hf21) ho21.2.1 2 (by decide) (by decide)).mono ?_⟩
  rintro _ H32 ⟨bs4, hs, hb32, hx32⟩
  obtain ⟨rfl, a33, c35, rfl, ho33, hf33⟩ := ShrinkR.yes hs (by decide +kernel) (bs2 := [true, true, true, true, false, true, false, true, false, true, false, true, false, true, false, false]) (out := [⟨0, 1⟩, ⟨2, 1⟩]) (by decide +kernel) (by decide +kernel)
  have hx32' := tr hx26' hx32
  have s20 := hx20.size
  have s26 := hx26.size
  have s32 := hx32.size
  refine ⟨_, _, _, rfl, (grow_ok hb32 (Own.pcs ho33) (ap fun k hk => by have := hf33 k hk; omega) ho33.2.1 4 1 (by decide) (by decide) (by decide)).mono ?_⟩
  rintro _ H37 ⟨bs5, hg, hb37, hx37⟩
  obtain ⟨rfl, a38, c40, rfl, ho38, hf38⟩ := GrowR.yes hg (by decide +kernel) (bs2 := [true, true, true, true, true, true, false, true, false, true, false, true, false, true, false, false]) (out := [⟨0, 1⟩, ⟨2, 1⟩, ⟨4, 1⟩]) (by decide +kernel) (by decide +kernel)
  have hx37' := tr hx32' hx37
  have hpc38 := Own.pcs ho38
  have hpc33 := (Own.pcs ho33).ext hx37 (ap fun k hk => by have := hf33 k hk; omega)
  refine ⟨_, _, _, _, rfl, (at_ok hpc38 2).mono ?_⟩
  rintro _ H43 ⟨rfl, hx43⟩
  refine ⟨_, _, rfl, (at_ok (hpc38.ext hx43 (by simp)) 3).mono ?_⟩
  rintro _ H47 ⟨rfl, hx47⟩
  refine ⟨_, _, rfl, fun b50 H51 hn50 => ?_⟩
  have hbad : Pcs H51 (some ⟨b50, 0, none⟩) 1 [⟨2, 4611686018427387904⟩] := New.pcsL (xs := [⟨2, 4611686018427387904⟩]) hn50
  have hx3751 := (hx43.trans hx47).trans hn50.ext
  have hb51 := hb37.ext hx3751 (by simp) (by simp)
  refine (grow_ok hb51 hbad (fun k hk hk' => ?_) (Nat.le_refl _) 0 1 (by decide) (by decide) (by decide)).mono ?_
  · simp only [blkOf, List.mem_singleton] at hk hk'
    have := hn50.eq
    have := (hb37.ext (hx43.trans hx47) (by simp) (by simp)).lt.2 bb (by simp [blkOf])
    omega
  rintro _ H53 ⟨bs6, hg, hb53, hx53⟩
  obtain ⟨rfl, rfl⟩ := GrowR.no hg (by decide +kernel)
  have hx53' := tr (hx37'.trans hx3751) hx53
  have ap33 := ap (a := a33) fun k hk => by have := hf33 k hk; omega
  have ap38 := ap (a := a38) fun k hk => by have := hf38 k hk; omega
  have hpc33' := (hpc33.ext hx3751 (by simp)).ext hx53 ap33
  have hpc38' := (hpc38.ext hx3751 (by simp)).ext hx53 ap38
  refine ⟨_, _, _, _, rfl, fun _ => ⟨fun _ => ⟨fun _ => ⟨fun _ => ⟨fun _ => (count_ok hpc33').mono ?_, fun e => absurd rfl e⟩, fun e => absurd (by decide) e⟩, fun e => (by cases e)⟩, fun e => absurd (by decide +kernel) e⟩, fun e => absurd rfl e⟩
  rintro _ H59 ⟨rfl, hx59⟩
  have e1 : countF [⟨0, 1⟩, ⟨2, 1⟩] = 2 := by rw [countF_yes (by decide +kernel)]; decide +kernel
  have e2 : atF [⟨0, 1⟩, ⟨2, 1⟩, ⟨4, 1⟩] 2 = (4, true) := by rw [atF_yes (by decide +kernel)]; decide +kernel
  have e3 : atF [⟨0, 1⟩, ⟨2, 1⟩, ⟨4, 1⟩] 3 = (0, false) := by rw [atF_no (by decide +kernel)]
  rw [e1, e2, e3]
  refine ⟨_, rfl, fun _ => ⟨fun _ => ⟨fun _ => ⟨fun _ => ⟨fun _ => ⟨fun _ => ⟨fun _ => (blocks_ok 0 H59 (by decide)).mono ?_, fun e => absurd rfl e⟩, fun e => absurd rfl e⟩, fun e => (by cases e)⟩, fun e => absurd rfl e⟩, fun e => absurd (by decide) e⟩, fun e => (by cases e)⟩, fun e => absurd rfl e⟩
  rintro _ _ ⟨rfl, rfl⟩
  refine ⟨_, rfl, fun _ => (blocks_ok 1 H59 (by decide)).mono ?_, fun e => absurd (by decide +kernel) e⟩
  rintro _ _ ⟨rfl, rfl⟩
  refine ⟨_, rfl, fun _ => (blocks_ok 128 H59 (by decide)).mono ?_, fun e => absurd (by decide +kernel) e⟩
  rintro _ _ ⟨rfl, rfl⟩
  refine ⟨_, rfl, fun _ => (blocks_ok 129 H59 (by decide)).mono ?_, fun e => absurd (by decide +kernel) e⟩
  rintro _ _ ⟨rfl, rfl⟩
  have hpc59 := hpc38'.ext hx59 (by simp)
  refine ⟨_, rfl, fun _ => (right_ok hpc59 ho38.2.1 0 16 (by decide) (by decide) (by decide)).mono ?_, fun e => absurd (by decide +kernel) e⟩
  rintro _ H74 ⟨rfl, hx74⟩
  refine ⟨_, rfl, fun _ => (right_ok (hpc59.ext hx74 (by simp)) ho38.2.1 1 16 (by decide) (by decide) (by decide)).mono ?_, fun e => absurd (e.symm.trans (decP_true (by decide +kernel)).symm) (by decide)⟩
  rintro _ H77 ⟨rfl, hx77⟩
  refine ⟨_, rfl, fun _ b79 H80 hn79 => ?_, fun e => absurd (decP_false (by decide +kernel)).symm e⟩
  have hq : Pcs H80 (some ⟨b79, 0, none⟩) 2 [⟨0, 1⟩, ⟨1, 1⟩] := New.pcsL (xs := [⟨0, 1⟩, ⟨1, 1⟩]) hn79
  refine (right_ok hq (Nat.le_refl _) 0 9 (by decide) (by decide) (by decide)).mono ?_
  rintro _ H82 ⟨rfl, hx82⟩
  refine ⟨_, rfl, fun _ b84 H85 hn84 => ?_, fun e => absurd (decP_false (by decide +kernel)).symm e⟩
  have hq2 : Pcs H85 (some ⟨b84, 0, none⟩) 1 [⟨0, -1⟩] := New.pcsL (xs := [⟨0, -1⟩]) hn84
  refine (count_ok hq2).mono ?_
  rintro _ H87 ⟨rfl, hx87⟩
  exact ⟨_, rfl, yes (countF_no (by decide +kernel)), hx53'.trans (hx59.trans (hx74.trans (hx77.trans (hn79.ext.trans (hx82.trans (hn84.ext.trans hx87))))))⟩

end Go.Proofs
end

