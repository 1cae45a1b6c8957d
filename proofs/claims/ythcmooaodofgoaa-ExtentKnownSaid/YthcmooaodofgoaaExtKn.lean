/-
  The example of the chapter. No condition.
-/
import Derived.Test.YthcmooaodofgoaaProg
import Derived.Test.YthcmooaodofgoaaVc
import Derived.Test.YthcmooaodofgoaaExtGrow

section
open Go Go.Vc
namespace Go.Proofs
set_option maxRecDepth 100000
/-- pentimento/pentimentolaw7.ExtentPlays -/
theorem vc_eplays (x0 : Int) (x1 : Option Addr) (x1l : Nat) (x1c : Nat) (x2 : Option Addr) (x2l : Nat) (x2c : Nat) (H : Heap) (R : Value → Heap → Prop) : Walk Try.prog 7 [(21, [(16, (.int .i64 0))]), (37, [(9, (.slice none 0 0)), (10, (.slice none 0 0))])] [(.int .i64 x0), (.slice x1 x1l x1c), (.slice x2 x2l x2c)] H R = (
  Does Try.prog 11 [(.int .i64 x0), (.int .i64 50)] H fun v1 H2 => ∃ n3 : Int, v1 = (.int .i64 n3) ∧ (
    (In64 (1 + n3)) ∧
    Does Try.prog 27 [(.int .i64 (1 + n3)), (.slice x1 x1l x1c)] H2 fun v4 H5 => ∃ p6 : Option Addr, ∃ p7 : Option Addr, v4 = (.tuple #[(.pointer p6), (.pointer p7)]) ∧ (
      Does Try.prog 28 [] H5 fun v8 H9 => ∃ t10 : Bool, v8 = (.bool t10) ∧ (
        (((t10 = false) → (
              R (.bool false) H9)) ∧ (¬ (t10 = false) → (
              ((((p6 : Option Addr) = none) → (
                    R (.bool false) H9)) ∧ (¬ ((p6 : Option Addr) = none) → (
                    ∃ I11 : Option Addr → Nat → Nat → Option Addr → Nat → Nat → Int → Heap → Prop, ∃ μ12 : Option Addr → Nat → Nat → Option Addr → Nat → Nat → Int → Heap → Nat, (I11 none 0 0 none 0 0 0 H9) ∧
                    ∀ a13 : Option Addr, ∀ l14 : Nat, ∀ c15 : Nat, ∀ a16 : Option Addr, ∀ l17 : Nat, ∀ c18 : Nat, ∀ n19 : Int, ∀ H20 : Heap, I11 a13 l14 c15 a16 l17 c18 n19 H20 → (
                      ((((n19 : Int) < (x2l : Int)) → (
                            ((((n19 : Int) < 30) → (
                                  (0 : Int) ≤ n19 ∧ (n19 : Int) < (x2l : Int) ∧ ∃ b21 o22 : Nat, x2 = some (⟨b21, o22, none⟩ : Addr) ∧ (
                                    ∃ n23 : Int, hcell H20 b21 (o22 + (Int.toNat n19) * 4) = some (.int .i64 n23) ∧ (
                                      ∃ n24 : Int, hcell H20 b21 ((o22 + (Int.toNat n19) * 4) + 1) = some (.int .i64 n24) ∧ (
                                        ∃ n25 : Int, hcell H20 b21 (((o22 + (Int.toNat n19) * 4) + 1) + 1) = some (.int .i64 n25) ∧ (
                                          ∃ n26 : Int, hcell H20 b21 ((((o22 + (Int.toNat n19) * 4) + 1) + 1) + 1) = some (.int .i64 n26) ∧ (
                                            ∀ b27 : Nat, ∀ H28 : Heap, New H20 b27 [(.int .i64 0), (.int .i64 0), (.int .i64 0), (.int .i64 0)] 56 H28 → (
                                              Cells H28 b27 0 4 ∧ ∀ H29 : Heap, Puts H28 b27 0 [(.int .i64 n23), (.int .i64 n24), (.int .i64 n25), (.int .i64 n26)] H29 → (
                                                ∃ n30 : Int, hcell H29 b27 (0 + 2) = some (.int .i64 n30) ∧ (
                                                  (In64 ((1 + n3) + 4)) ∧
                                                  Does Try.prog 11 [(.int .i64 n30), (.int .i64 ((1 + n3) + 4))] H29 fun v31 H32 => ∃ n33 : Int, v31 = (.int .i64 n33) ∧ (
                                                    (In64 (n33 - 2)) ∧
                                                    ∃ n34 : Int, hcell H32 b27 (0 + 3) = some (.int .i64 n34) ∧ (
                                                      Does Try.prog 11 [(.int .i64 n34), (.int .i64 12)] H32 fun v35 H36 => ∃ n37 : Int, v35 = (.int .i64 n37) ∧ (
                                                        (In64 (n37 - 1)) ∧
                                                        ∃ n38 : Int, hcell H36 b27 0 = some (.int .i64 n38) ∧ (
                                                          Does Try.prog 11 [(.int .i64 n38), (.int .i64 6)] H36 fun v39 H40 => ∃ n41 : Int, v39 = (.int .i64 n41) ∧ (
                                                            ((((1 : Int) < n41) → (
                                                            (((((l14 : Int) : Int) = 0) → (
                                                            (In64 (n19 + 1)) ∧
                                                            (I11 a13 l14 c15 a16 l17 c18 (n19 + 1) H40) ∧ μ12 a13 l14 c15 a16 l17 c18 (n19 + 1) H40 < μ12 a13 l14 c15 a16 l17 c18 n19 H20)) ∧ (¬ (((l14 : Int) : Int) = 0) → (
                                                            ∃ I42 : Int → Heap → Prop, (
                                                            ((((0 : Int) < (l14 : Int)) → (
                                                            ∃ n43 : Int, hcell H40 b27 (0 + 1) = some (.int .i64 n43) ∧ (
                                                            Does Try.prog 11 [(.int .i64 n43), (.int .i64 (l14 : Int))] H40 fun v44 H45 => ∃ n46 : Int, v44 = (.int .i64 n46) ∧ (
                                                            I42 n46 H45)))) ∧ (¬ ((0 : Int) < (l14 : Int)) → (
                                                            I42 0 H40)))) ∧
                                                            ∀ n47 : Int, ∀ H48 : Heap, I42 n47 H48 → (
                                                            ∃ I49 : Option Addr → Nat → Nat → Option Addr → Nat → Nat → Heap → Prop, (
                                                            ((((n41 : Int) < 2) → (
                                                            Does Try.prog 29 [(.pointer p6), (.int .i64 (n33 - 2)), (.int .i64 (n37 - 1))] H48 fun v50 H51 => ∃ a52 : Option Addr, ∃ l53 : Nat, ∃ c54 : Nat, ∃ t55 : Bool, v50 = (.tuple #[(.slice a52 l53 c54), (.bool t55)]) ∧ (
                                                            Does Try.prog 30 [(.pointer p7), (.slice none 0 0), (.int .i64 (n33 - 2)), (.int .i64 (n37 - 1))] H51 fun v56 H57 => ∃ a58 : Option Addr, ∃ l59 : Nat, ∃ c60 : Nat, ∃ t61 : Bool, v56 = (.tuple #[(.slice a58 l59 c60), (.bool t61)]) ∧ (
                                                            (((¬ ((t55 = true) ↔ (t61 = true))) → (
                                                            R (.bool false) H57)) ∧ (¬ (¬ ((t55 = true) ↔ (t61 = true))) → (
                                                            Does Try.prog 31 [(.slice a52 l53 c54), (.slice a58 l59 c60)] H57 fun v62 H63 => ∃ t64 : Bool, v62 = (.bool t64) ∧ (
                                                            (((t64 = false) → (
                                                            R (.bool false) H63)) ∧ (¬ (t64 = false) → (
                                                            ((t61 = true → (
                                                            ∀ b65 : Nat, ∀ H66 : Heap, New H63 b65 [(.slice a52 l53 c54)] 57 H66 → (
                                                            ∃ old67 new68 : List Value, SRow H66 1 l14 (.slice a13 l14 c15) old67 ∧ SRow H66 1 1 (.slice (some (⟨b65, 0, none⟩ : Addr)) 1 1) new68 ∧ (∀ u ∈ new68, Value.oneCell' u = true) ∧ (l14 + 1) * 24 ≤ 140737488355328 ∧ (l14 + 1 ≤ c15 → roomOf H66 a13 (l14 * 1) (1 * 1)) ∧ ∀ a69 : Option Addr, ∀ c70 : Nat, ∀ H71 : Heap, App H66 1 57 [(.slice none 0 0)] a13 l14 c15 old67 new68 1 a69 c70 H71 → (
                                                            ∀ b72 : Nat, ∀ H73 : Heap, New H71 b72 [(.slice a58 l59 c60)] 57 H73 → (
                                                            ∃ old74 new75 : List Value, SRow H73 1 l17 (.slice a16 l17 c18) old74 ∧ SRow H73 1 1 (.slice (some (⟨b72, 0, none⟩ : Addr)) 1 1) new75 ∧ (∀ u ∈ new75, Value.oneCell' u = true) ∧ (l17 + 1) * 24 ≤ 140737488355328 ∧ (l17 + 1 ≤ c18 → roomOf H73 a16 (l17 * 1) (1 * 1)) ∧ ∀ a76 : Option Addr, ∀ c77 : Nat, ∀ H78 : Heap, App H73 1 57 [(.slice none 0 0)] a16 l17 c18 old74 new75 1 a76 c77 H78 → (
                                                            I49 a69 (l14 + 1) c70 a76 (l17 + 1) c77 H78)))))) ∧ (t61 = false → (
                                                            I49 a13 l14 c15 a16 l17 c18 H63)))))))))))))) ∧ (¬ ((n41 : Int) < 2) → (
                                                            ((((n41 : Int) < 4) → (
                                                            (0 : Int) ≤ n47 ∧ (n47 : Int) < (l14 : Int) ∧ ∃ b79 o80 : Nat, a13 = some (⟨b79, o80, none⟩ : Addr) ∧ (
                                                            ∃ a81 : Option Addr, ∃ l82 : Nat, ∃ c83 : Nat, hcell H48 b79 (o80 + (Int.toNat n47)) = some (.slice a81 l82 c83) ∧ (
                                                            Does Try.prog 32 [(.pointer p6), (.slice a81 l82 c83), (.int .i64 (n33 - 2)), (.int .i64 (n37 - 1))] H48 fun v84 H85 => ∃ a86 : Option Addr, ∃ l87 : Nat, ∃ c88 : Nat, ∃ t89 : Bool, v84 = (.tuple #[(.slice a86 l87 c88), (.bool t89)]) ∧ (
                                                            (0 : Int) ≤ n47 ∧ (n47 : Int) < (l17 : Int) ∧ ∃ b90 o91 : Nat, a16 = some (⟨b90, o91, none⟩ : Addr) ∧ (
                                                            ∃ a92 : Option Addr, ∃ l93 : Nat, ∃ c94 : Nat, hcell H85 b90 (o91 + (Int.toNat n47)) = some (.slice a92 l93 c94) ∧ (
                                                            Does Try.prog 30 [(.pointer p7), (.slice a92 l93 c94), (.int .i64 (n33 - 2)), (.int .i64 (n37 - 1))] H85 fun v95 H96 => ∃ a97 : Option Addr, ∃ l98 : Nat, ∃ c99 : Nat, ∃ t100 : Bool, v95 = (.tuple #[(.slice a97 l98 c99), (.bool t100)]) ∧ (
                                                            (((¬ ((t89 = true) ↔ (t100 = true))) → (
                                                            R (.bool false) H96)) ∧ (¬ (¬ ((t89 = true) ↔ (t100 = true))) → (
                                                            Does Try.prog 31 [(.slice a86 l87 c88), (.slice a97 l98 c99)] H96 fun v101 H102 => ∃ t103 : Bool, v101 = (.bool t103) ∧ (
                                                            (((t103 = false) → (
                                                            R (.bool false) H102)) ∧ (¬ (t103 = false) → (
                                                            ((t100 = true → (
                                                            (0 : Int) ≤ n47 ∧ (n47 : Int) < (l14 : Int) ∧ ∃ b104 o105 : Nat, a13 = some (⟨b104, o105, none⟩ : Addr) ∧ (
                                                            Cells H102 b104 (o105 + (Int.toNat n47)) 1 ∧ ∀ H106 : Heap, Puts H102 b104 (o105 + (Int.toNat n47)) [(.slice a86 l87 c88)] H106 → (
                                                            (0 : Int) ≤ n47 ∧ (n47 : Int) < (l17 : Int) ∧ ∃ b107 o108 : Nat, a16 = some (⟨b107, o108, none⟩ : Addr) ∧ (
                                                            Cells H106 b107 (o108 + (Int.toNat n47)) 1 ∧ ∀ H109 : Heap, Puts H106 b107 (o108 + (Int.toNat n47)) [(.slice a97 l98 c99)] H109 → (
                                                            I49 a13 l14 c15 a16 l17 c18 H109)))))) ∧ (t100 = false → (
                                                            I49 a13 l14 c15 a16 l17 c18 H102)))))))))))))))))) ∧ (¬ ((n41 : Int) < 4) → (
                                                            (0 : Int) ≤ n47 ∧ (n47 : Int) < (l14 : Int) ∧ ∃ b110 o111 : Nat, a13 = some (⟨b110, o111, none⟩ : Addr) ∧ (
                                                            ∃ a112 : Option Addr, ∃ l113 : Nat, ∃ c114 : Nat, hcell H48 b110 (o111 + (Int.toNat n47)) = some (.slice a112 l113 c114) ∧ (
                                                            Does Try.prog 33 [(.pointer p6), (.slice a112 l113 c114), (.int .i64 (n37 - 1))] H48 fun v115 H116 => ∃ a117 : Option Addr, ∃ l118 : Nat, ∃ c119 : Nat, v115 = (.slice a117 l118 c119) ∧ (
                                                            (0 : Int) ≤ n47 ∧ (n47 : Int) < (l14 : Int) ∧ ∃ b120 o121 : Nat, a13 = some (⟨b120, o121, none⟩ : Addr) ∧ (
                                                            Cells H116 b120 (o121 + (Int.toNat n47)) 1 ∧ ∀ H122 : Heap, Puts H116 b120 (o121 + (Int.toNat n47)) [(.slice a117 l118 c119)] H122 → (
                                                            (0 : Int) ≤ n47 ∧ (n47 : Int) < (l17 : Int) ∧ ∃ b123 o124 : Nat, a16 = some (⟨b123, o124, none⟩ : Addr) ∧ (
                                                            ∃ a125 : Option Addr, ∃ l126 : Nat, ∃ c127 : Nat, hcell H122 b123 (o124 + (Int.toNat n47)) = some (.slice a125 l126 c127) ∧ (
                                                            Does Try.prog 34 [(.pointer p7), (.slice a125 l126 c127), (.int .i64 (n37 - 1))] H122 fun v128 H129 => ∃ a130 : Option Addr, ∃ l131 : Nat, ∃ c132 : Nat, v128 = (.slice a130 l131 c132) ∧ (
                                                            (0 : Int) ≤ n47 ∧ (n47 : Int) < (l17 : Int) ∧ ∃ b133 o134 : Nat, a16 = some (⟨b133, o134, none⟩ : Addr) ∧ (
                                                            Cells H129 b133 (o134 + (Int.toNat n47)) 1 ∧ ∀ H135 : Heap, Puts H129 b133 (o134 + (Int.toNat n47)) [(.slice a130 l131 c132)] H135 → (
                                                            (0 : Int) ≤ n47 ∧ (n47 : Int) < (l14 : Int) ∧ ∃ b136 o137 : Nat, a13 = some (⟨b136, o137, none⟩ : Addr) ∧ (
                                                            ∃ a138 : Option Addr, ∃ l139 : Nat, ∃ c140 : Nat, hcell H135 b136 (o137 + (Int.toNat n47)) = some (.slice a138 l139 c140) ∧ (
                                                            (0 : Int) ≤ n47 ∧ (n47 : Int) < (l17 : Int) ∧ ∃ b141 o142 : Nat, a16 = some (⟨b141, o142, none⟩ : Addr) ∧ (
                                                            ∃ a143 : Option Addr, ∃ l144 : Nat, ∃ c145 : Nat, hcell H135 b141 (o142 + (Int.toNat n47)) = some (.slice a143 l144 c145) ∧ (
                                                            Does Try.prog 31 [(.slice a138 l139 c140), (.slice a143 l144 c145)] H135 fun v146 H147 => ∃ t148 : Bool, v146 = (.bool t148) ∧ (
                                                            ((((t148 = false) → (
                                                            R (.bool false) H147)) ∧ (¬ (t148 = false) → (
                                                            I49 a13 l14 c15 a16 l17 c18 H147)))))))))))))))))))))))))) ∧
                                                            ∀ a149 : Option Addr, ∀ l150 : Nat, ∀ c151 : Nat, ∀ a152 : Option Addr, ∀ l153 : Nat, ∀ c154 : Nat, ∀ H155 : Heap, I49 a149 l150 c151 a152 l153 c154 H155 → (
                                                            Does Try.prog 35 [(.pointer p6), (.pointer p7)] H155 fun v156 H157 => ∃ t158 : Bool, v156 = (.bool t158) ∧ (
                                                            (((t158 = false) → (
                                                            R (.bool false) H157)) ∧ (¬ (t158 = false) → (
                                                            ∃ I159 : Int → Heap → Prop, ∃ μ160 : Int → Heap → Nat, (I159 0 H157) ∧
                                                            ∀ n161 : Int, ∀ H162 : Heap, I159 n161 H162 → (
                                                            ((((n161 : Int) < (l150 : Int)) → (
                                                            (0 : Int) ≤ n161 ∧ (n161 : Int) < (l150 : Int) ∧ ∃ b163 o164 : Nat, a149 = some (⟨b163, o164, none⟩ : Addr) ∧ (
                                                            ∃ a165 : Option Addr, ∃ l166 : Nat, ∃ c167 : Nat, hcell H162 b163 (o164 + (Int.toNat n161)) = some (.slice a165 l166 c167) ∧ (
                                                            Does Try.prog 36 [(.slice a165 l166 c167), (.int .i64 (n37 - 1))] H162 fun v168 H169 => ∃ n170 : Int, ∃ t171 : Bool, v168 = (.tuple #[(.int .i64 n170), (.bool t171)]) ∧ (
                                                            (0 : Int) ≤ n161 ∧ (n161 : Int) < (l153 : Int) ∧ ∃ b172 o173 : Nat, a152 = some (⟨b172, o173, none⟩ : Addr) ∧ (
                                                            ∃ a174 : Option Addr, ∃ l175 : Nat, ∃ c176 : Nat, hcell H169 b172 (o173 + (Int.toNat n161)) = some (.slice a174 l175 c176) ∧ (
                                                            Does Try.prog 37 [(.slice a174 l175 c176), (.int .i64 (n37 - 1))] H169 fun v177 H178 => ∃ n179 : Int, ∃ t180 : Bool, v177 = (.tuple #[(.int .i64 n179), (.bool t180)]) ∧ (
                                                            ((((n170 : Int) ≠ n179) → (
                                                            R (.bool false) H178)) ∧ (¬ ((n170 : Int) ≠ n179) → (
                                                            (((¬ ((t171 = true) ↔ (t180 = true))) → (
                                                            R (.bool false) H178)) ∧ (¬ (¬ ((t171 = true) ↔ (t180 = true))) → (
                                                            (0 : Int) ≤ n161 ∧ (n161 : Int) < (l150 : Int) ∧ ∃ b181 o182 : Nat, a149 = some (⟨b181, o182, none⟩ : Addr) ∧ (
                                                            ∃ a183 : Option Addr, ∃ l184 : Nat, ∃ c185 : Nat, hcell H178 b181 (o182 + (Int.toNat n161)) = some (.slice a183 l184 c185) ∧ (
                                                            (0 : Int) ≤ n161 ∧ (n161 : Int) < (l153 : Int) ∧ ∃ b186 o187 : Nat, a152 = some (⟨b186, o187, none⟩ : Addr) ∧ (
                                                            ∃ a188 : Option Addr, ∃ l189 : Nat, ∃ c190 : Nat, hcell H178 b186 (o187 + (Int.toNat n161)) = some (.slice a188 l189 c190) ∧ (
                                                            Does Try.prog 38 [(.slice a183 l184 c185)] H178 fun v191 H192 => ∃ n193 : Int, v191 = (.int .i64 n193) ∧ (
                                                            isL H192 b186 (o187 + (Int.toNat n161)) [(.slice a188 l189 c190)] ∧ (Does Try.prog 39 [(.slice a188 l189 c190)] H192 fun v194 H195 => ∃ n196 : Int, v194 = (.int .i64 n196) ∧ (
                                                            (((((n193 : Int) ≠ n196) → (
                                                            R (.bool false) H195)) ∧ (¬ ((n193 : Int) ≠ n196) → (
                                                            (0 : Int) ≤ n161 ∧ (n161 : Int) < (l150 : Int) ∧ ∃ b197 o198 : Nat, a149 = some (⟨b197, o198, none⟩ : Addr) ∧ (
                                                            ∃ a199 : Option Addr, ∃ l200 : Nat, ∃ c201 : Nat, hcell H195 b197 (o198 + (Int.toNat n161)) = some (.slice a199 l200 c201) ∧ (
                                                            Does Try.prog 40 [(.slice a199 l200 c201), (.int .i64 0), (.int .i64 (1 + n3))] H195 fun v202 H203 => ∃ t204 : Bool, v202 = (.bool t204) ∧ (
                                                            ((((t204 = false) → (
                                                            R (.bool false) H203)) ∧ (¬ (t204 = false) → (
                                                            (In64 (n161 + 1)) ∧
                                                            (I159 (n161 + 1) H203) ∧ μ160 (n161 + 1) H203 < μ160 n161 H162)))))))))))))))))))))))))))))))) ∧ (¬ ((n161 : Int) < (l150 : Int)) → (
                                                            (In64 (n19 + 1)) ∧
                                                            (I11 a149 l150 c151 a152 l153 c154 (n19 + 1) H162) ∧ μ12 a149 l150 c151 a152 l153 c154 (n19 + 1) H162 < μ12 a13 l14 c15 a16 l17 c18 n19 H20))))))))))))))) ∧ (¬ ((1 : Int) < n41) → (
                                                            ∃ I205 : Int → Heap → Prop, (
                                                            ((((0 : Int) < (l14 : Int)) → (
                                                            ∃ n206 : Int, hcell H40 b27 (0 + 1) = some (.int .i64 n206) ∧ (
                                                            Does Try.prog 11 [(.int .i64 n206), (.int .i64 (l14 : Int))] H40 fun v207 H208 => ∃ n209 : Int, v207 = (.int .i64 n209) ∧ (
                                                            I205 n209 H208)))) ∧ (¬ ((0 : Int) < (l14 : Int)) → (
                                                            I205 0 H40)))) ∧
                                                            ∀ n210 : Int, ∀ H211 : Heap, I205 n210 H211 → (
                                                            ∃ I212 : Option Addr → Nat → Nat → Option Addr → Nat → Nat → Heap → Prop, (
                                                            ((((n41 : Int) < 2) → (
                                                            Does Try.prog 29 [(.pointer p6), (.int .i64 (n33 - 2)), (.int .i64 (n37 - 1))] H211 fun v213 H214 => ∃ a215 : Option Addr, ∃ l216 : Nat, ∃ c217 : Nat, ∃ t218 : Bool, v213 = (.tuple #[(.slice a215 l216 c217), (.bool t218)]) ∧ (
                                                            Does Try.prog 30 [(.pointer p7), (.slice none 0 0), (.int .i64 (n33 - 2)), (.int .i64 (n37 - 1))] H214 fun v219 H220 => ∃ a221 : Option Addr, ∃ l222 : Nat, ∃ c223 : Nat, ∃ t224 : Bool, v219 = (.tuple #[(.slice a221 l222 c223), (.bool t224)]) ∧ (
                                                            (((¬ ((t218 = true) ↔ (t224 = true))) → (
                                                            R (.bool false) H220)) ∧ (¬ (¬ ((t218 = true) ↔ (t224 = true))) → (
                                                            Does Try.prog 31 [(.slice a215 l216 c217), (.slice a221 l222 c223)] H220 fun v225 H226 => ∃ t227 : Bool, v225 = (.bool t227) ∧ (
                                                            (((t227 = false) → (
                                                            R (.bool false) H226)) ∧ (¬ (t227 = false) → (
                                                            ((t224 = true → (
                                                            ∀ b228 : Nat, ∀ H229 : Heap, New H226 b228 [(.slice a215 l216 c217)] 57 H229 → (
                                                            ∃ old230 new231 : List Value, SRow H229 1 l14 (.slice a13 l14 c15) old230 ∧ SRow H229 1 1 (.slice (some (⟨b228, 0, none⟩ : Addr)) 1 1) new231 ∧ (∀ u ∈ new231, Value.oneCell' u = true) ∧ (l14 + 1) * 24 ≤ 140737488355328 ∧ (l14 + 1 ≤ c15 → roomOf H229 a13 (l14 * 1) (1 * 1)) ∧ ∀ a232 : Option Addr, ∀ c233 : Nat, ∀ H234 : Heap, App H229 1 57 [(.slice none 0 0)] a13 l14 c15 old230 new231 1 a232 c233 H234 → (
                                                            ∀ b235 : Nat, ∀ H236 : Heap, New H234 b235 [(.slice a221 l222 c223)] 57 H236 → (
                                                            ∃ old237 new238 : List Value, SRow H236 1 l17 (.slice a16 l17 c18) old237 ∧ SRow H236 1 1 (.slice (some (⟨b235, 0, none⟩ : Addr)) 1 1) new238 ∧ (∀ u ∈ new238, Value.oneCell' u = true) ∧ (l17 + 1) * 24 ≤ 140737488355328 ∧ (l17 + 1 ≤ c18 → roomOf H236 a16 (l17 * 1) (1 * 1)) ∧ ∀ a239 : Option Addr, ∀ c240 : Nat, ∀ H241 : Heap, App H236 1 57 [(.slice none 0 0)] a16 l17 c18 old237 new238 1 a239 c240 H241 → (
                                                            I212 a232 (l14 + 1) c233 a239 (l17 + 1) c240 H241)))))) ∧ (t224 = false → (
                                                            I212 a13 l14 c15 a16 l17 c18 H226)))))))))))))) ∧ (¬ ((n41 : Int) < 2) → (
                                                            ((((n41 : Int) < 4) → (
                                                            (0 : Int) ≤ n210 ∧ (n210 : Int) < (l14 : Int) ∧ ∃ b242 o243 : Nat, a13 = some (⟨b242, o243, none⟩ : Addr) ∧ (
                                                            ∃ a244 : Option Addr, ∃ l245 : Nat, ∃ c246 : Nat, hcell H211 b242 (o243 + (Int.toNat n210)) = some (.slice a244 l245 c246) ∧ (
                                                            Does Try.prog 32 [(.pointer p6), (.slice a244 l245 c246), (.int .i64 (n33 - 2)), (.int .i64 (n37 - 1))] H211 fun v247 H248 => ∃ a249 : Option Addr, ∃ l250 : Nat, ∃ c251 : Nat, ∃ t252 : Bool, v247 = (.tuple #[(.slice a249 l250 c251), (.bool t252)]) ∧ (
                                                            (0 : Int) ≤ n210 ∧ (n210 : Int) < (l17 : Int) ∧ ∃ b253 o254 : Nat, a16 = some (⟨b253, o254, none⟩ : Addr) ∧ (
                                                            ∃ a255 : Option Addr, ∃ l256 : Nat, ∃ c257 : Nat, hcell H248 b253 (o254 + (Int.toNat n210)) = some (.slice a255 l256 c257) ∧ (
                                                            Does Try.prog 30 [(.pointer p7), (.slice a255 l256 c257), (.int .i64 (n33 - 2)), (.int .i64 (n37 - 1))] H248 fun v258 H259 => ∃ a260 : Option Addr, ∃ l261 : Nat, ∃ c262 : Nat, ∃ t263 : Bool, v258 = (.tuple #[(.slice a260 l261 c262), (.bool t263)]) ∧ (
                                                            (((¬ ((t252 = true) ↔ (t263 = true))) → (
                                                            R (.bool false) H259)) ∧ (¬ (¬ ((t252 = true) ↔ (t263 = true))) → (
                                                            Does Try.prog 31 [(.slice a249 l250 c251), (.slice a260 l261 c262)] H259 fun v264 H265 => ∃ t266 : Bool, v264 = (.bool t266) ∧ (
                                                            (((t266 = false) → (
                                                            R (.bool false) H265)) ∧ (¬ (t266 = false) → (
                                                            ((t263 = true → (
                                                            (0 : Int) ≤ n210 ∧ (n210 : Int) < (l14 : Int) ∧ ∃ b267 o268 : Nat, a13 = some (⟨b267, o268, none⟩ : Addr) ∧ (
                                                            Cells H265 b267 (o268 + (Int.toNat n210)) 1 ∧ ∀ H269 : Heap, Puts H265 b267 (o268 + (Int.toNat n210)) [(.slice a249 l250 c251)] H269 → (
                                                            (0 : Int) ≤ n210 ∧ (n210 : Int) < (l17 : Int) ∧ ∃ b270 o271 : Nat, a16 = some (⟨b270, o271, none⟩ : Addr) ∧ (
                                                            Cells H269 b270 (o271 + (Int.toNat n210)) 1 ∧ ∀ H272 : Heap, Puts H269 b270 (o271 + (Int.toNat n210)) [(.slice a260 l261 c262)] H272 → (
                                                            I212 a13 l14 c15 a16 l17 c18 H272)))))) ∧ (t263 = false → (
                                                            I212 a13 l14 c15 a16 l17 c18 H265)))))))))))))))))) ∧ (¬ ((n41 : Int) < 4) → (
                                                            (0 : Int) ≤ n210 ∧ (n210 : Int) < (l14 : Int) ∧ ∃ b273 o274 : Nat, a13 = some (⟨b273, o274, none⟩ : Addr) ∧ (
                                                            ∃ a275 : Option Addr, ∃ l276 : Nat, ∃ c277 : Nat, hcell H211 b273 (o274 + (Int.toNat n210)) = some (.slice a275 l276 c277) ∧ (
                                                            Does Try.prog 33 [(.pointer p6), (.slice a275 l276 c277), (.int .i64 (n37 - 1))] H211 fun v278 H279 => ∃ a280 : Option Addr, ∃ l281 : Nat, ∃ c282 : Nat, v278 = (.slice a280 l281 c282) ∧ (
                                                            (0 : Int) ≤ n210 ∧ (n210 : Int) < (l14 : Int) ∧ ∃ b283 o284 : Nat, a13 = some (⟨b283, o284, none⟩ : Addr) ∧ (
                                                            Cells H279 b283 (o284 + (Int.toNat n210)) 1 ∧ ∀ H285 : Heap, Puts H279 b283 (o284 + (Int.toNat n210)) [(.slice a280 l281 c282)] H285 → (
                                                            (0 : Int) ≤ n210 ∧ (n210 : Int) < (l17 : Int) ∧ ∃ b286 o287 : Nat, a16 = some (⟨b286, o287, none⟩ : Addr) ∧ (
                                                            ∃ a288 : Option Addr, ∃ l289 : Nat, ∃ c290 : Nat, hcell H285 b286 (o287 + (Int.toNat n210)) = some (.slice a288 l289 c290) ∧ (
                                                            Does Try.prog 34 [(.pointer p7), (.slice a288 l289 c290), (.int .i64 (n37 - 1))] H285 fun v291 H292 => ∃ a293 : Option Addr, ∃ l294 : Nat, ∃ c295 : Nat, v291 = (.slice a293 l294 c295) ∧ (
                                                            (0 : Int) ≤ n210 ∧ (n210 : Int) < (l17 : Int) ∧ ∃ b296 o297 : Nat, a16 = some (⟨b296, o297, none⟩ : Addr) ∧ (
                                                            Cells H292 b296 (o297 + (Int.toNat n210)) 1 ∧ ∀ H298 : Heap, Puts H292 b296 (o297 + (Int.toNat n210)) [(.slice a293 l294 c295)] H298 → (
                                                            (0 : Int) ≤ n210 ∧ (n210 : Int) < (l14 : Int) ∧ ∃ b299 o300 : Nat, a13 = some (⟨b299, o300, none⟩ : Addr) ∧ (
                                                            ∃ a301 : Option Addr, ∃ l302 : Nat, ∃ c303 : Nat, hcell H298 b299 (o300 + (Int.toNat n210)) = some (.slice a301 l302 c303) ∧ (
                                                            (0 : Int) ≤ n210 ∧ (n210 : Int) < (l17 : Int) ∧ ∃ b304 o305 : Nat, a16 = some (⟨b304, o305, none⟩ : Addr) ∧ (
                                                            ∃ a306 : Option Addr, ∃ l307 : Nat, ∃ c308 : Nat, hcell H298 b304 (o305 + (Int.toNat n210)) = some (.slice a306 l307 c308) ∧ (
                                                            Does Try.prog 31 [(.slice a301 l302 c303), (.slice a306 l307 c308)] H298 fun v309 H310 => ∃ t311 : Bool, v309 = (.bool t311) ∧ (
                                                            ((((t311 = false) → (
                                                            R (.bool false) H310)) ∧ (¬ (t311 = false) → (
                                                            I212 a13 l14 c15 a16 l17 c18 H310)))))))))))))))))))))))))) ∧
                                                            ∀ a312 : Option Addr, ∀ l313 : Nat, ∀ c314 : Nat, ∀ a315 : Option Addr, ∀ l316 : Nat, ∀ c317 : Nat, ∀ H318 : Heap, I212 a312 l313 c314 a315 l316 c317 H318 → (
                                                            Does Try.prog 35 [(.pointer p6), (.pointer p7)] H318 fun v319 H320 => ∃ t321 : Bool, v319 = (.bool t321) ∧ (
                                                            (((t321 = false) → (
                                                            R (.bool false) H320)) ∧ (¬ (t321 = false) → (
                                                            ∃ I322 : Int → Heap → Prop, ∃ μ323 : Int → Heap → Nat, (I322 0 H320) ∧
                                                            ∀ n324 : Int, ∀ H325 : Heap, I322 n324 H325 → (
                                                            ((((n324 : Int) < (l313 : Int)) → (
                                                            (0 : Int) ≤ n324 ∧ (n324 : Int) < (l313 : Int) ∧ ∃ b326 o327 : Nat, a312 = some (⟨b326, o327, none⟩ : Addr) ∧ (
                                                            ∃ a328 : Option Addr, ∃ l329 : Nat, ∃ c330 : Nat, hcell H325 b326 (o327 + (Int.toNat n324)) = some (.slice a328 l329 c330) ∧ (
                                                            Does Try.prog 36 [(.slice a328 l329 c330), (.int .i64 (n37 - 1))] H325 fun v331 H332 => ∃ n333 : Int, ∃ t334 : Bool, v331 = (.tuple #[(.int .i64 n333), (.bool t334)]) ∧ (
                                                            (0 : Int) ≤ n324 ∧ (n324 : Int) < (l316 : Int) ∧ ∃ b335 o336 : Nat, a315 = some (⟨b335, o336, none⟩ : Addr) ∧ (
                                                            ∃ a337 : Option Addr, ∃ l338 : Nat, ∃ c339 : Nat, hcell H332 b335 (o336 + (Int.toNat n324)) = some (.slice a337 l338 c339) ∧ (
                                                            Does Try.prog 37 [(.slice a337 l338 c339), (.int .i64 (n37 - 1))] H332 fun v340 H341 => ∃ n342 : Int, ∃ t343 : Bool, v340 = (.tuple #[(.int .i64 n342), (.bool t343)]) ∧ (
                                                            ((((n333 : Int) ≠ n342) → (
                                                            R (.bool false) H341)) ∧ (¬ ((n333 : Int) ≠ n342) → (
                                                            (((¬ ((t334 = true) ↔ (t343 = true))) → (
                                                            R (.bool false) H341)) ∧ (¬ (¬ ((t334 = true) ↔ (t343 = true))) → (
                                                            (0 : Int) ≤ n324 ∧ (n324 : Int) < (l313 : Int) ∧ ∃ b344 o345 : Nat, a312 = some (⟨b344, o345, none⟩ : Addr) ∧ (
                                                            ∃ a346 : Option Addr, ∃ l347 : Nat, ∃ c348 : Nat, hcell H341 b344 (o345 + (Int.toNat n324)) = some (.slice a346 l347 c348) ∧ (
                                                            (0 : Int) ≤ n324 ∧ (n324 : Int) < (l316 : Int) ∧ ∃ b349 o350 : Nat, a315 = some (⟨b349, o350, none⟩ : Addr) ∧ (
                                                            ∃ a351 : Option Addr, ∃ l352 : Nat, ∃ c353 : Nat, hcell H341 b349 (o350 + (Int.toNat n324)) = some (.slice a351 l352 c353) ∧ (
                                                            Does Try.prog 38 [(.slice a346 l347 c348)] H341 fun v354 H355 => ∃ n356 : Int, v354 = (.int .i64 n356) ∧ (
                                                            isL H355 b349 (o350 + (Int.toNat n324)) [(.slice a351 l352 c353)] ∧ (Does Try.prog 39 [(.slice a351 l352 c353)] H355 fun v357 H358 => ∃ n359 : Int, v357 = (.int .i64 n359) ∧ (
                                                            (((((n356 : Int) ≠ n359) → (
                                                            R (.bool false) H358)) ∧ (¬ ((n356 : Int) ≠ n359) → (
                                                            (0 : Int) ≤ n324 ∧ (n324 : Int) < (l313 : Int) ∧ ∃ b360 o361 : Nat, a312 = some (⟨b360, o361, none⟩ : Addr) ∧ (
                                                            ∃ a362 : Option Addr, ∃ l363 : Nat, ∃ c364 : Nat, hcell H358 b360 (o361 + (Int.toNat n324)) = some (.slice a362 l363 c364) ∧ (
                                                            Does Try.prog 40 [(.slice a362 l363 c364), (.int .i64 0), (.int .i64 (1 + n3))] H358 fun v365 H366 => ∃ t367 : Bool, v365 = (.bool t367) ∧ (
                                                            ((((t367 = false) → (
                                                            R (.bool false) H366)) ∧ (¬ (t367 = false) → (
                                                            (In64 (n324 + 1)) ∧
                                                            (I322 (n324 + 1) H366) ∧ μ323 (n324 + 1) H366 < μ323 n324 H325)))))))))))))))))))))))))))))))) ∧ (¬ ((n324 : Int) < (l313 : Int)) → (
                                                            (In64 (n19 + 1)) ∧
                                                            (I11 a312 l313 c314 a315 l316 c317 (n19 + 1) H325) ∧ μ12 a312 l313 c314 a315 l316 c317 (n19 + 1) H325 < μ12 a13 l14 c15 a16 l17 c18 n19 H20)))))))))))))))))))))))))))) ∧ (¬ ((n19 : Int) < 30) → (
                                  R (.bool true) H20))))) ∧ (¬ ((n19 : Int) < (x2l : Int)) → (
                            R (.bool true) H20)))))))))))))) := by kernel_rfl


/-- pentimento/pentimentolaw7.ExtentApart -/
theorem vc_eapart (x0 : Int) (x1 : Option Addr) (x1l : Nat) (x1c : Nat) (x2 : Option Addr) (x2l : Nat) (x2c : Nat) (x3 : Option Addr) (x3l : Nat) (x3c : Nat) (H : Heap) (R : Value → Heap → Prop) : Walk Try.prog 8 [] [(.int .i64 x0), (.slice x1 x1l x1c), (.slice x2 x2l x2c), (.slice x3 x3l x3c)] H R = (
  Does Try.prog 11 [(.int .i64 x0), (.int .i64 60)] H fun v1 H2 => ∃ n3 : Int, v1 = (.int .i64 n3) ∧ (
    (In64 (8 + n3)) ∧
    Does Try.prog 27 [(.int .i64 (8 + n3)), (.slice x1 x1l x1c)] H2 fun v4 H5 => ∃ p6 : Option Addr, ∃ p7 : Option Addr, v4 = (.tuple #[(.pointer p6), (.pointer p7)]) ∧ (
      Does Try.prog 28 [] H5 fun v8 H9 => ∃ t10 : Bool, v8 = (.bool t10) ∧ (
        (((t10 = false) → (
              R (.bool false) H9)) ∧ (¬ (t10 = false) → (
              ((((p6 : Option Addr) = none) → (
                    R (.bool false) H9)) ∧ (¬ ((p6 : Option Addr) = none) → (
                    ∃ I11 : Option Addr → Nat → Nat → Int → Heap → Prop, ∃ μ12 : Option Addr → Nat → Nat → Int → Heap → Nat, (I11 none 0 0 0 H9) ∧
                    ∀ a13 : Option Addr, ∀ l14 : Nat, ∀ c15 : Nat, ∀ n16 : Int, ∀ H17 : Heap, I11 a13 l14 c15 n16 H17 → (
                      ((((n16 : Int) < (x2l : Int)) → (
                            ((((n16 : Int) < 12) → (
                                  (0 : Int) ≤ n16 ∧ (n16 : Int) < (x2l : Int) ∧ ∃ b18 o19 : Nat, x2 = some (⟨b18, o19, none⟩ : Addr) ∧ (
                                    ∃ n20 : Int, hcell H17 b18 (o19 + (Int.toNat n16)) = some (.int .i64 n20) ∧ (
                                      Does Try.prog 11 [(.int .i64 n20), (.int .i64 9)] H17 fun v21 H22 => ∃ n23 : Int, v21 = (.int .i64 n23) ∧ (
                                        Does Try.prog 23 [(.pointer p6)] H22 fun v24 H25 => ∃ p26 : Option Addr, v24 = (.pointer p26) ∧ (
                                          Does Try.prog 29 [(.pointer p6), (.int .i64 0), (.int .i64 n23)] H25 fun v27 H28 => ∃ a29 : Option Addr, ∃ l30 : Nat, ∃ c31 : Nat, ∃ t32 : Bool, v27 = (.tuple #[(.slice a29 l30 c31), (.bool t32)]) ∧ (
                                            ((((p26 : Option Addr) = none) → (
                                                  R (.bool false) H28)) ∧ (¬ ((p26 : Option Addr) = none) → (
                                                  (((t32 = false) → (
                                                        Does Try.prog 18 [(.pointer p26)] H28 fun v33 H34 => ∃ a35 : Option Addr, ∃ l36 : Nat, ∃ c37 : Nat, v33 = (.slice a35 l36 c37) ∧ (
                                                          (∃ l38 : List UInt8, SRow H34 1 l36 (.slice a35 l36 c37) (List.map (fun (b : UInt8) => Value.int .u8 b.toNat) l38) ∧ (
                                                            Does Try.prog 18 [(.pointer p6)] H34 fun v39 H40 => ∃ a41 : Option Addr, ∃ l42 : Nat, ∃ c43 : Nat, v39 = (.slice a41 l42 c43) ∧ (
                                                            SRow H40 1 l36 (.slice a35 l36 c37) (List.map (fun (b : UInt8) => Value.int .u8 b.toNat) l38) ∧ (∃ l44 : List UInt8, SRow H40 1 l42 (.slice a41 l42 c43) (List.map (fun (b : UInt8) => Value.int .u8 b.toNat) l44) ∧ (
                                                            (((((ByteArray.mk (List.toArray l38)) : ByteArray) ≠ (ByteArray.mk (List.toArray l44))) → (
                                                            R (.bool false) H40)) ∧ (¬ (((ByteArray.mk (List.toArray l38)) : ByteArray) ≠ (ByteArray.mk (List.toArray l44))) → (
                                                            (In64 (n16 + 1)) ∧
                                                            (I11 a13 l14 c15 (n16 + 1) H40) ∧ μ12 a13 l14 c15 (n16 + 1) H40 < μ12 a13 l14 c15 n16 H17))))))))))) ∧ (¬ (t32 = false) → (
                                                        Does Try.prog 38 [(.slice a29 l30 c31)] H28 fun v45 H46 => ∃ n47 : Int, v45 = (.int .i64 n47) ∧ (
                                                          ((((n47 : Int) ≠ n23) → (
                                                            R (.bool false) H46)) ∧ (¬ ((n47 : Int) ≠ n23) → (
                                                            Does Try.prog 17 [(.pointer p26)] H46 fun v48 H49 => ∃ n50 : Int, v48 = (.int .i64 n50) ∧ (
                                                            Does Try.prog 17 [(.pointer p6)] H49 fun v51 H52 => ∃ n53 : Int, v51 = (.int .i64 n53) ∧ (
                                                            (In64 (n50 - n53)) ∧
                                                            (((((n50 - n53) : Int) ≠ n23) → (
                                                            R (.bool false) H52)) ∧ (¬ (((n50 - n53) : Int) ≠ n23) → (
                                                            Does Try.prog 40 [(.slice a29 l30 c31), (.int .i64 0), (.int .i64 (8 + n3))] H52 fun v54 H55 => ∃ t56 : Bool, v54 = (.bool t56) ∧ (
                                                            (((t56 = false) → (
                                                            R (.bool false) H55)) ∧ (¬ (t56 = false) → (
                                                            ∃ I57 : Int → Int → Heap → Prop, ∃ μ58 : Int → Int → Heap → Nat, (I57 (-1) 0 H55) ∧
                                                            ∀ n59 : Int, ∀ n60 : Int, ∀ H61 : Heap, I57 n59 n60 H61 → (
                                                            ((((n60 : Int) < n23) → (
                                                            Does Try.prog 36 [(.slice a29 l30 c31), (.int .i64 n60)] H61 fun v62 H63 => ∃ n64 : Int, ∃ t65 : Bool, v62 = (.tuple #[(.int .i64 n64), (.bool t65)]) ∧ (
                                                            (((t65 = false) → (
                                                            R (.bool false) H63)) ∧ (¬ (t65 = false) → (
                                                            ((((n64 : Int) ≤ n59) → (
                                                            R (.bool false) H63)) ∧ (¬ ((n64 : Int) ≤ n59) → (
                                                            Does Try.prog 16 [(.pointer p26), (.int .i64 n64)] H63 fun v66 H67 => ∃ t68 : Bool, v66 = (.bool t68) ∧ (
                                                            ((t68 = true → (
                                                            R (.bool false) H67)) ∧ (t68 = false → (
                                                            Does Try.prog 16 [(.pointer p6), (.int .i64 n64)] H67 fun v69 H70 => ∃ t71 : Bool, v69 = (.bool t71) ∧ (
                                                            (((t71 = false) → (
                                                            R (.bool false) H70)) ∧ (¬ (t71 = false) → (
                                                            (In64 (n59 + 1)) ∧
                                                            ∃ I72 : Int → Heap → Prop, ∃ μ73 : Int → Heap → Nat, (I72 (n59 + 1) H70) ∧
                                                            ∀ n74 : Int, ∀ H75 : Heap, I72 n74 H75 → (
                                                            ((((n74 : Int) < n64) → (
                                                            Does Try.prog 16 [(.pointer p26), (.int .i64 n74)] H75 fun v76 H77 => ∃ t78 : Bool, v76 = (.bool t78) ∧ (
                                                            (((t78 = false) → (
                                                            R (.bool false) H77)) ∧ (¬ (t78 = false) → (
                                                            (In64 (n74 + 1)) ∧
                                                            (I72 (n74 + 1) H77) ∧ μ73 (n74 + 1) H77 < μ73 n74 H75)))))) ∧ (¬ ((n74 : Int) < n64) → (
                                                            (In64 (n60 + 1)) ∧
                                                            (I57 n64 (n60 + 1) H75) ∧ μ58 n64 (n60 + 1) H75 < μ58 n59 n60 H61))))))))))))))))))))) ∧ (¬ ((n60 : Int) < n23) → (
                                                            ∀ b79 : Nat, ∀ H80 : Heap, New H61 b79 [(.slice a29 l30 c31)] 57 H80 → (
                                                            ∃ old81 new82 : List Value, SRow H80 1 l14 (.slice a13 l14 c15) old81 ∧ SRow H80 1 1 (.slice (some (⟨b79, 0, none⟩ : Addr)) 1 1) new82 ∧ (∀ u ∈ new82, Value.oneCell' u = true) ∧ (l14 + 1) * 24 ≤ 140737488355328 ∧ (l14 + 1 ≤ c15 → roomOf H80 a13 (l14 * 1) (1 * 1)) ∧ ∀ a83 : Option Addr, ∀ c84 : Nat, ∀ H85 : Heap, App H80 1 57 [(.slice none 0 0)] a13 l14 c15 old81 new82 1 a83 c84 H85 → (
                                                            ((((n16 : Int) < (x3l : Int)) → (
                                                            (0 : Int) ≤ n16 ∧ (n16 : Int) < (x3l : Int) ∧ ∃ b86 o87 : Nat, x3 = some (⟨b86, o87, none⟩ : Addr) ∧ (
                                                            ∃ t88 : Bool, hcell H85 b86 (o87 + (Int.toNat n16)) = some (.bool t88) ∧ (
                                                            ((t88 = true → (
                                                            (0 : Int) ≤ 0 ∧ (0 : Int) < ((l14 + 1) : Int) ∧ ∃ b89 o90 : Nat, a83 = some (⟨b89, o90, none⟩ : Addr) ∧ (
                                                            ∃ a91 : Option Addr, ∃ l92 : Nat, ∃ c93 : Nat, hcell H85 b89 (o90 + (Int.toNat 0)) = some (.slice a91 l92 c93) ∧ (
                                                            Does Try.prog 17 [(.pointer p6)] H85 fun v94 H95 => ∃ n96 : Int, v94 = (.int .i64 n96) ∧ (
                                                            Does Try.prog 33 [(.pointer p6), (.slice a91 l92 c93), (.int .i64 0)] H95 fun v97 H98 => ∃ a99 : Option Addr, ∃ l100 : Nat, ∃ c101 : Nat, v97 = (.slice a99 l100 c101) ∧ (
                                                            (((((l100 : Int) : Int) ≠ 0) → (
                                                            R (.bool false) H98)) ∧ (¬ (((l100 : Int) : Int) ≠ 0) → (
                                                            Does Try.prog 17 [(.pointer p6)] H98 fun v102 H103 => ∃ n104 : Int, v102 = (.int .i64 n104) ∧ (
                                                            Does Try.prog 38 [(.slice a91 l92 c93)] H103 fun v105 H106 => ∃ n107 : Int, v105 = (.int .i64 n107) ∧ (
                                                            (In64 (n96 + n107)) ∧
                                                            ((((n104 : Int) ≠ (n96 + n107)) → (
                                                            R (.bool false) H106)) ∧ (¬ ((n104 : Int) ≠ (n96 + n107)) → (
                                                            (0 : Int) ≤ 1 ∧ (1 : Int) ≤ ((l14 + 1) : Int) ∧ ∀ a108 : Option Addr, a108 = (if c84 = (Int.toNat 1) then a83 else Option.map (fun x => Addr.add x ((Int.toNat 1) * 1)) a83) → (
                                                            (In64 (n16 + 1)) ∧
                                                            (I11 a108 ((l14 + 1) - (Int.toNat 1)) (c84 - (Int.toNat 1)) (n16 + 1) H106) ∧ μ12 a108 ((l14 + 1) - (Int.toNat 1)) (c84 - (Int.toNat 1)) (n16 + 1) H106 < μ12 a13 l14 c15 n16 H17))))))))))))))) ∧ (t88 = false → (
                                                            (In64 (n16 + 1)) ∧
                                                            (I11 a83 (l14 + 1) c84 (n16 + 1) H85) ∧ μ12 a83 (l14 + 1) c84 (n16 + 1) H85 < μ12 a13 l14 c15 n16 H17))))))) ∧ (¬ ((n16 : Int) < (x3l : Int)) → (
                                                            (In64 (n16 + 1)) ∧
                                                            (I11 a83 (l14 + 1) c84 (n16 + 1) H85) ∧ μ12 a83 (l14 + 1) c84 (n16 + 1) H85 < μ12 a13 l14 c15 n16 H17))))))))))))))))))))))))))))))))))) ∧ (¬ ((n16 : Int) < 12) → (
                                  R (.bool true) H17))))) ∧ (¬ ((n16 : Int) < (x2l : Int)) → (
                            R (.bool true) H17)))))))))))))) := by kernel_rfl


/-- pentimento/pentimentolaw7.ExtentKnown -/
theorem vc_eknown (H : Heap) (R : Value → Heap → Prop) : Walk Try.prog 9 [] [] H R = (
  ∀ b1 : Nat, ∀ H2 : Heap, New H b1 [(.int .i64 1), (.int .i64 3), (.int .i64 5), (.int .i64 7), (.int .i64 9), (.int .i64 11), (.int .i64 13)] 3 H2 → (
    Does Try.prog 27 [(.int .i64 16), (.slice (some (⟨b1, 0, none⟩ : Addr)) 7 7)] H2 fun v3 H4 => ∃ p5 : Option Addr, ∃ p6 : Option Addr, v3 = (.tuple #[(.pointer p5), (.pointer p6)]) ∧ (
      Does Try.prog 28 [] H4 fun v7 H8 => ∃ t9 : Bool, v7 = (.bool t9) ∧ (
        (((t9 = false) → (
              R (.bool false) H8)) ∧ (¬ (t9 = false) → (
              ((((p5 : Option Addr) = none) → (
                    R (.bool false) H8)) ∧ (¬ ((p5 : Option Addr) = none) → (
                    Does Try.prog 29 [(.pointer p5), (.int .i64 0), (.int .i64 7)] H8 fun v10 H11 => ∃ a12 : Option Addr, ∃ l13 : Nat, ∃ c14 : Nat, ∃ t15 : Bool, v10 = (.tuple #[(.slice a12 l13 c14), (.bool t15)]) ∧ (
                      Does Try.prog 17 [(.pointer p5)] H11 fun v16 H17 => ∃ n18 : Int, v16 = (.int .i64 n18) ∧ (
                        Does Try.prog 29 [(.pointer p5), (.int .i64 0), (.int .i64 6)] H17 fun v19 H20 => ∃ a21 : Option Addr, ∃ l22 : Nat, ∃ c23 : Nat, ∃ t24 : Bool, v19 = (.tuple #[(.slice a21 l22 c23), (.bool t24)]) ∧ (
                          Does Try.prog 29 [(.pointer p5), (.int .i64 0), (.int .i64 9)] H20 fun v25 H26 => ∃ a27 : Option Addr, ∃ l28 : Nat, ∃ c29 : Nat, ∃ t30 : Bool, v25 = (.tuple #[(.slice a27 l28 c29), (.bool t30)]) ∧ (
                            Does Try.prog 33 [(.pointer p5), (.slice a21 l22 c23), (.int .i64 2)] H26 fun v31 H32 => ∃ a33 : Option Addr, ∃ l34 : Nat, ∃ c35 : Nat, v31 = (.slice a33 l34 c35) ∧ (
                              Does Try.prog 32 [(.pointer p5), (.slice a33 l34 c35), (.int .i64 4), (.int .i64 1)] H32 fun v36 H37 => ∃ a38 : Option Addr, ∃ l39 : Nat, ∃ c40 : Nat, ∃ t41 : Bool, v36 = (.tuple #[(.slice a38 l39 c40), (.bool t41)]) ∧ (
                                Does Try.prog 36 [(.slice a38 l39 c40), (.int .i64 2)] H37 fun v42 H43 => ∃ n44 : Int, ∃ t45 : Bool, v42 = (.tuple #[(.int .i64 n44), (.bool t45)]) ∧ (
                                  Does Try.prog 36 [(.slice a38 l39 c40), (.int .i64 3)] H43 fun v46 H47 => ∃ n48 : Int, ∃ t49 : Bool, v46 = (.tuple #[(.int .i64 n48), (.bool t49)]) ∧ (
                                    ∀ b50 : Nat, ∀ H51 : Heap, New H47 b50 [(.int .i64 2), (.int .i64 4611686018427387904)] 73 H51 → (
                                      Does Try.prog 32 [(.pointer p5), (.slice (some (⟨b50, 0, none⟩ : Addr)) 1 1), (.int .i64 0), (.int .i64 1)] H51 fun v52 H53 => ∃ a54 : Option Addr, ∃ l55 : Nat, ∃ c56 : Nat, ∃ t57 : Bool, v52 = (.tuple #[(.slice a54 l55 c56), (.bool t57)]) ∧ (
                                        (((t15 = false) → (
                                              ((((n18 : Int) = 9) → (
                                                    ((t24 = true → (
                                                          (((((l22 : Int) : Int) = 6) → (
                                                            (((t30 = false) → (
                                                            Does Try.prog 38 [(.slice a33 l34 c35)] H53 fun v58 H59 => ∃ n60 : Int, v58 = (.int .i64 n60) ∧ (
                                                            ((((n60 : Int) = 2) → (
                                                            ((t41 = true → (
                                                            (((((l39 : Int) : Int) = 3) → (
                                                            ((((n44 : Int) = 4) → (
                                                            ((t45 = true → (
                                                            (((t49 = false) → (
                                                            (((t57 = false) → (
                                                            Does Try.prog 41 [(.int .i64 0)] H59 fun v61 H62 => ∃ n63 : Int, v61 = (.int .i64 n63) ∧ (
                                                            ((((n63 : Int) = 0) → (
                                                            Does Try.prog 41 [(.int .i64 1)] H62 fun v64 H65 => ∃ n66 : Int, v64 = (.int .i64 n66) ∧ (
                                                            ((((n66 : Int) = 1) → (
                                                            Does Try.prog 41 [(.int .i64 128)] H65 fun v67 H68 => ∃ n69 : Int, v67 = (.int .i64 n69) ∧ (
                                                            ((((n69 : Int) = 1) → (
                                                            Does Try.prog 41 [(.int .i64 129)] H68 fun v70 H71 => ∃ n72 : Int, v70 = (.int .i64 n72) ∧ (
                                                            ((((n72 : Int) = 2) → (
                                                            Does Try.prog 40 [(.slice a38 l39 c40), (.int .i64 0), (.int .i64 16)] H71 fun v73 H74 => ∃ t75 : Bool, v73 = (.bool t75) ∧ (
                                                            ((t75 = true → (
                                                            Does Try.prog 40 [(.slice a38 l39 c40), (.int .i64 1), (.int .i64 16)] H74 fun v76 H77 => ∃ t78 : Bool, v76 = (.bool t78) ∧ (
                                                            (((t78 = false) → (
                                                            ∀ b79 : Nat, ∀ H80 : Heap, New H77 b79 [(.int .i64 0), (.int .i64 1), (.int .i64 1), (.int .i64 1)] 73 H80 → (
                                                            Does Try.prog 40 [(.slice (some (⟨b79, 0, none⟩ : Addr)) 2 2), (.int .i64 0), (.int .i64 9)] H80 fun v81 H82 => ∃ t83 : Bool, v81 = (.bool t83) ∧ (
                                                            (((t83 = false) → (
                                                            ∀ b84 : Nat, ∀ H85 : Heap, New H82 b84 [(.int .i64 0), (.int .i64 (-1))] 73 H85 → (
                                                            Does Try.prog 38 [(.slice (some (⟨b84, 0, none⟩ : Addr)) 1 1)] H85 fun v86 H87 => ∃ n88 : Int, v86 = (.int .i64 n88) ∧ (
                                                            R (.bool (@decide ((n88 : Int) = 0) (Classical.propDecidable _))) H87)))) ∧ (¬ (t83 = false) → (
                                                            R (.bool false) H82))))))) ∧ (¬ (t78 = false) → (
                                                            R (.bool false) H77)))))) ∧ (t75 = false → (
                                                            R (.bool false) H74)))))) ∧ (¬ ((n72 : Int) = 2) → (
                                                            R (.bool false) H71)))))) ∧ (¬ ((n69 : Int) = 1) → (
                                                            R (.bool false) H68)))))) ∧ (¬ ((n66 : Int) = 1) → (
                                                            R (.bool false) H65)))))) ∧ (¬ ((n63 : Int) = 0) → (
                                                            R (.bool false) H62)))))) ∧ (¬ (t57 = false) → (
                                                            R (.bool false) H59))))) ∧ (¬ (t49 = false) → (
                                                            R (.bool false) H59))))) ∧ (t45 = false → (
                                                            R (.bool false) H59))))) ∧ (¬ ((n44 : Int) = 4) → (
                                                            R (.bool false) H59))))) ∧ (¬ (((l39 : Int) : Int) = 3) → (
                                                            R (.bool false) H59))))) ∧ (t41 = false → (
                                                            R (.bool false) H59))))) ∧ (¬ ((n60 : Int) = 2) → (
                                                            R (.bool false) H59)))))) ∧ (¬ (t30 = false) → (
                                                            R (.bool false) H53))))) ∧ (¬ (((l22 : Int) : Int) = 6) → (
                                                            R (.bool false) H53))))) ∧ (t24 = false → (
                                                          R (.bool false) H53))))) ∧ (¬ ((n18 : Int) = 9) → (
                                                    R (.bool false) H53))))) ∧ (¬ (t15 = false) → (
                                              R (.bool false) H53))))))))))))))))))))))) := by kernel_rfl


/-- pentimento/pentimentolaw7.ExtentRaw -/
theorem vc_eraw (x0 : Option Addr) (x0l : Nat) (x0c : Nat) (x1 : Bool) (x2 : Int) (x3 : Int) (x4 : Int) (x5 : Int) (x6 : Int) (H : Heap) (R : Value → Heap → Prop) : Walk Try.prog 10 [(9, []), (13, [(2, (.int .i64 0)), (3, (.int .i64 0))]), (29, [(6, (.int .i64 0))])] [(.slice x0 x0l x0c), (.bool x1), (.int .i64 x2), (.int .i64 x3), (.int .i64 x4), (.int .i64 x5), (.int .i64 x6)] H R = (
  ∃ I1 : Option Addr → Nat → Nat → Int → Heap → Prop, ∃ μ2 : Option Addr → Nat → Nat → Int → Heap → Nat, (I1 none 0 0 0 H) ∧
  ∀ a3 : Option Addr, ∀ l4 : Nat, ∀ c5 : Nat, ∀ n6 : Int, ∀ H7 : Heap, I1 a3 l4 c5 n6 H7 → (
    ((((n6 : Int) < (x0l : Int)) → (
          ((((n6 : Int) < 8) → (
                (0 : Int) ≤ n6 ∧ (n6 : Int) < (x0l : Int) ∧ ∃ b8 o9 : Nat, x0 = some (⟨b8, o9, none⟩ : Addr) ∧ (
                  ∃ n10 : Int, hcell H7 b8 (o9 + (Int.toNat n6) * 2) = some (.int .i64 n10) ∧ (
                    ∃ n11 : Int, hcell H7 b8 ((o9 + (Int.toNat n6) * 2) + 1) = some (.int .i64 n11) ∧ (
                      ∀ b12 : Nat, ∀ H13 : Heap, New H7 b12 [(.int .i64 0), (.int .i64 0)] 73 H13 → (
                        Cells H13 b12 0 2 ∧ ∀ H14 : Heap, Puts H13 b12 0 [(.int .i64 n10), (.int .i64 n11)] H14 → (
                          ∃ I15 : Heap → Prop, (
                            ((x1 = true → (
                                  ∃ n16 : Int, hcell H14 b12 0 = some (.int .i64 n16) ∧ (
                                    Does Try.prog 11 [(.int .i64 n16), (.int .i64 40)] H14 fun v17 H18 => ∃ n19 : Int, v17 = (.int .i64 n19) ∧ (
                                      (In64 (n19 - 1)) ∧
                                      Cells H18 b12 0 1 ∧ ∀ H20 : Heap, Puts H18 b12 0 [(.int .i64 (n19 - 1))] H20 → (
                                        ∃ n21 : Int, hcell H20 b12 (0 + 1) = some (.int .i64 n21) ∧ (
                                          Does Try.prog 11 [(.int .i64 n21), (.int .i64 7)] H20 fun v22 H23 => ∃ n24 : Int, v22 = (.int .i64 n24) ∧ (
                                            Cells H23 b12 (0 + 1) 1 ∧ ∀ H25 : Heap, Puts H23 b12 (0 + 1) [(.int .i64 n24)] H25 → (
                                              I15 H25)))))))) ∧ (x1 = false → (
                                  I15 H14)))) ∧
                          ∀ H26 : Heap, I15 H26 → (
                            ∃ n27 : Int, hcell H26 b12 0 = some (.int .i64 n27) ∧ (
                              ∃ n28 : Int, hcell H26 b12 (0 + 1) = some (.int .i64 n28) ∧ (
                                ∀ b29 : Nat, ∀ H30 : Heap, New H26 b29 [(.int .i64 n27), (.int .i64 n28)] 73 H30 → (
                                  ∃ old31 new32 : List Value, SRow H30 2 l4 (.slice a3 l4 c5) old31 ∧ SRow H30 2 1 (.slice (some (⟨b29, 0, none⟩ : Addr)) 1 1) new32 ∧ (∀ u ∈ new32, Value.oneCell' u = true) ∧ (l4 + 1) * 16 ≤ 140737488355328 ∧ (l4 + 1 ≤ c5 → roomOf H30 a3 (l4 * 2) (1 * 2)) ∧ ∀ a33 : Option Addr, ∀ c34 : Nat, ∀ H35 : Heap, App H30 2 73 [(.int .i64 0), (.int .i64 0)] a3 l4 c5 old31 new32 1 a33 c34 H35 → (
                                    (In64 (n6 + 1)) ∧
                                    (I1 a33 (l4 + 1) c34 (n6 + 1) H35) ∧ μ2 a33 (l4 + 1) c34 (n6 + 1) H35 < μ2 a3 l4 c5 n6 H7)))))))))))) ∧ (¬ ((n6 : Int) < 8) → (
                ∃ I36 : Int → Int → Heap → Prop, (
                  ((x1 = true → (
                        Does Try.prog 11 [(.int .i64 x2), (.int .i64 6)] H7 fun v37 H38 => ∃ n39 : Int, v37 = (.int .i64 n39) ∧ (
                          Does Try.prog 11 [(.int .i64 x3), (.int .i64 60)] H38 fun v40 H41 => ∃ n42 : Int, v40 = (.int .i64 n42) ∧ (
                            I36 n39 n42 H41)))) ∧ (x1 = false → (
                        I36 x2 x3 H7)))) ∧
                ∀ n43 : Int, ∀ n44 : Int, ∀ H45 : Heap, I36 n43 n44 H45 → (
                  Does Try.prog 11 [(.int .i64 x4), (.int .i64 40)] H45 fun v46 H47 => ∃ n48 : Int, v46 = (.int .i64 n48) ∧ (
                    (In64 (n48 - 2)) ∧
                    Does Try.prog 27 [(.int .i64 40), (.slice none 0 0)] H47 fun v49 H50 => ∃ p51 : Option Addr, ∃ p52 : Option Addr, v49 = (.tuple #[(.pointer p51), (.pointer p52)]) ∧ (
                      Does Try.prog 28 [] H50 fun v53 H54 => ∃ t55 : Bool, v53 = (.bool t55) ∧ (
                        (((t55 = false) → (
                              R (.bool false) H54)) ∧ (¬ (t55 = false) → (
                              ((((p51 : Option Addr) = none) → (
                                    R (.bool false) H54)) ∧ (¬ ((p51 : Option Addr) = none) → (
                                    Does Try.prog 36 [(.slice a3 l4 c5), (.int .i64 (n48 - 2))] H54 fun v56 H57 => ∃ n58 : Int, ∃ t59 : Bool, v56 = (.tuple #[(.int .i64 n58), (.bool t59)]) ∧ (
                                      Does Try.prog 37 [(.slice a3 l4 c5), (.int .i64 (n48 - 2))] H57 fun v60 H61 => ∃ n62 : Int, ∃ t63 : Bool, v60 = (.tuple #[(.int .i64 n62), (.bool t63)]) ∧ (
                                        Does Try.prog 40 [(.slice a3 l4 c5), (.int .i64 (max 0 n43)), (.int .i64 (max 0 n44))] H61 fun v64 H65 => ∃ t66 : Bool, v64 = (.bool t66) ∧ (
                                          Does Try.prog 42 [(.slice a3 l4 c5), (.int .i64 (max 0 n43)), (.int .i64 (max 0 n44))] H65 fun v67 H68 => ∃ t69 : Bool, v67 = (.bool t69) ∧ (
                                            (((¬ ((t66 = true) ↔ (t69 = true))) → (
                                                  R (.bool false) H68)) ∧ (¬ (¬ ((t66 = true) ↔ (t69 = true))) → (
                                                  Does Try.prog 38 [(.slice a3 l4 c5)] H68 fun v70 H71 => ∃ n72 : Int, v70 = (.int .i64 n72) ∧ (
                                                    Does Try.prog 39 [(.slice a3 l4 c5)] H71 fun v73 H74 => ∃ n75 : Int, v73 = (.int .i64 n75) ∧ (
                                                      ((((n72 : Int) ≠ n75) → (
                                                            R (.bool false) H74)) ∧ (¬ ((n72 : Int) ≠ n75) → (
                                                            ((((n58 : Int) ≠ n62) → (
                                                            R (.bool false) H74)) ∧ (¬ ((n58 : Int) ≠ n62) → (
                                                            (((¬ ((t59 = true) ↔ (t63 = true))) → (
                                                            R (.bool false) H74)) ∧ (¬ (¬ ((t59 = true) ↔ (t63 = true))) → (
                                                            Does Try.prog 11 [(.int .i64 x5), (.int .i64 5)] H74 fun v76 H77 => ∃ n78 : Int, v76 = (.int .i64 n78) ∧ (
                                                            Does Try.prog 32 [(.pointer p51), (.slice a3 l4 c5), (.int .i64 0), (.int .i64 n78)] H77 fun v79 H80 => ∃ a81 : Option Addr, ∃ l82 : Nat, ∃ c83 : Nat, ∃ t84 : Bool, v79 = (.tuple #[(.slice a81 l82 c83), (.bool t84)]) ∧ (
                                                            Does Try.prog 11 [(.int .i64 x5), (.int .i64 5)] H80 fun v85 H86 => ∃ n87 : Int, v85 = (.int .i64 n87) ∧ (
                                                            Does Try.prog 30 [(.pointer p52), (.slice a3 l4 c5), (.int .i64 0), (.int .i64 n87)] H86 fun v88 H89 => ∃ a90 : Option Addr, ∃ l91 : Nat, ∃ c92 : Nat, ∃ t93 : Bool, v88 = (.tuple #[(.slice a90 l91 c92), (.bool t93)]) ∧ (
                                                            (((¬ ((t84 = true) ↔ (t93 = true))) → (
                                                            R (.bool false) H89)) ∧ (¬ (¬ ((t84 = true) ↔ (t93 = true))) → (
                                                            Does Try.prog 31 [(.slice a81 l82 c83), (.slice a90 l91 c92)] H89 fun v94 H95 => ∃ t96 : Bool, v94 = (.bool t96) ∧ (
                                                            (((t96 = false) → (
                                                            R (.bool false) H95)) ∧ (¬ (t96 = false) → (
                                                            ∃ I97 : Int → Heap → Prop, (
                                                            ((((1099511627776 : Int) < x6) → (
                                                            ((1099511627776 : Int) ≠ 0) ∧
                                                            ∀ q98 : Int, q98 = Int.tmod x6 1099511627776 → (
                                                            I97 q98 H95))) ∧ (¬ ((1099511627776 : Int) < x6) → (
                                                            ((((x6 : Int) < (-1099511627776)) → (
                                                            ((1099511627776 : Int) ≠ 0) ∧
                                                            ∀ q99 : Int, q99 = Int.tmod x6 1099511627776 → (
                                                            I97 q99 H95))) ∧ (¬ ((x6 : Int) < (-1099511627776)) → (
                                                            I97 x6 H95))))))) ∧
                                                            ∀ n100 : Int, ∀ H101 : Heap, I97 n100 H101 → (
                                                            Does Try.prog 33 [(.pointer p51), (.slice a3 l4 c5), (.int .i64 (n48 - 2))] H101 fun v102 H103 => ∃ a104 : Option Addr, ∃ l105 : Nat, ∃ c106 : Nat, v102 = (.slice a104 l105 c106) ∧ (
                                                            (Does Try.prog 34 [(.pointer p52), (.slice a3 l4 c5), (.int .i64 (n48 - 2))] H103 fun v107 H108 => ∃ a109 : Option Addr, ∃ l110 : Nat, ∃ c111 : Nat, v107 = (.slice a109 l110 c111) ∧ (
                                                            (Does Try.prog 31 [(.slice a104 l105 c106), (.slice a109 l110 c111)] H108 fun v112 H113 => ∃ t114 : Bool, v112 = (.bool t114) ∧ (
                                                            (((t114 = true → (
                                                            Does Try.prog 18 [(.pointer p51)] H113 fun v115 H116 => ∃ a117 : Option Addr, ∃ l118 : Nat, ∃ c119 : Nat, v115 = (.slice a117 l118 c119) ∧ (
                                                            (∃ l120 : List UInt8, SRow H116 1 l118 (.slice a117 l118 c119) (List.map (fun (b : UInt8) => Value.int .u8 b.toNat) l120) ∧ (
                                                            Does Try.prog 22 [(.pointer p52)] H116 fun v121 H122 => ∃ a123 : Option Addr, ∃ l124 : Nat, ∃ c125 : Nat, v121 = (.slice a123 l124 c125) ∧ (
                                                            SRow H122 1 l118 (.slice a117 l118 c119) (List.map (fun (b : UInt8) => Value.int .u8 b.toNat) l120) ∧ (∃ l126 : List UInt8, SRow H122 1 l124 (.slice a123 l124 c125) (List.map (fun (b : UInt8) => Value.int .u8 b.toNat) l126) ∧ (
                                                            (((((ByteArray.mk (List.toArray l120)) : ByteArray) = (ByteArray.mk (List.toArray l126))) → (
                                                            Does Try.prog 41 [(.int .i64 n100)] H122 fun v127 H128 => ∃ n129 : Int, v127 = (.int .i64 n129) ∧ (
                                                            (Does Try.prog 43 [(.int .i64 n100)] H128 fun v130 H131 => ∃ n132 : Int, v130 = (.int .i64 n132) ∧ (
                                                            (R (.bool (@decide ((n129 : Int) = n132) (Classical.propDecidable _))) H131)))))) ∧ (¬ (((ByteArray.mk (List.toArray l120)) : ByteArray) = (ByteArray.mk (List.toArray l126))) → (
                                                            R (.bool false) H122))))))))))) ∧ (t114 = false → (
                                                            R (.bool false) H113)))))))))))))))))))))))))))))))))))))))))))))))))))))) ∧ (¬ ((n6 : Int) < (x0l : Int)) → (
          ∃ I133 : Int → Int → Heap → Prop, (
            ((x1 = true → (
                  Does Try.prog 11 [(.int .i64 x2), (.int .i64 6)] H7 fun v134 H135 => ∃ n136 : Int, v134 = (.int .i64 n136) ∧ (
                    Does Try.prog 11 [(.int .i64 x3), (.int .i64 60)] H135 fun v137 H138 => ∃ n139 : Int, v137 = (.int .i64 n139) ∧ (
                      I133 n136 n139 H138)))) ∧ (x1 = false → (
                  I133 x2 x3 H7)))) ∧
          ∀ n140 : Int, ∀ n141 : Int, ∀ H142 : Heap, I133 n140 n141 H142 → (
            Does Try.prog 11 [(.int .i64 x4), (.int .i64 40)] H142 fun v143 H144 => ∃ n145 : Int, v143 = (.int .i64 n145) ∧ (
              (In64 (n145 - 2)) ∧
              Does Try.prog 27 [(.int .i64 40), (.slice none 0 0)] H144 fun v146 H147 => ∃ p148 : Option Addr, ∃ p149 : Option Addr, v146 = (.tuple #[(.pointer p148), (.pointer p149)]) ∧ (
                Does Try.prog 28 [] H147 fun v150 H151 => ∃ t152 : Bool, v150 = (.bool t152) ∧ (
                  (((t152 = false) → (
                        R (.bool false) H151)) ∧ (¬ (t152 = false) → (
                        ((((p148 : Option Addr) = none) → (
                              R (.bool false) H151)) ∧ (¬ ((p148 : Option Addr) = none) → (
                              Does Try.prog 36 [(.slice a3 l4 c5), (.int .i64 (n145 - 2))] H151 fun v153 H154 => ∃ n155 : Int, ∃ t156 : Bool, v153 = (.tuple #[(.int .i64 n155), (.bool t156)]) ∧ (
                                Does Try.prog 37 [(.slice a3 l4 c5), (.int .i64 (n145 - 2))] H154 fun v157 H158 => ∃ n159 : Int, ∃ t160 : Bool, v157 = (.tuple #[(.int .i64 n159), (.bool t160)]) ∧ (
                                  Does Try.prog 40 [(.slice a3 l4 c5), (.int .i64 (max 0 n140)), (.int .i64 (max 0 n141))] H158 fun v161 H162 => ∃ t163 : Bool, v161 = (.bool t163) ∧ (
                                    Does Try.prog 42 [(.slice a3 l4 c5), (.int .i64 (max 0 n140)), (.int .i64 (max 0 n141))] H162 fun v164 H165 => ∃ t166 : Bool, v164 = (.bool t166) ∧ (
                                      (((¬ ((t163 = true) ↔ (t166 = true))) → (
                                            R (.bool false) H165)) ∧ (¬ (¬ ((t163 = true) ↔ (t166 = true))) → (
                                            Does Try.prog 38 [(.slice a3 l4 c5)] H165 fun v167 H168 => ∃ n169 : Int, v167 = (.int .i64 n169) ∧ (
                                              Does Try.prog 39 [(.slice a3 l4 c5)] H168 fun v170 H171 => ∃ n172 : Int, v170 = (.int .i64 n172) ∧ (
                                                ((((n169 : Int) ≠ n172) → (
                                                      R (.bool false) H171)) ∧ (¬ ((n169 : Int) ≠ n172) → (
                                                      ((((n155 : Int) ≠ n159) → (
                                                            R (.bool false) H171)) ∧ (¬ ((n155 : Int) ≠ n159) → (
                                                            (((¬ ((t156 = true) ↔ (t160 = true))) → (
                                                            R (.bool false) H171)) ∧ (¬ (¬ ((t156 = true) ↔ (t160 = true))) → (
                                                            Does Try.prog 11 [(.int .i64 x5), (.int .i64 5)] H171 fun v173 H174 => ∃ n175 : Int, v173 = (.int .i64 n175) ∧ (
                                                            Does Try.prog 32 [(.pointer p148), (.slice a3 l4 c5), (.int .i64 0), (.int .i64 n175)] H174 fun v176 H177 => ∃ a178 : Option Addr, ∃ l179 : Nat, ∃ c180 : Nat, ∃ t181 : Bool, v176 = (.tuple #[(.slice a178 l179 c180), (.bool t181)]) ∧ (
                                                            Does Try.prog 11 [(.int .i64 x5), (.int .i64 5)] H177 fun v182 H183 => ∃ n184 : Int, v182 = (.int .i64 n184) ∧ (
                                                            Does Try.prog 30 [(.pointer p149), (.slice a3 l4 c5), (.int .i64 0), (.int .i64 n184)] H183 fun v185 H186 => ∃ a187 : Option Addr, ∃ l188 : Nat, ∃ c189 : Nat, ∃ t190 : Bool, v185 = (.tuple #[(.slice a187 l188 c189), (.bool t190)]) ∧ (
                                                            (((¬ ((t181 = true) ↔ (t190 = true))) → (
                                                            R (.bool false) H186)) ∧ (¬ (¬ ((t181 = true) ↔ (t190 = true))) → (
                                                            Does Try.prog 31 [(.slice a178 l179 c180), (.slice a187 l188 c189)] H186 fun v191 H192 => ∃ t193 : Bool, v191 = (.bool t193) ∧ (
                                                            (((t193 = false) → (
                                                            R (.bool false) H192)) ∧ (¬ (t193 = false) → (
                                                            ∃ I194 : Int → Heap → Prop, (
                                                            ((((1099511627776 : Int) < x6) → (
                                                            ((1099511627776 : Int) ≠ 0) ∧
                                                            ∀ q195 : Int, q195 = Int.tmod x6 1099511627776 → (
                                                            I194 q195 H192))) ∧ (¬ ((1099511627776 : Int) < x6) → (
                                                            ((((x6 : Int) < (-1099511627776)) → (
                                                            ((1099511627776 : Int) ≠ 0) ∧
                                                            ∀ q196 : Int, q196 = Int.tmod x6 1099511627776 → (
                                                            I194 q196 H192))) ∧ (¬ ((x6 : Int) < (-1099511627776)) → (
                                                            I194 x6 H192))))))) ∧
                                                            ∀ n197 : Int, ∀ H198 : Heap, I194 n197 H198 → (
                                                            Does Try.prog 33 [(.pointer p148), (.slice a3 l4 c5), (.int .i64 (n145 - 2))] H198 fun v199 H200 => ∃ a201 : Option Addr, ∃ l202 : Nat, ∃ c203 : Nat, v199 = (.slice a201 l202 c203) ∧ (
                                                            (Does Try.prog 34 [(.pointer p149), (.slice a3 l4 c5), (.int .i64 (n145 - 2))] H200 fun v204 H205 => ∃ a206 : Option Addr, ∃ l207 : Nat, ∃ c208 : Nat, v204 = (.slice a206 l207 c208) ∧ (
                                                            (Does Try.prog 31 [(.slice a201 l202 c203), (.slice a206 l207 c208)] H205 fun v209 H210 => ∃ t211 : Bool, v209 = (.bool t211) ∧ (
                                                            (((t211 = true → (
                                                            Does Try.prog 18 [(.pointer p148)] H210 fun v212 H213 => ∃ a214 : Option Addr, ∃ l215 : Nat, ∃ c216 : Nat, v212 = (.slice a214 l215 c216) ∧ (
                                                            (∃ l217 : List UInt8, SRow H213 1 l215 (.slice a214 l215 c216) (List.map (fun (b : UInt8) => Value.int .u8 b.toNat) l217) ∧ (
                                                            Does Try.prog 22 [(.pointer p149)] H213 fun v218 H219 => ∃ a220 : Option Addr, ∃ l221 : Nat, ∃ c222 : Nat, v218 = (.slice a220 l221 c222) ∧ (
                                                            SRow H219 1 l215 (.slice a214 l215 c216) (List.map (fun (b : UInt8) => Value.int .u8 b.toNat) l217) ∧ (∃ l223 : List UInt8, SRow H219 1 l221 (.slice a220 l221 c222) (List.map (fun (b : UInt8) => Value.int .u8 b.toNat) l223) ∧ (
                                                            (((((ByteArray.mk (List.toArray l217)) : ByteArray) = (ByteArray.mk (List.toArray l223))) → (
                                                            Does Try.prog 41 [(.int .i64 n197)] H219 fun v224 H225 => ∃ n226 : Int, v224 = (.int .i64 n226) ∧ (
                                                            (Does Try.prog 43 [(.int .i64 n197)] H225 fun v227 H228 => ∃ n229 : Int, v227 = (.int .i64 n229) ∧ (
                                                            (R (.bool (@decide ((n226 : Int) = n229) (Classical.propDecidable _))) H228)))))) ∧ (¬ (((ByteArray.mk (List.toArray l217)) : ByteArray) = (ByteArray.mk (List.toArray l223))) → (
                                                            R (.bool false) H219))))))))))) ∧ (t211 = false → (
                                                            R (.bool false) H210)))))))))))))))))))))))))))))))))))))))))))))))))))))) := by kernel_rfl


end Go.Proofs
end

section
open Go Go.Vc
namespace Go.Proofs

theorem freeb_ok {H : Heap} {pb : Nat} {a : Option Addr} {c : Nat} {bs : List Bool} (h : IsB H pb a c bs) : Does Try.prog 17 [.pointer (some ⟨pb, 0, none⟩)] H fun v H' => v = .int .i64 (cntF (onB bs) bs.length) ∧ H = H' := by
  obtain ⟨xs, hm, hb⟩ := h
  have : onB bs = bit xs := funext fun i => (hb.bits i).symm
  rw [this]
  exact free_ok hm

theorem GrowR.yes {H H' : Heap} {bs : List Bool} {l : List Pc} {k n : Int} {v : Value} {bs' : List Bool} (h : GrowR H H' bs l k n v bs') (hg : growOk bs l k n) {bs2 : List Bool} {out : List Pc} (e1 : setAll bs (foundF bs k n.toNat) true = bs2) (e2 : growF bs l k n = out) :
    bs' = bs2 ∧ ∃ a c, v = .tuple #[.slice a out.length c, .bool true] ∧ Own H' 2 a out.length c (piecesV out) ∧ (∀ k, k ∈ blkOf a → H.size ≤ k) := by
  subst e1; subst e2
  rcases h with ⟨h1, _⟩ | ⟨_, h2, h3⟩
  · exact absurd hg h1
  · exact ⟨h2, h3⟩

theorem GrowR.no {H H' : Heap} {bs : List Bool} {l : List Pc} {k n : Int} {v : Value} {bs' : List Bool} (h : GrowR H H' bs l k n v bs') (hg : ¬ growOk bs l k n) : v = .tuple #[.slice none 0 0, .bool false] ∧ bs' = bs := by
  rcases h with ⟨_, h1⟩ | ⟨h1, _⟩
  · exact h1
  · exact absurd h1 hg

theorem right_nil (a e : Int) : RightP [] a e := ⟨by simp, fun i p hp => by simp at hp⟩

theorem New.ints {H H' : Heap} {b : Nat} {xs : List Int} {e : TypeId} (h : New H b (intsV xs) e H') : Ints H' (some ⟨b, 0, none⟩) xs.length xs :=
  ⟨rfl, fun _ => ⟨by simp [intsV], rfl, fun j u hj => by
    show hcell H' b (0 + j) = some u
    rw [Nat.zero_add, h.blk.cell]; exact hj⟩⟩

theorem known7_ok (H : Heap) : Does Try.prog 28 [] H fun v H' => v = .bool true ∧ Ext [] H H' := by
  refine Fn_of_vc Try.mixed (vc_known7 _ _) ?_
  intro b1 H2 hn
  have hi : Ints H2 (some ⟨b1, 0, none⟩) 1 [1] := New.ints (xs := [1]) hn
  have hn2 : ∀ {x : Addr}, ¬ ((some x : Option Addr) = none) := by intro x e; cases e
  refine (of_ok hi 8 (by decide) (by decide)).mono ?_
  rintro _ H4 ⟨pb, bb, c, qb, rb, rfl, hp⟩
  refine ⟨_, _, rfl, fun e => absurd e hn2, fun _ => (take_ok hp.map 0 3 (by decide) (by decide) (by rw [ofF_length]; decide)).mono ?_⟩
  rintro _ H8 ⟨bs', hg, hb, hx⟩
  obtain ⟨rfl, a, c', rfl, ho, hf⟩ := GrowR.yes hg ⟨right_nil _ _, by decide +kernel⟩ (bs2 := [true, true, true, true, false, false, false, false]) (out := [⟨0, 1⟩, ⟨2, 2⟩]) (by decide +kernel) (by decide +kernel)
  have hpc := Own.pcs ho
  obtain ⟨b, o, rfl, k0, k1⟩ := hpc.get 0 ⟨0, 1⟩ rfl
  obtain ⟨b', o', e', k2, k3⟩ := hpc.get 1 ⟨2, 2⟩ rfl
  cases e'
  have hx' : Ext [] H H8 := (hn.ext.trans hp.ext).trans' hx (by intro i hi; simp only [blkOf, List.mem_singleton] at hi; subst hi; have := hp.fb; have := hn.ext.size; omega)
  refine ⟨_, _, _, _, rfl, fun _ => ⟨fun _ => ⟨by decide, by decide, b, o, rfl, _, k0, _, k1, fun _ => ⟨by decide, by decide, b, o, rfl, _, k2, _, k3, fun _ => (freeb_ok hb).mono ?_, fun e => absurd (by decide) e⟩, fun e => absurd (by decide) e⟩, fun e => absurd (by decide) e⟩, fun e => (by cases e)⟩
  rintro _ _ ⟨rfl, rfl⟩
  exact ⟨_, rfl, yes (by decide +kernel), hx'⟩

end Go.Proofs
end

section
open Go Go.Vc
namespace Go.Proofs

instance (a e : Int) (p : Pc) : Decidable (okP a e p) := by unfold okP; infer_instance
instance (q p : Pc) : Decidable (apartP q p) := by unfold apartP; infer_instance
instance (p : Pc) : Decidable (fewP p) := by unfold fewP; infer_instance

theorem all_get {l : List Pc} {P : Nat → Pc → Prop} : (∀ i p, l[i]? = some p → P i p) ↔ ∀ i : Fin l.length, P i.val l[i] := by
  constructor
  · intro h i
    exact h i.val _ (List.getElem?_eq_getElem i.isLt)
  · intro h i p hp
    obtain ⟨hi, rfl⟩ := List.getElem?_eq_some_iff.1 hp
    exact h ⟨i, hi⟩

instance (l : List Pc) (a e : Int) : Decidable (RightP l a e) :=
  decidable_of_iff (l.length ≤ 6 ∧ ∀ i : Fin l.length, okP a e l[i] ∧ ∀ k : Fin l.length, k.val < i.val → apartP l[k] l[i] ∧ (k.val + 1 = i.val → l[k].s + l[k].c ≠ l[i].s)) (by
    unfold RightP fitsP
    rw [all_get (P := fun i p => okP a e p ∧ ∀ k q, k < i → l[k]? = some q → apartP q p ∧ (k + 1 = i → q.s + q.c ≠ p.s))]
    refine and_congr_right fun _ => forall_congr' fun i => and_congr_right fun _ => ?_
    constructor
    · intro h k q hk hq
      obtain ⟨hi, rfl⟩ := List.getElem?_eq_some_iff.1 hq
      exact h ⟨k, hi⟩ hk
    · intro h k hk
      exact h k.val _ hk (List.getElem?_eq_getElem k.isLt))

instance (l : List Pc) : Decidable (SmallP l) :=
  decidable_of_iff (l.length ≤ 6 ∧ ∀ i : Fin l.length, fewP l[i]) (by
    unfold SmallP
    rw [all_get (P := fun _ p => fewP p)])

instance (bs : List Bool) (l : List Pc) (k n : Int) : Decidable (growOk bs l k n) := by unfold growOk; infer_instance

theorem countF_yes {l : List Pc} (h : SmallP l) : countF l = totalP l := by
  unfold countF
  rw [← decP_true h, if_pos rfl]
theorem countF_no {l : List Pc} (h : ¬ SmallP l) : countF l = 0 := by
  unfold countF
  rw [← decP_false h, if_neg (by decide)]

theorem ShrinkR.yes {H H' : Heap} {bs : List Bool} {l : List Pc} {n : Int} {v : Value} {bs' : List Bool} (h : ShrinkR H H' bs l n v bs') (hg : RightP l 0 bs.length) {bs2 : List Bool} {out : List Pc} (e1 : setAll bs ((blocksI l).drop n.toNat) false = bs2) (e2 : piecesF ((blocksI l).take n.toNat) = out) :
    bs' = bs2 ∧ ∃ a c, v = .slice a out.length c ∧ Own H' 2 a out.length c (piecesV out) ∧ (∀ k, k ∈ blkOf a → H.size ≤ k) := by
  subst e1; subst e2
  rcases h with ⟨h1, _⟩ | ⟨_, h2, h3⟩
  · exact absurd hg h1
  · exact ⟨h2, h3⟩

theorem New.pcsL {H H' : Heap} {b : Nat} {xs : List Pc} {e : TypeId} (h : New H b (piecesV xs) e H') : Pcs H' (some ⟨b, 0, none⟩) xs.length xs :=
  ⟨rfl, fun _ => ⟨piecesV_length xs, rfl, fun j u hj => by
    show hcell H' b (0 + j) = some u
    rw [Nat.zero_add, h.blk.cell]; exact hj⟩⟩

theorem eknown_law (H : Heap) : Does Try.prog 9 [] H fun v H' => v = .bool true ∧ Ext [] H H' := by
  refine Fn_of_vc Try.mixed (vc_eknown _ _) ?_
  intro b1 H2 hn
  have hi : Ints H2 (some ⟨b1, 0, none⟩) 7 [1, 3, 5, 7, 9, 11, 13] := New.ints (xs := [1, 3, 5, 7, 9, 11, 13]) hn
  have hn2 : ∀ {x : Addr}, ¬ ((some x : Option Addr) = none) := by intro x e; cases e
  refine (of_ok hi 16 (by decide) (by decide)).mono ?_
  rintro _ H4 ⟨pb, bb, c, qb, rb, rfl, hp⟩
  refine ⟨_, _, rfl, (known7_ok H4).mono ?_⟩
  rintro _ H8 ⟨rfl, hx8⟩
  have hp8 := hp.more hx8
  have hm8 := hp8.map
  have eb : ofF 16 [1, 3, 5, 7, 9, 11, 13] = [false, true, false, true, false, true, false, true, false, true, false, true, false, true, false, false] := by decide +kernel
  rw [eb] at hm8
  have s2 := hn.ext.size
  have fb := hp.fb
  have hxa : Ext [] H H8 := hn.ext.trans hp8.ext
  have tr : ∀ {A B}, Ext [] H A → Ext (blkOf (some ⟨bb, 0, none⟩)) A B → Ext [] H B := fun h1 h2 => h1.trans' h2 (by intro i hi; simp only [blkOf, List.mem_singleton] at hi; subst hi; omega)
  refine ⟨_, rfl, fun e => (by cases e), fun _ => ⟨fun e => absurd e hn2, fun _ => (take_ok hm8 0 7 (by decide) (by decide) (by decide)).mono ?_⟩⟩
  rintro _ H11 ⟨bs1, hg, hb11, hx11⟩
  obtain ⟨rfl, rfl⟩ := GrowR.no hg (by decide +kernel)
  have hx11' := tr hxa hx11
  refine ⟨_, _, _, _, rfl, (freeb_ok hb11).mono ?_⟩
  rintro _ _ ⟨rfl, rfl⟩
  refine ⟨_, rfl, (take_ok hb11 0 6 (by decide) (by decide) (by decide)).mono ?_⟩
  rintro _ H20 ⟨bs2, hg, hb20, hx20⟩
  obtain ⟨rfl, a21, c23, rfl, ho21, hf21⟩ := GrowR.yes hg (by decide +kernel) (bs2 := [true, true, true, true, true, true, true, true, true, true, true, true, false, true, false, false]) (out := [⟨0, 1⟩, ⟨2, 1⟩, ⟨4, 1⟩, ⟨6, 1⟩, ⟨8, 1⟩, ⟨10, 1⟩]) (by decide +kernel) (by decide +kernel)
  have hx20' := tr hx11' hx20
  refine ⟨_, _, _, _, rfl, (take_ok hb20 0 9 (by decide) (by decide) (by decide)).mono ?_⟩
  rintro _ H26 ⟨bs3, hg, hb26, hx26⟩
  obtain ⟨rfl, rfl⟩ := GrowR.no hg (by decide +kernel)
  have hx26' := tr hx20' hx26
  have lb := hb11.lt.2 bb (by simp [blkOf])
  have lb8 := hm8.lt.2 bb (by simp [blkOf])
  have ap : ∀ {a : Option Addr}, (∀ k, k ∈ blkOf a → H11.size ≤ k) → ∀ k, k ∈ blkOf a → k ∉ blkOf (some ⟨bb, 0, none⟩) := by
    intro a h1 k hk hk'
    simp only [blkOf, List.mem_singleton] at hk'
    subst hk'
    have := h1 _ hk
    omega
  have hpc21 := (Own.pcs ho21).ext hx26 (ap hf21)
  refine ⟨_, _, _, _, rfl, (shrink_ok hb26 hpc21 (ap hf21) ho21.2.1 2 (by decide) (by decide)).mono ?_⟩
  rintro _ H32 ⟨bs4, hs, hb32, hx32⟩
  obtain ⟨rfl, a33, c35, rfl, ho33, hf33⟩ := ShrinkR.yes hs (by decide +kernel) (bs2 := [true, true, true, true, false, true, false, true, false, true, false, true, false, true, false, false]) (out := [⟨0, 1⟩, ⟨2, 1⟩]) (by decide +kernel) (by decide +kernel)
  have hx32' := tr hx26' hx32
  have s20 := hx20.size
  have s26 := hx26.size
  have s32 := hx32.size
  refine ⟨_, _, _, rfl, (grow_ok hb32 (Own.pcs ho33) (ap fun k hk => by have := hf33 k hk; omega) ho33.2.1 4 1 (by decide) (by decide) (by decide)).mono ?_⟩
  rintro _ H37 ⟨bs5, hg, hb37, hx37⟩
  obtain ⟨rfl, a38, c40, rfl, ho38, hf38⟩ := GrowR.yes hg (by decide +kernel) (bs2 := [true, true, true, true, true, true, false, true, false, true, false, true, false, true, false, false]) (out := [⟨0, 1⟩, ⟨2, 1⟩, ⟨4, 1⟩]) (by decide +kernel) (by decide +kernel)
  have hx37' := tr hx32' hx37
  have hpc38 := Own.pcs ho38
  have hpc33 := (Own.pcs ho33).ext hx37 (ap fun k hk => by have := hf33 k hk; omega)
  refine ⟨_, _, _, _, rfl, (at_ok hpc38 2).mono ?_⟩
  rintro _ H43 ⟨rfl, hx43⟩
  refine ⟨_, _, rfl, (at_ok (hpc38.ext hx43 (by simp)) 3).mono ?_⟩
  rintro _ H47 ⟨rfl, hx47⟩
  refine ⟨_, _, rfl, fun b50 H51 hn50 => ?_⟩
  have hbad : Pcs H51 (some ⟨b50, 0, none⟩) 1 [⟨2, 4611686018427387904⟩] := New.pcsL (xs := [⟨2, 4611686018427387904⟩]) hn50
  have hx3751 := (hx43.trans hx47).trans hn50.ext
  have hb51 := hb37.ext hx3751 (by simp) (by simp)
  refine (grow_ok hb51 hbad (fun k hk hk' => ?_) (Nat.le_refl _) 0 1 (by decide) (by decide) (by decide)).mono ?_
  · simp only [blkOf, List.mem_singleton] at hk hk'
    have := hn50.eq
    have := (hb37.ext (hx43.trans hx47) (by simp) (by simp)).lt.2 bb (by simp [blkOf])
    omega
  rintro _ H53 ⟨bs6, hg, hb53, hx53⟩
  obtain ⟨rfl, rfl⟩ := GrowR.no hg (by decide +kernel)
  have hx53' := tr (hx37'.trans hx3751) hx53
  have ap33 := ap (a := a33) fun k hk => by have := hf33 k hk; omega
  have ap38 := ap (a := a38) fun k hk => by have := hf38 k hk; omega
  have hpc33' := (hpc33.ext hx3751 (by simp)).ext hx53 ap33
  have hpc38' := (hpc38.ext hx3751 (by simp)).ext hx53 ap38
  refine ⟨_, _, _, _, rfl, fun _ => ⟨fun _ => ⟨fun _ => ⟨fun _ => ⟨fun _ => (count_ok hpc33').mono ?_, fun e => absurd rfl e⟩, fun e => absurd (by decide) e⟩, fun e => (by cases e)⟩, fun e => absurd (by decide +kernel) e⟩, fun e => absurd rfl e⟩
  rintro _ H59 ⟨rfl, hx59⟩
  have e1 : countF [⟨0, 1⟩, ⟨2, 1⟩] = 2 := by rw [countF_yes (by decide +kernel)]; decide +kernel
  have e2 : atF [⟨0, 1⟩, ⟨2, 1⟩, ⟨4, 1⟩] 2 = (4, true) := by rw [atF_yes (by decide +kernel)]; decide +kernel
  have e3 : atF [⟨0, 1⟩, ⟨2, 1⟩, ⟨4, 1⟩] 3 = (0, false) := by rw [atF_no (by decide +kernel)]
  rw [e1, e2, e3]
  refine ⟨_, rfl, fun _ => ⟨fun _ => ⟨fun _ => ⟨fun _ => ⟨fun _ => ⟨fun _ => ⟨fun _ => (blocks_ok 0 H59 (by decide)).mono ?_, fun e => absurd rfl e⟩, fun e => absurd rfl e⟩, fun e => (by cases e)⟩, fun e => absurd rfl e⟩, fun e => absurd (by decide) e⟩, fun e => (by cases e)⟩, fun e => absurd rfl e⟩
  rintro _ _ ⟨rfl, rfl⟩
  refine ⟨_, rfl, fun _ => (blocks_ok 1 H59 (by decide)).mono ?_, fun e => absurd (by decide +kernel) e⟩
  rintro _ _ ⟨rfl, rfl⟩
  refine ⟨_, rfl, fun _ => (blocks_ok 128 H59 (by decide)).mono ?_, fun e => absurd (by decide +kernel) e⟩
  rintro _ _ ⟨rfl, rfl⟩
  refine ⟨_, rfl, fun _ => (blocks_ok 129 H59 (by decide)).mono ?_, fun e => absurd (by decide +kernel) e⟩
  rintro _ _ ⟨rfl, rfl⟩
  have hpc59 := hpc38'.ext hx59 (by simp)
  refine ⟨_, rfl, fun _ => (right_ok hpc59 ho38.2.1 0 16 (by decide) (by decide) (by decide)).mono ?_, fun e => absurd (by decide +kernel) e⟩
  rintro _ H74 ⟨rfl, hx74⟩
  refine ⟨_, rfl, fun _ => (right_ok (hpc59.ext hx74 (by simp)) ho38.2.1 1 16 (by decide) (by decide) (by decide)).mono ?_, fun e => absurd (e.symm.trans (decP_true (by decide +kernel)).symm) (by decide)⟩
  rintro _ H77 ⟨rfl, hx77⟩
  refine ⟨_, rfl, fun _ b79 H80 hn79 => ?_, fun e => absurd (decP_false (by decide +kernel)).symm e⟩
  have hq : Pcs H80 (some ⟨b79, 0, none⟩) 2 [⟨0, 1⟩, ⟨1, 1⟩] := New.pcsL (xs := [⟨0, 1⟩, ⟨1, 1⟩]) hn79
  refine (right_ok hq (Nat.le_refl _) 0 9 (by decide) (by decide) (by decide)).mono ?_
  rintro _ H82 ⟨rfl, hx82⟩
  refine ⟨_, rfl, fun _ b84 H85 hn84 => ?_, fun e => absurd (decP_false (by decide +kernel)).symm e⟩
  have hq2 : Pcs H85 (some ⟨b84, 0, none⟩) 1 [⟨0, -1⟩] := New.pcsL (xs := [⟨0, -1⟩]) hn84
  refine (count_ok hq2).mono ?_
  rintro _ H87 ⟨rfl, hx87⟩
  exact ⟨_, rfl, yes (countF_no (by decide +kernel)), hx53'.trans (hx59.trans (hx74.trans (hx77.trans (hn79.ext.trans (hx82.trans (hn84.ext.trans hx87))))))⟩

end Go.Proofs
end

