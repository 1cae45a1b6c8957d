/-
  What the laws' own functions do: blocks, lists, known. No condition.
-/
import Derived.Test.YtmijngnbbpilmaaGreatProg
import Derived.Test.YtmijngnbbpilmaaGreatVd
import Derived.Test.YtmijngnbbpilmaaGreatJnB

section
open Go Go.Vc
namespace Go.Proofs
set_option maxRecDepth 100000
/-- pentimento/pentimentolaw5.block -/
theorem vcl_block (x0 : Int) (H : Heap) (R : Value → Heap → Prop) : Walk Tryz.prog 30 [(999999, [])] [(.int .i64 x0)] H R = (
  (0 : Int) ≤ 128 ∧ (128 : Int) ≤ 128 ∧ (1 : Int) * 128 ≤ 281474976710656 ∧ ∀ b1 : Nat, ∀ H2 : Heap, New H b1 (List.replicate (Int.toNat 128) (.int .u8 0)) 5 H2 → (
    ∃ I3 : Int → Heap → Prop, ∃ μ4 : Int → Heap → Nat, (I3 0 H2) ∧
    ∀ n5 : Int, ∀ H6 : Heap, I3 n5 H6 → (
      ((((n5 : Int) < ((Int.toNat 128) : Int)) → (
            ((5 : Int) ≠ 0) ∧
            ∀ q7 : Int, q7 = Int.tmod n5 5 → (
              ∀ q8 : Int, q8 = IntKind.wrap .i64 (q7 + 1) → (
                ∀ q9 : Int, q9 = IntKind.wrap .i64 (x0 * q8) → (
                  ∀ q10 : Int, q10 = IntKind.wrap .u8 q9 → (
                    (0 : Int) ≤ n5 ∧ (n5 : Int) < ((Int.toNat 128) : Int) ∧ ∃ b11 o12 : Nat, (some (⟨b1, 0, none⟩ : Addr)) = some (⟨b11, o12, none⟩ : Addr) ∧ (
                      Cells H6 b11 (o12 + (Int.toNat n5)) 1 ∧ ∀ H13 : Heap, Puts H6 b11 (o12 + (Int.toNat n5)) [(.int .u8 q10)] H13 → (
                        ∀ q14 : Int, q14 = IntKind.wrap .i64 (n5 + 1) → (
                          (I3 q14 H13) ∧ μ4 q14 H13 < μ4 n5 H6))))))))) ∧ (¬ ((n5 : Int) < ((Int.toNat 128) : Int)) → (
            R (.slice (some (⟨b1, 0, none⟩ : Addr)) (Int.toNat 128) (Int.toNat 128)) H6)))))) := by kernel_rfl


/-- pentimento/pentimentolaw5.open -/
theorem vcl_open (x0 : Int) (x1 : Int) (H : Heap) (R : Value → Heap → Prop) : Walk Tryz.prog 5 [] [(.int .i64 x0), (.int .i64 x1)] H R = (
  Does Tryz.prog 28 [(.int .i64 x0)] H fun v1 H2 => ∃ p3 : Option Addr, ∃ n4 : Int, v1 = (.tuple #[(.pointer p3), (.int .i64 n4)]) ∧ (
    ((((n4 : Int) ≠ 0) → (
          R (.tuple #[(.pointer none), (.pointer none)]) H2)) ∧ (¬ ((n4 : Int) ≠ 0) → (
          ((((p3 : Option Addr) = none) → (
                R (.tuple #[(.pointer none), (.pointer none)]) H2)) ∧ (¬ ((p3 : Option Addr) = none) → (
                Does Tryz.prog 17 [(.pointer p3), (.int .i64 x1)] H2 fun v5 H6 => ∃ n7 : Int, v5 = (.int .i64 n7) ∧ (
                  ((((n7 : Int) ≠ 0) → (
                        R (.tuple #[(.pointer none), (.pointer none)]) H6)) ∧ (¬ ((n7 : Int) ≠ 0) → (
                        Does Tryz.prog 18 [(.pointer p3)] H6 fun v8 H9 => ∃ p10 : Option Addr, ∃ n11 : Int, v8 = (.tuple #[(.pointer p10), (.int .i64 n11)]) ∧ (
                          ((((n11 : Int) ≠ 0) → (
                                R (.tuple #[(.pointer none), (.pointer none)]) H9)) ∧ (¬ ((n11 : Int) ≠ 0) → (
                                ((((p10 : Option Addr) = none) → (
                                      R (.tuple #[(.pointer none), (.pointer none)]) H9)) ∧ (¬ ((p10 : Option Addr) = none) → (
                                      R (.tuple #[(.pointer p10), (.pointer p3)]) H9))))))))))))))))))) := by kernel_rfl


/-- pentimento/pentimentolaw5.list -/
theorem vcl_list (x0_0 : Int) (x0_1 : Int) (x0_2 : Option Addr) (x0_2l : Nat) (x0_2c : Nat) (x0_3 : Option Addr) (x0_3l : Nat) (x0_3c : Nat) (x1 : Int) (x2 : Int) (H : Heap) (R : Value → Heap → Prop) : Walk Tryz.prog 21 [(999999, []), (9, [(11, (.int .i64 0))]), (15, [])] [(.agg #[(.int .i64 x0_0), (.int .i64 x0_1), (.slice x0_2 x0_2l x0_2c), (.slice x0_3 x0_3l x0_3c)]), (.int .i64 x1), (.int .i64 x2)] H R = (
  ∀ b1 : Nat, ∀ H2 : Heap, New H b1 [(.int .i64 x0_0), (.int .i64 x0_1), (.slice x0_2 x0_2l x0_2c), (.slice x0_3 x0_3l x0_3c)] 39 H2 → (
    ∃ I3 : Option Addr → Nat → Nat → Option Addr → Nat → Nat → Int → Heap → Prop, ∃ μ4 : Option Addr → Nat → Nat → Option Addr → Nat → Nat → Int → Heap → Nat, (I3 none 0 0 none 0 0 0 H2) ∧
    ∀ a5 : Option Addr, ∀ l6 : Nat, ∀ c7 : Nat, ∀ a8 : Option Addr, ∀ l9 : Nat, ∀ c10 : Nat, ∀ n11 : Int, ∀ H12 : Heap, I3 a5 l6 c7 a8 l9 c10 n11 H12 → (
      ∃ a13 : Option Addr, ∃ l14 : Nat, ∃ c15 : Nat, hcell H12 b1 (0 + 2) = some (.slice a13 l14 c15) ∧ (
        ((((n11 : Int) < (l14 : Int)) → (
              ((((n11 : Int) < x2) → (
                    ∃ a16 : Option Addr, ∃ l17 : Nat, ∃ c18 : Nat, hcell H12 b1 (0 + 2) = some (.slice a16 l17 c18) ∧ (
                      (0 : Int) ≤ n11 ∧ (n11 : Int) < (l17 : Int) ∧ ∃ b19 o20 : Nat, a16 = some (⟨b19, o20, none⟩ : Addr) ∧ (
                        ∃ n21 : Int, hcell H12 b19 (o20 + (Int.toNat n11)) = some (.int .i64 n21) ∧ (
                          Does Tryz.prog 4 [(.int .i64 n21), (.int .i64 x1)] H12 fun v22 H23 => ∃ n24 : Int, v22 = (.int .i64 n24) ∧ (
                            ∃ I25 : Int → Heap → Prop, (
                              ∃ a26 : Option Addr, ∃ l27 : Nat, ∃ c28 : Nat, hcell H23 b1 (0 + 2) = some (.slice a26 l27 c28) ∧ (
                                (0 : Int) ≤ n11 ∧ (n11 : Int) < (l27 : Int) ∧ ∃ b29 o30 : Nat, a26 = some (⟨b29, o30, none⟩ : Addr) ∧ (
                                  ∃ n31 : Int, hcell H23 b29 (o30 + (Int.toNat n11)) = some (.int .i64 n31) ∧ (
                                    ((97 : Int) ≠ 0) ∧
                                    ∀ q32 : Int, q32 = Int.tmod n31 97 → (
                                      ((((q32 : Int) = 96) → (
                                            I25 x1 H23)) ∧ (¬ ((q32 : Int) = 96) → (
                                            I25 n24 H23)))))))) ∧
                            ∀ n33 : Int, ∀ H34 : Heap, I25 n33 H34 → (
                              ∃ I35 : Bool → Int → Heap → Prop, ∃ μ36 : Bool → Int → Heap → Nat, (I35 false 0 H34) ∧
                              ∀ t37 : Bool, ∀ n38 : Int, ∀ H39 : Heap, I35 t37 n38 H39 → (
                                ((((n38 : Int) < (l6 : Int)) → (
                                      ((t37 = true → (
                                            ∀ q40 : Int, q40 = IntKind.wrap .i64 (n38 + 1) → (
                                              (I35 true q40 H39) ∧ μ36 true q40 H39 < μ36 t37 n38 H39))) ∧ (t37 = false → (
                                            (0 : Int) ≤ n38 ∧ (n38 : Int) < (l6 : Int) ∧ ∃ b41 o42 : Nat, a5 = some (⟨b41, o42, none⟩ : Addr) ∧ (
                                              ∃ n43 : Int, hcell H39 b41 (o42 + (Int.toNat n38) * 2) = some (.int .i64 n43) ∧ (
                                                ∀ q44 : Int, q44 = IntKind.wrap .i64 (n38 + 1) → (
                                                  (I35 (@decide ((n43 : Int) = n33) (Classical.propDecidable _)) q44 H39) ∧ μ36 (@decide ((n43 : Int) = n33) (Classical.propDecidable _)) q44 H39 < μ36 t37 n38 H39)))))))) ∧ (¬ ((n38 : Int) < (l6 : Int)) → (
                                      ∃ I45 : Heap → Prop, (
                                        ((t37 = true → (
                                              ∃ n46 : Int, hcell H39 b1 (0 + 1) = some (.int .i64 n46) ∧ (
                                                ((13 : Int) ≠ 0) ∧
                                                ∀ q47 : Int, q47 = Int.tmod n46 13 → (
                                                  ((((0 : Int) < q47) → (
                                                        ∀ q48 : Int, q48 = IntKind.wrap .i64 (n11 + 1) → (
                                                          (I3 a5 l6 c7 a8 l9 c10 q48 H39) ∧ μ4 a5 l6 c7 a8 l9 c10 q48 H39 < μ4 a5 l6 c7 a8 l9 c10 n11 H12))) ∧ (¬ ((0 : Int) < q47) → (
                                                        I45 H39))))))) ∧ (t37 = false → (
                                              I45 H39)))) ∧
                                      ∀ H49 : Heap, I45 H49 → (
                                        ∃ n50 : Int, hcell H49 b1 (0 + 1) = some (.int .i64 n50) ∧ (
                                          ∀ q51 : Int, q51 = IntKind.wrap .i64 (n50 + n11) → (
                                            Does Tryz.prog 30 [(.int .i64 q51)] H49 fun v52 H53 => ∃ a54 : Option Addr, ∃ l55 : Nat, ∃ c56 : Nat, v52 = (.slice a54 l55 c56) ∧ (
                                              ∀ b57 : Nat, ∀ H58 : Heap, New H53 b57 [(.int .i64 n33), (.slice a54 l55 c56)] 62 H58 → (
                                                ∃ old59 new60 : List Value, SRow H58 2 l6 (.slice a5 l6 c7) old59 ∧ SRow H58 2 1 (.slice (some (⟨b57, 0, none⟩ : Addr)) 1 1) new60 ∧ (∀ u ∈ new60, Value.oneCell' u = true) ∧ (l6 + 1) * 32 ≤ 140737488355328 ∧ (l6 + 1 ≤ c7 → roomOf H58 a5 (l6 * 2) (1 * 2)) ∧ ∀ a61 : Option Addr, ∀ c62 : Nat, ∀ H63 : Heap, App H58 2 62 [(.int .i64 0), (.slice none 0 0)] a5 l6 c7 old59 new60 1 a61 c62 H63 → (
                                                  ∀ b64 : Nat, ∀ H65 : Heap, New H63 b64 [(.int .i64 n33), (.slice a54 l55 c56)] 76 H65 → (
                                                    ∃ old66 new67 : List Value, SRow H65 2 l9 (.slice a8 l9 c10) old66 ∧ SRow H65 2 1 (.slice (some (⟨b64, 0, none⟩ : Addr)) 1 1) new67 ∧ (∀ u ∈ new67, Value.oneCell' u = true) ∧ (l9 + 1) * 32 ≤ 140737488355328 ∧ (l9 + 1 ≤ c10 → roomOf H65 a8 (l9 * 2) (1 * 2)) ∧ ∀ a68 : Option Addr, ∀ c69 : Nat, ∀ H70 : Heap, App H65 2 76 [(.int .i64 0), (.slice none 0 0)] a8 l9 c10 old66 new67 1 a68 c69 H70 → (
                                                      ∀ q71 : Int, q71 = IntKind.wrap .i64 (n11 + 1) → (
                                                        (I3 a61 (l6 + 1) c62 a68 (l9 + 1) c69 q71 H70) ∧ μ4 a61 (l6 + 1) c62 a68 (l9 + 1) c69 q71 H70 < μ4 a5 l6 c7 a8 l9 c10 n11 H12)))))))))))))))))))) ∧ (¬ ((n11 : Int) < x2) → (
                    R (.tuple #[(.slice a5 l6 c7), (.slice a8 l9 c10)]) H12))))) ∧ (¬ ((n11 : Int) < (l14 : Int)) → (
              R (.tuple #[(.slice a5 l6 c7), (.slice a8 l9 c10)]) H12))))))) := by kernel_rfl


/-- pentimento/pentimentolaw5.known -/
theorem vcl_known (H : Heap) (R : Value → Heap → Prop) : Walk Tryz.prog 6 [] [] H R = (
  Does Tryz.prog 5 [(.int .i64 20), (.int .i64 6)] H fun v1 H2 => ∃ p3 : Option Addr, ∃ p4 : Option Addr, v1 = (.tuple #[(.pointer p3), (.pointer p4)]) ∧ (
    ((((p3 : Option Addr) = none) → (
          R (.bool false) H2)) ∧ (¬ ((p3 : Option Addr) = none) → (
          ((((p4 : Option Addr) = none) → (
                R (.bool false) H2)) ∧ (¬ ((p4 : Option Addr) = none) → (
                Does Tryz.prog 29 [(.int .i64 1)] H2 fun v5 H6 => ∃ n7 : Int, v5 = (.int .i64 n7) ∧ (
                  ((((n7 : Int) ≠ 2) → (
                        R (.bool false) H6)) ∧ (¬ ((n7 : Int) ≠ 2) → (
                        Does Tryz.prog 29 [(.int .i64 8)] H6 fun v8 H9 => ∃ n10 : Int, v8 = (.int .i64 n10) ∧ (
                          ((((n10 : Int) ≠ 10) → (
                                R (.bool false) H9)) ∧ (¬ ((n10 : Int) ≠ 10) → (
                                Does Tryz.prog 30 [(.int .i64 7)] H9 fun v11 H12 => ∃ a13 : Option Addr, ∃ l14 : Nat, ∃ c15 : Nat, v11 = (.slice a13 l14 c15) ∧ (
                                  ∀ b16 : Nat, ∀ H17 : Heap, New H12 b16 [(.int .i64 3), (.slice a13 l14 c15)] 62 H17 → (
                                    Does Tryz.prog 23 [(.pointer p3), (.slice (some (⟨b16, 0, none⟩ : Addr)) 1 1)] H17 fun v18 H19 => ∃ n20 : Int, v18 = (.int .i64 n20) ∧ (
                                      ((((n20 : Int) ≠ 0) → (
                                            R (.bool false) H19)) ∧ (¬ ((n20 : Int) ≠ 0) → (
                                            Does Tryz.prog 10 [(.pointer p3)] H19 fun v21 H22 => ∃ n23 : Int, v21 = (.int .i64 n23) ∧ (
                                              ((((n23 : Int) ≠ 0) → (
                                                    R (.bool false) H22)) ∧ (¬ ((n23 : Int) ≠ 0) → (
                                                    Does Tryz.prog 15 [(.pointer p4), (.slice none 0 0)] H22 fun v24 H25 => v24 = (.tuple #[]) ∧ (
                                                      Does Tryz.prog 18 [(.pointer p4)] H25 fun v26 H27 => ∃ p28 : Option Addr, ∃ n29 : Int, v26 = (.tuple #[(.pointer p28), (.int .i64 n29)]) ∧ (
                                                        ((((n29 : Int) ≠ 0) → (
                                                            R (.bool false) H27)) ∧ (¬ ((n29 : Int) ≠ 0) → (
                                                            ((((p28 : Option Addr) = none) → (
                                                            R (.bool false) H27)) ∧ (¬ ((p28 : Option Addr) = none) → (
                                                            Does Tryz.prog 26 [(.pointer p28), (.int .i64 3)] H27 fun v30 H31 => ∃ a32 : Option Addr, ∃ l33 : Nat, ∃ c34 : Nat, ∃ n35 : Int, v30 = (.tuple #[(.slice a32 l33 c34), (.int .i64 n35)]) ∧ (
                                                            ((((n35 : Int) = 0) → (
                                                            ∃ l36 : List UInt8, SRow H31 1 l33 (.slice a32 l33 c34) (List.map (fun (b : UInt8) => Value.int .u8 b.toNat) l36) ∧ (
                                                            Does Tryz.prog 30 [(.int .i64 7)] H31 fun v37 H38 => ∃ a39 : Option Addr, ∃ l40 : Nat, ∃ c41 : Nat, v37 = (.slice a39 l40 c41) ∧ (
                                                            SRow H38 1 l33 (.slice a32 l33 c34) (List.map (fun (b : UInt8) => Value.int .u8 b.toNat) l36) ∧ (∃ l42 : List UInt8, SRow H38 1 l40 (.slice a39 l40 c41) (List.map (fun (b : UInt8) => Value.int .u8 b.toNat) l42) ∧ (
                                                            (((((ByteArray.mk (List.toArray l36)) : ByteArray) = (ByteArray.mk (List.toArray l42))) → (
                                                            Does Tryz.prog 31 [(.pointer p28)] H38 fun v43 H44 => ∃ n45 : Int, v43 = (.int .i64 n45) ∧ (
                                                            (((((n45 : Int) = 13) → (
                                                            Does Tryz.prog 32 [(.pointer p28)] H44 fun v46 H47 => ∃ n48 : Int, v46 = (.int .i64 n48) ∧ (
                                                            (R (.bool (@decide ((n48 : Int) = 6) (Classical.propDecidable _))) H47)))) ∧ (¬ ((n45 : Int) = 13) → (
                                                            R (.bool false) H44))))))) ∧ (¬ (((ByteArray.mk (List.toArray l36)) : ByteArray) = (ByteArray.mk (List.toArray l42))) → (
                                                            R (.bool false) H38))))))))) ∧ (¬ ((n35 : Int) = 0) → (
                                                            R (.bool false) H31)))))))))))))))))))))))))))))))))))))) := by kernel_rfl


end Go.Proofs
end

section
open Go Go.Vc
namespace Go.Proofs

/-! ### What the law's own functions do -/
theorem wrap_i64 (n : Int) : IntKind.wrap .i64 n = if 9223372036854775808 ≤ n % 18446744073709551616 then n % 18446744073709551616 - 18446744073709551616 else n % 18446744073709551616 := by
  have h : IntKind.wrap .i64 n = if (true && decide (n % 18446744073709551616 ≥ 9223372036854775808)) = true then n % 18446744073709551616 - 18446744073709551616 else n % 18446744073709551616 := rfl
  rw [h]
  simp only [Bool.true_and, decide_eq_true_eq, ge_iff_le]
theorem wrap_i64_mod (n : Int) : (IntKind.wrap .i64 n) % 256 = n % 256 := by rw [wrap_i64]; split <;> omega

/-- A block of bytes of a number. -/
def blockB (c : Int) : Octs := (List.range 128).map fun i : Nat => UInt8.ofNat ((c * ((i : Int) % 5 + 1)) % 256).toNat
theorem blockB_len (c : Int) : (blockB c).length = 128 := by simp [blockB]
theorem blockB_mod {c d : Int} (h : c % 256 = d % 256) : blockB c = blockB d := by
  unfold blockB
  apply List.map_congr_left
  intro i _
  have : c * ((i : Int) % 5 + 1) % 256 = d * ((i : Int) % 5 + 1) % 256 := by rw [Int.mul_emod, h, ← Int.mul_emod]
  rw [this]
theorem blockB_zero : blockB 0 = zeros := by decide +kernel
theorem blockB_at (c : Int) {j : Nat} (hj : j < 128) : (bytesV (blockB c))[j]? = some (.int .u8 ((c * ((j : Int) % 5 + 1)) % 256)) := by
  unfold bytesV blockB
  rw [List.map_map, List.getElem?_map, List.getElem?_range hj]
  simp only [Option.map_some, Function.comp_apply]
  have h0 := Int.emod_nonneg (c * ((j : Int) % 5 + 1)) (show (256 : Int) ≠ 0 by decide)
  have h1 := Int.emod_lt_of_pos (c * ((j : Int) % 5 + 1)) (show (0 : Int) < 256 by decide)
  have : ((UInt8.ofNat ((c * ((j : Int) % 5 + 1)) % 256).toNat).toNat : Int) = (c * ((j : Int) % 5 + 1)) % 256 := by
    rw [UInt8.toNat_ofNat']; omega
  rw [this]

theorem block_ok (c : Int) (H : Heap) : Does Tryz.prog 30 [.int .i64 c] H fun v H' => v = .slice (some ⟨H.size, 0, none⟩) 128 128 ∧ Own H' 1 (some ⟨H.size, 0, none⟩) 128 128 (bytesV (blockB c)) ∧ Ext [] H H' := by
  refine Fn_of_vc Tryz.mixed (vcl_block _ _ _) ?_
  refine ⟨by decide, by decide, by decide, fun b1 H2 hn2 => ?_⟩
  have e1 := hn2.eq
  have hx2 := hn2.ext
  have e128 : Int.toNat 128 = 128 := rfl
  rw [e128] at *
  refine ⟨fun i H' => ∃ (j : Nat) (cs : List Value), i = j ∧ j ≤ 128 ∧ Blk H' b1 cs ∧ cs.length = 128 ∧ (∀ k, k < j → cs[k]? = (bytesV (blockB c))[k]?) ∧ Ext [] H H', fun i _ => 128 - i.toNat, ⟨0, _, rfl, by omega, hn2.blk, by simp, fun k hk => by omega, hx2⟩, ?_⟩
  rintro _ H6 ⟨j, cs, rfl, hj, hb, hl, hk, hx⟩
  refine ⟨fun h1 => ⟨by decide, fun q7 hq7 q8 hq8 q9 hq9 q10 hq10 => ⟨by omega, h1, b1, 0, rfl, hb.cells 1 _ (by omega), fun H13 hp q14 hq14 => ?_⟩⟩, fun h1 => ?_⟩
  · rw [tmod_pos (by omega)] at hq7
    rw [wrap_of_in64 ⟨by omega, by omega⟩] at hq8 hq14
    have hq : q10 = (c * ((j : Int) % 5 + 1)) % 256 := by rw [hq10, wrap_u8, hq9, wrap_i64_mod, hq8, hq7]
    have hb13 := hp.blk hb (by simp only [List.length_cons, List.length_nil]; omega)
    rw [splice_one _ _ _ (by omega), Nat.zero_add, Int.toNat_natCast] at hb13
    refine ⟨⟨j + 1, _, by omega, by omega, hb13, by simpa using hl, fun k hk' => ?_, ext_new hx hp.ext (by simp; omega)⟩, by simp only []; omega⟩
    by_cases e : k = j
    · subst e
      rw [List.getElem?_set_self (by omega), blockB_at c (by omega), hq]
    · rw [List.getElem?_set_ne (fun h => e h.symm)]; exact hk k (by omega)
  · have : j = 128 := by omega
    subst this
    have hcs : cs = bytesV (blockB c) := by
      apply List.ext_getElem?
      intro k
      by_cases h : k < 128
      · exact hk k h
      · rw [List.getElem?_eq_none (by omega), List.getElem?_eq_none (by rw [bytesV_length, blockB_len]; omega)]
    subst hcs
    subst e1
    have := Own.of_new (size := 1) (len := 128) (cap := 128) hb (by rw [hl]) (Nat.le_refl _) (by unfold maxLen; omega)
    rw [List.take_of_length_le (by omega)] at this
    exact ⟨rfl, this, hx⟩

/-! ### Strings in rows -/
def strV (b : Octs) : Value := .string (ByteArray.mk b.toArray)
theorem ba_inj {l m : List UInt8} : (ByteArray.mk l.toArray = ByteArray.mk m.toArray) ↔ l = m := by
  constructor
  · intro h
    simpa using h
  · rintro rfl; rfl
def strE : Elem Octs where
  sz := 1
  pos := by decide
  ok _ v x := v = [strV x]
  fp _ := []
  len := by rintro H v x rfl; rfl
  one := by rintro H v x rfl u hu; simp only [List.mem_cons, List.not_mem_nil, or_false] at hu; subst hu; rfl
  lt := by rintro H v x rfl k hk; cases hk
  ext := by rintro M H H' v x rfl _ _; rfl

/-! ### The journal, within a law -/
structure JnIn (H0 H : Heap) (F : Nat → Prop) (pj pd : Nat) (J : Jn) (D : Dev) (n B : Nat) : Prop where
  jd : JD H F pj pd J D
  wf : D.Wf n B
  jwf : J.Wf n
  low : ∀ i, F i → H0.size ≤ i
  ext : Ext [] H0 H

/-- A block apart from what the journal has. -/
def OffF (F : Nat → Prop) (H : Heap) (k : Nat) : Prop := k < H.size ∧ ¬ F k
theorem OffF.grow {F : Nat → Prop} {H H' : Heap} {k : Nat} (h : OffF F H k) (hs : H.size ≤ H'.size) : OffF (grow F H H') H' k := ⟨Nat.lt_of_lt_of_le h.1 hs, fun hk => by
  rcases hk with hk | hk
  · exact h.2 hk
  · have := h.1; omega⟩
theorem OffF.on {F : Nat → Prop} {H H' : Heap} {k : Nat} (h : OffF F H k) (hs : H.size ≤ H'.size) : OffF F H' k := ⟨Nat.lt_of_lt_of_le h.1 hs, h.2⟩

section
variable {H0 H H' : Heap} {F : Nat → Prop} {pj pd : Nat} {J J' : Jn} {D D' : Dev} {n B B' : Nat}
theorem JnIn.more (h : JnIn H0 H F pj pd J D n B) (hx : Ext [] H H') : JnIn H0 H' F pj pd J D n B :=
  ⟨h.jd.ext hx.toP (by simp), h.wf, h.jwf, h.low, h.ext.trans hx⟩
theorem JnIn.off (h : JnIn H0 H F pj pd J D n B) {M : List Nat} (hx : Ext M H H') (hm : ∀ k ∈ M, H0.size ≤ k ∧ ¬ F k) : JnIn H0 H' F pj pd J D n B :=
  ⟨h.jd.ext hx.toP (fun k hk hk' => (hm k hk').2 hk), h.wf, h.jwf, h.low, ext_new h.ext hx (fun k hk => (hm k hk).1)⟩
theorem JnIn.step (h : JnIn H0 H F pj pd J D n B) (hd : JD H' (grow F H H') pj pd J' D') (hx : ExtP F H H') (hw : D'.Wf n B') (hj : J'.Wf n) : JnIn H0 H' (grow F H H') pj pd J' D' n B' :=
  ⟨hd, hw, hj, fun i hi => by
    rcases hi with hi | hi
    · exact h.low i hi
    · have := h.ext.size; omega, h.ext.transP hx h.low⟩
theorem JnIn.same (h : JnIn H0 H F pj pd J D n B) (hd : JD H' F pj pd J' D') (hx : ExtP F H H') (hw : D'.Wf n B') (hj : J'.Wf n) : JnIn H0 H' F pj pd J' D' n B' :=
  ⟨hd, hw, hj, h.low, h.ext.transP hx h.low⟩
theorem JnIn.up (h : JnIn H0 H F pj pd J D n B) (hB : B ≤ B') : JnIn H0 H F pj pd J D n B' := ⟨h.jd, h.wf.up hB, h.jwf, h.low, h.ext⟩
end

/-- A row of strings apart from the journal. -/
def StrRow (H0 H : Heap) (F : Nat → Prop) (a : Option Addr) (c : Nat) (ws : List Octs) : Prop := Seq strE H (fun _ => False) a ws.length c ws ∧ ∀ k ∈ blkOf a, H0.size ≤ k ∧ OffF F H k
section
variable {H0 H H' : Heap} {F : Nat → Prop} {a : Option Addr} {c : Nat} {ws : List Octs}
theorem StrRow.nil (H0 H : Heap) (F : Nat → Prop) : StrRow H0 H F none 0 [] := ⟨Seq.nil _ _ _, by simp [blkOf]⟩
theorem StrRow.more (h : StrRow H0 H F a c ws) (hx : Ext [] H H') : StrRow H0 H' F a c ws := ⟨h.1.extP hx.toP (by simp) (fun _ h => h.elim), fun k hk => ⟨(h.2 k hk).1, (h.2 k hk).2.on hx.size⟩⟩
theorem StrRow.step (h : StrRow H0 H F a c ws) (hx : ExtP F H H') : StrRow H0 H' (grow F H H') a c ws := ⟨h.1.extP hx (fun k hk => (h.2 k hk).2.2) (fun _ h => h.elim), fun k hk => ⟨(h.2 k hk).1, (h.2 k hk).2.grow hx.size⟩⟩
theorem StrRow.same (h : StrRow H0 H F a c ws) (hx : ExtP F H H') : StrRow H0 H' F a c ws := ⟨h.1.extP hx (fun k hk => (h.2 k hk).2.2) (fun _ h => h.elim), fun k hk => ⟨(h.2 k hk).1, (h.2 k hk).2.on hx.size⟩⟩
theorem StrRow.get (h : StrRow H0 H F a c ws) {i : Nat} {x : Octs} (hx : ws[i]? = some x) : ∃ b o, a = some ⟨b, o, none⟩ ∧ hcell H b (o + i) = some (strV x) := by
  obtain ⟨b, o, u, e, hc, hok, _⟩ := h.1.get1 rfl hx
  have : u = strV x := by simpa [strE] using hok
  subst this
  exact ⟨b, o, e, hc⟩
theorem StrRow.put (h : StrRow H0 H F a c ws) {i : Nat} (hi : i < ws.length) (x : Octs) : ∃ b, a = some ⟨b, 0, none⟩ ∧ Cells H b (0 + i) 1 ∧ ∀ H', Puts H b (0 + i) [strV x] H' → StrRow H0 H' F a c (ws.set i x) ∧ Ext (blkOf a) H H' := by
  obtain ⟨b, e, hc, hp⟩ := h.1.put1 rfl hi (fun k hk => hk.elim)
  refine ⟨b, e, hc, fun H' hp' => ?_⟩
  obtain ⟨g1, g2⟩ := hp (strV x) x H' rfl (by simp [strE]) hp'
  exact ⟨⟨by rw [List.length_set]; exact g1, fun k hk => ⟨(h.2 k hk).1, (h.2 k hk).2.on g2.size⟩⟩, g2⟩
/-- One string appended. -/
theorem StrRow.push (h : StrRow H0 H F a c ws) (h0 : H0.size ≤ H.size) (hF : ∀ k, F k → k < H.size) {x : Octs} {e e' : TypeId} (hw : (ws.length + 1) * 16 ≤ 140737488355328)
    {R : Option Addr → Nat → Heap → Prop} (k : ∀ a' c' H', StrRow H0 H' F a' c' (ws ++ [x]) → Ext (blkOf a) H H' → R a' c' H') (b : Nat) (H2 : Heap) (hn : New H b [strV x] e H2) :
    ∃ old news : List Value, SRow H2 1 ws.length (.slice a ws.length c) old ∧ SRow H2 1 1 (.slice (some ⟨b, 0, none⟩) 1 1) news ∧ (∀ u ∈ news, Value.oneCell' u = true) ∧ (ws.length + 1) * 16 ≤ 140737488355328 ∧
      (ws.length + 1 ≤ c → roomOf H2 a (ws.length * 1) (1 * 1)) ∧ ∀ a' c' H', App H2 1 e' [.string (ByteArray.mk #[])] a ws.length c old news 1 a' c' H' → R a' c' H' := by
  refine h.1.push (E := strE) (fun k hk => hk.elim) (x := x) (v := [strV x]) rfl (by simp [strE]) rfl hw (fun a' c' H' g1 g2 g3 => k a' c' H' ⟨by rw [List.length_append]; exact g1, fun i hi => ?_⟩ g2) b H2 hn
  have hs := g2.size
  have hlt := g1.lt i hi
  rcases g3 i hi with h' | h'
  · exact ⟨(h.2 i h').1, (h.2 i h').2.on hs⟩
  · exact ⟨by omega, hlt, fun hk => by have := hF i hk; omega⟩
end

/-! ### The whole list of writes -/
def pickK (x home : Int) : Int := if Int.tmod x 97 = 96 then home else x % home
def listW (N : Int) (home : Int) : Nat → List Int → List Wr → List Wr
  | _, [], acc => acc
  | i, x :: r, acc =>
    if (acc.any fun w => decide (w.1 = pickK x home)) = true ∧ 0 < Int.tmod N 13 then listW N home (i + 1) r acc
    else listW N home (i + 1) r (acc ++ [(pickK x home, blockB (N + i))])
def listM (N : Int) (at_ : List Int) (home : Int) (most : Nat) : List Wr := listW N home 0 (at_.take most) []

theorem listW_len (N home : Int) : ∀ (xs : List Int) (i : Nat) (acc : List Wr), (listW N home i xs acc).length ≤ acc.length + xs.length
  | [], i, acc => by simp [listW]
  | x :: r, i, acc => by
    rw [listW]
    split
    · have := listW_len N home r (i + 1) acc; simp only [List.length_cons]; omega
    · have := listW_len N home r (i + 1) (acc ++ [(pickK x home, blockB (N + i))])
      simp only [List.length_append, List.length_cons, List.length_nil] at this ⊢; omega
theorem listW_full (N home : Int) : ∀ (xs : List Int) (i : Nat) (acc : List Wr), (∀ w ∈ acc, w.2.length = 128) → ∀ w ∈ listW N home i xs acc, w.2.length = 128
  | [], i, acc, h => h
  | x :: r, i, acc, h => by
    rw [listW]
    split
    · exact listW_full N home r _ _ h
    · exact listW_full N home r _ _ (fun w hw => by
        rcases List.mem_append.1 hw with hw | hw
        · exact h w hw
        · simp only [List.mem_singleton] at hw; subst hw; exact blockB_len _)
theorem pickK_in {x home : Int} (h : 0 < home) : 0 ≤ pickK x home := by
  unfold pickK; split
  · omega
  · exact Int.emod_nonneg _ (by omega)
theorem listW_nn (N : Int) {home : Int} (hh : 0 < home) : ∀ (xs : List Int) (i : Nat) (acc : List Wr), (∀ w ∈ acc, 0 ≤ w.1) → ∀ w ∈ listW N home i xs acc, 0 ≤ w.1
  | [], i, acc, h => h
  | x :: r, i, acc, h => by
    rw [listW]
    split
    · exact listW_nn N hh r _ _ h
    · exact listW_nn N hh r _ _ (fun w hw => by
        rcases List.mem_append.1 hw with hw | hw
        · exact h w hw
        · simp only [List.mem_singleton] at hw; subst hw; exact pickK_in hh)

/-- Two rows of writes that have been made. -/
structure TwoW (n0 : Nat) (H : Heap) (a : Option Addr) (c : Nat) (a' : Option Addr) (c' : Nat) (l : List Wr) : Prop where
  one : ∃ G, Seq writeE H G a l.length c l ∧ ∀ k, G k → n0 ≤ k ∧ k < H.size ∧ k ∉ blkOf a ∧ k ∉ blkOf a'
  two : ∃ G, Seq writeE H G a' l.length c' l ∧ ∀ k, G k → n0 ≤ k ∧ k < H.size ∧ k ∉ blkOf a ∧ k ∉ blkOf a'
  low : (∀ k ∈ blkOf a, n0 ≤ k ∧ k ∉ blkOf a') ∧ ∀ k ∈ blkOf a', n0 ≤ k
theorem TwoW.ext {n0 : Nat} {H H' : Heap} {a a' : Option Addr} {c c' : Nat} {l : List Wr} (h : TwoW n0 H a c a' c' l) (hx : Ext [] H H') : TwoW n0 H' a c a' c' l := by
  obtain ⟨⟨G, h1, h2⟩, ⟨G', h3, h4⟩, h5⟩ := h
  have hs := hx.size
  exact ⟨⟨G, h1.extP hx.toP (by simp) (by simp), fun k hk => ⟨(h2 k hk).1, by have := (h2 k hk).2.1; omega, (h2 k hk).2.2⟩⟩, ⟨G', h3.extP hx.toP (by simp) (by simp), fun k hk => ⟨(h4 k hk).1, by have := (h4 k hk).2.1; omega, (h4 k hk).2.2⟩⟩, h5⟩
theorem TwoW.my {n0 : Nat} {H : Heap} {a a' : Option Addr} {c c' : Nat} {l : List Wr} (h : TwoW n0 H a c a' c' l) : MySeq writeE n0 H a l.length c l ∧ MySeq writeE n0 H a' l.length c' l := by
  obtain ⟨⟨G, h1, h2⟩, ⟨G', h3, h4⟩, h5⟩ := h
  exact ⟨⟨G, h1, fun k hk => ⟨(h2 k hk).1, (h2 k hk).2.1, (h2 k hk).2.2.1⟩, fun k hk => (h5.1 k hk).1⟩, ⟨G', h3, fun k hk => ⟨(h4 k hk).1, (h4 k hk).2.1, (h4 k hk).2.2.2⟩, h5.2⟩⟩
theorem TwoW.kept {n0 : Nat} {H : Heap} {a a' : Option Addr} {c c' : Nat} {l : List Wr} (h : TwoW n0 H a c a' c' l) {F : Nat → Prop} (hF : ∀ k, F k → k < n0) : KeptW F H a l := fun _ hx => (h.my.1.extP hx (fun k _ h0 hk => by have := hF k hk; omega)).view

set_option maxHeartbeats 2000000 in
theorem list_ok {H : Heap} (w0 N : Int) {a2 : Option Addr} {l2 c2 : Nat} {a3 : Option Addr} {l3 c3 : Nat} {at_ : List Int} (hat : SRow H 1 l2 (.slice a2 l2 c2) (ints at_)) (hl2 : l2 ≤ 9223372036854775807) (home : Int) (hh : 0 < home ∧ home ≤ 1000000) (most : Nat) (hmost : most ≤ 1000) :
    Does Tryz.prog 21 [.agg #[.int .i64 w0, .int .i64 N, .slice a2 l2 c2, .slice a3 l3 c3], .int .i64 home, .int .i64 most] H fun v H' =>
      ∃ a c a' c', v = .tuple #[.slice a (listM N at_ home most).length c, .slice a' (listM N at_ home most).length c'] ∧ TwoW H.size H' a c a' c' (listM N at_ home most) ∧ Ext [] H H' := by
  refine Fn_of_vc Tryz.mixed (vcl_list _ _ _ _ _ _ _ _ _ _ _ _) ?_
  intro b1 H2 hn2
  have e1 := hn2.eq
  have hx2 := hn2.ext
  have hs2 := hn2.size
  have hb2 := hn2.blk
  have hatl : at_.length = l2 := by have := hat.1; rw [ints_length] at this; omega
  refine ⟨fun a l c a' l' c' i H' => ∃ (j : Nat) (acc : List Wr), i = j ∧ j ≤ l2 ∧ j ≤ most ∧ l = acc.length ∧ l' = acc.length ∧ acc.length ≤ j ∧ listM N at_ home most = listW N home j ((at_.take most).drop j) acc ∧ TwoW H2.size H' a c a' c' acc ∧ Ext [] H2 H', fun _ _ _ _ _ _ i _ => most - i.toNat,
    ⟨0, [], rfl, by omega, by omega, rfl, rfl, by simp, rfl, ⟨⟨fun _ => False, Seq.nil _ _ _, by simp⟩, ⟨fun _ => False, Seq.nil _ _ _, by simp⟩, by simp [blkOf], by simp [blkOf]⟩, Ext.refl _ _⟩, ?_⟩
  rintro a5 _ c7 a8 _ c10 _ H12 ⟨j, acc, rfl, hj, hjm, rfl, rfl, hacc, hlist, h2w, hx12⟩
  have hb12 := hb2.ext hx12 (by simp)
  have hX12 := hx2.trans hx12
  have fin : ∀ {a5 c7 a8 c10}, ¬ (j < l2 ∧ j < most) → TwoW H2.size H12 a5 c7 a8 c10 acc → ∃ a c a' c', Value.tuple #[.slice a5 acc.length c7, .slice a8 acc.length c10] = .tuple #[.slice a (listM N at_ home most).length c, .slice a' (listM N at_ home most).length c'] ∧ TwoW H.size H12 a c a' c' (listM N at_ home most) ∧ Ext [] H H12 := fun hend h => by
    have : (at_.take most).drop j = [] := List.drop_eq_nil_of_le (by rw [List.length_take]; omega)
    rw [this] at hlist
    rw [hlist]
    obtain ⟨⟨G, h1, h2⟩, ⟨G', h3, h4⟩, h5⟩ := h
    exact ⟨_, _, _, _, rfl, ⟨⟨G, h1, fun k hk => ⟨by have := (h2 k hk).1; omega, (h2 k hk).2⟩⟩, ⟨G', h3, fun k hk => ⟨by have := (h4 k hk).1; omega, (h4 k hk).2⟩⟩, fun k hk => ⟨by have := (h5.1 k hk).1; omega, (h5.1 k hk).2⟩, fun k hk => by have := h5.2 k hk; omega⟩, hX12⟩
  refine ⟨_, _, _, hb12.cell 2, fun h1 => ⟨fun h2 => ?_, fun h2 => fin (by omega) h2w⟩, fun h1 => fin (by omega) h2w⟩
  have hjl : j < l2 := by omega
  have hi : at_[j]? = some (at_[j]'(by omega)) := List.getElem?_eq_getElem (by omega)
  have hdr : (at_.take most).drop j = at_[j]'(by omega) :: (at_.take most).drop (j + 1) := by
    have hlt : j < (at_.take most).length := by rw [List.length_take]; omega
    have := List.drop_eq_getElem_cons hlt
    rw [this, List.getElem_take]
  generalize at_[j]'(by omega) = x at *
  obtain ⟨b, o, ea, hc⟩ := (hat.ext hX12 (by simp)).get (ints_at hi)
  rw [hdr, listW] at hlist
  refine ⟨_, _, _, hb12.cell 2, by omega, by omega, b, o, ea, x, by rw [Int.toNat_natCast]; exact hc, (pick_ok x home H12 hh.1 (by omega)).mono ?_⟩
  rintro _ _ ⟨rfl, rfl⟩
  refine ⟨_, rfl, fun k H' => k = pickK x home ∧ H12 = H', ⟨_, _, _, hb12.cell 2, by omega, by omega, b, o, ea, x, by rw [Int.toNat_natCast]; exact hc, by decide, fun q hq => ⟨fun h3 => ⟨?_, rfl⟩, fun h3 => ⟨?_, rfl⟩⟩⟩, ?_⟩
  · unfold pickK; rw [if_pos (by omega)]
  · unfold pickK; rw [if_neg (by omega)]
  rintro _ _ ⟨rfl, rfl⟩
  generalize hk : pickK x home = kk at *
  obtain ⟨⟨G1, s1, g1⟩, ⟨G2, s2, g2⟩, lo1, lo2⟩ := h2w
  have hview := s1.view
  refine ⟨fun t i H' => ∃ m : Nat, i = m ∧ m ≤ acc.length ∧ t = ((acc.take m).any fun w => decide (w.1 = kk)) ∧ H12 = H', fun _ i _ => acc.length - i.toNat, ⟨0, rfl, by omega, rfl, rfl⟩, ?_⟩
  rintro t _ _ ⟨m, rfl, hm, rfl, rfl⟩
  refine ⟨fun h4 => ?_, fun h4 => ?_⟩
  · have hmi : acc[m]? = some acc[m] := List.getElem?_eq_getElem (by omega)
    have htk : acc.take (m + 1) = acc.take m ++ [acc[m]] := by rw [List.take_add_one, hmi]; rfl
    refine ⟨fun ht q hq => ⟨⟨m + 1, by rw [hq, wrap_of_in64 ⟨by omega, by omega⟩]; omega, by omega, ?_, rfl⟩, by rw [hq, wrap_of_in64 ⟨by omega, by omega⟩]; simp only []; omega⟩, fun ht => ?_⟩
    · rw [htk, List.any_append, ht]; rfl
    · obtain ⟨bb, oo, aa, cc, eaa, q0, _⟩ := hview.wr hmi
      refine ⟨by omega, by omega, bb, oo, eaa, _, by rw [Int.toNat_natCast]; exact q0, fun q hq => ⟨⟨m + 1, by rw [hq, wrap_of_in64 ⟨by omega, by omega⟩]; omega, by omega, ?_, rfl⟩, by rw [hq, wrap_of_in64 ⟨by omega, by omega⟩]; simp only []; omega⟩⟩
      rw [htk, List.any_append, ht, Bool.false_or]
      simp only [List.any_cons, List.any_nil, Bool.or_false]
      exact decide_eq_decide.2 Iff.rfl
  · have : m = acc.length := by omega
    subst this
    rw [List.take_length]
    have hskip : listM N at_ home most = if (acc.any fun w => decide (w.1 = kk)) = true ∧ 0 < Int.tmod N 13 then listW N home (j + 1) ((at_.take most).drop (j + 1)) acc else listW N home (j + 1) ((at_.take most).drop (j + 1)) (acc ++ [(kk, blockB (N + j))]) := hlist
    refine ⟨fun H' => H12 = H' ∧ ¬ ((acc.any fun w => decide (w.1 = kk)) = true ∧ 0 < Int.tmod N 13), ⟨fun ht => ⟨N, hb12.cell 1, by decide, fun q hq => ⟨fun h5 q48 hq48 => ?_, fun h5 => ⟨rfl, by rintro ⟨_, h6⟩; omega⟩⟩⟩, fun ht => ⟨rfl, by rintro ⟨h6, _⟩; rw [ht] at h6; cases h6⟩⟩, ?_⟩
    · rw [wrap_of_in64 ⟨by omega, by omega⟩] at hq48
      rw [if_pos ⟨ht, by omega⟩] at hskip
      exact ⟨⟨j + 1, acc, by omega, by omega, by omega, rfl, rfl, by omega, hskip, ⟨⟨G1, s1, g1⟩, ⟨G2, s2, g2⟩, lo1, lo2⟩, hx12⟩, by simp only []; omega⟩
    · rintro _ ⟨rfl, hno⟩
      rw [if_neg hno] at hskip
      refine ⟨N, hb12.cell 1, fun q51 hq51 => (block_ok q51 H12).mono ?_⟩
      rintro _ H53 ⟨rfl, ho53, hx53⟩
      have hbk : blockB q51 = blockB (N + j) := blockB_mod (by rw [hq51, wrap_i64_mod])
      rw [hbk] at ho53
      have hs12 := hx12.size
      have hs53 := hx53.size
      have hlt12 : H12.size < H53.size := ho53.lt _ (by simp [blkOf])
      refine ⟨_, _, _, rfl, fun b57 H58 hn58 => ?_⟩
      have s1' := s1.extP hx53.toP (by simp) (by simp) (G := G1)
      have s2' := s2.extP hx53.toP (by simp) (by simp) (G := G2)
      have hlt1 : ∀ k ∈ blkOf a5, k < H12.size := s1.lt
      have hlt2 : ∀ k ∈ blkOf a8, k < H12.size := s2.lt
      have hel : ∀ {A : Heap}, Own A 1 (some ⟨H12.size, 0, none⟩) 128 128 (bytesV (blockB (N + j))) → H12.size < A.size → writeE.ok A [.int .i64 kk, .slice (some ⟨H12.size, 0, none⟩) 128 128] (kk, blockB (N + j)) := fun ho hlt => ⟨_, 128, 128, rfl, ho.row _ _, fun k hk => by simp only [blkOf, List.mem_singleton] at hk; omega⟩
      have e57 := hn58.eq
      refine (s1'.mono (G' := fun k => G1 k ∨ k = H12.size) (fun k _ hk => .inl hk)).push (x := (kk, blockB (N + j))) (fun k hk => ?_) (hel ho53 hlt12) (fun k hk => .inr (by simpa [writeE, blkOf] using hk)) rfl (by omega) (fun a61 c62 H63 p1 p2 p3 => ?_) b57 H58 hn58
      · rcases hk with hk | rfl
        · exact (g1 k hk).2.2.1
        · intro hm; have := hlt1 _ hm; omega
      have hs63 := p2.size
      have ho63 := ho53.ext p2 (fun k hk hk' => by simp only [blkOf, List.mem_singleton] at hk; subst hk; have := hlt1 _ hk'; omega)
      have s2'' := s2'.extP p2.toP (fun k hk hk' => (lo1 k hk').2 hk) (fun k hk hk' => (g2 k hk).2.2.1 hk')
      intro b64 H65 hn65
      refine (s2''.mono (G' := fun k => G2 k ∨ k = H12.size) (fun k _ hk => .inl hk)).push (x := (kk, blockB (N + j))) (fun k hk => ?_) (hel ho63 (by omega)) (fun k hk => .inr (by simpa [writeE, blkOf] using hk)) rfl (by omega) (fun a68 c69 H70 r1 r2 r3 => ?_) b64 H65 hn65
      · rcases hk with hk | rfl
        · exact (g2 k hk).2.2.2
        · intro hm; have := hlt2 _ hm; omega
      have hs70 := r2.size
      intro q71 hq71
      rw [wrap_of_in64 ⟨by omega, by omega⟩] at hq71
      have hlt61 : ∀ k ∈ blkOf a61, k < H63.size := p1.lt
      have hlt68 : ∀ k ∈ blkOf a68, k < H70.size := r1.lt
      have in61 : ∀ k ∈ blkOf a61, k ∈ blkOf a5 ∨ H53.size ≤ k := fun k hk => p3 k hk
      have in68 : ∀ k ∈ blkOf a68, k ∈ blkOf a8 ∨ H63.size ≤ k := fun k hk => r3 k hk
      have d1 : ∀ k ∈ blkOf a61, k ∉ blkOf a8 := fun k hk hk' => by
        rcases in61 k hk with h | h
        · exact (lo1 k h).2 hk'
        · have := hlt2 k hk'; omega
      have p1' := p1.extP r2.toP (fun k hk hk' => d1 k hk hk') (fun k hk hk' => by
        rcases hk with hk | rfl
        · exact (g1 k hk).2.2.2 hk'
        · have := hlt2 _ hk'; omega)
      have hg : ∀ {G : Nat → Prop}, (∀ k, G k → H2.size ≤ k ∧ k < H12.size ∧ k ∉ blkOf a5 ∧ k ∉ blkOf a8) → ∀ k, (G k ∨ k = H12.size) → H2.size ≤ k ∧ k < H70.size ∧ k ∉ blkOf a61 ∧ k ∉ blkOf a68 := fun hG k hk => by
        have hk2 : H2.size ≤ k ∧ k < H53.size ∧ k ∉ blkOf a5 ∧ k ∉ blkOf a8 := by
          rcases hk with hk | rfl
          · have := hG k hk; exact ⟨this.1, by omega, this.2.2⟩
          · exact ⟨by omega, hlt12, fun h => by have := hlt1 _ h; omega, fun h => by have := hlt2 _ h; omega⟩
        refine ⟨hk2.1, by omega, fun h => ?_, fun h => ?_⟩
        · rcases in61 k h with h | h
          · exact hk2.2.2.1 h
          · omega
        · rcases in68 k h with h | h
          · exact hk2.2.2.2 h
          · omega
      have low61 : ∀ k ∈ blkOf a61, H2.size ≤ k := fun k hk => by
        rcases in61 k hk with h | h
        · exact (lo1 k h).1
        · omega
      have low68 : ∀ k ∈ blkOf a68, H2.size ≤ k := fun k hk => by
        rcases in68 k hk with h | h
        · exact lo2 k h
        · omega
      refine ⟨⟨j + 1, acc ++ [(kk, blockB (N + j))], by omega, by omega, by omega, by simp, by simp, by simp; omega, hskip, ⟨⟨_, by rw [List.length_append]; exact p1', hg g1⟩, ⟨_, by rw [List.length_append]; exact r1, hg g2⟩, fun k hk => ⟨low61 k hk, fun h => ?_⟩, low68⟩, ?_⟩, by simp only []; omega⟩
      · rcases in68 k h with h | h
        · exact d1 k hk h
        · have := hlt61 k hk; omega
      · have x1 : Ext [] H2 H63 := ext_new (hx12.trans hx53) p2 (fun k hk => (lo1 k hk).1)
        exact ext_new x1 r2 (fun k hk => lo2 k hk)
end Go.Proofs
end

section
open Go Go.Vc
namespace Go.Proofs

/-! ### Well-formedness behind an opening -/
theorem recL_tok {homes : Int} : ∀ (f : Nat) (h : Hd) (bs : List Octs) (t : List Wr), TOk t homes → TOk (recL f h bs t homes).2 homes ∧ (recL f h bs t homes).1.size = h.size ∧ (recL f h bs t homes).1.epoch = h.epoch ∧ h.seq ≤ (recL f h bs t homes).1.seq ∧ (recL f h bs t homes).1.seq ≤ h.seq + f
  | 0, h, bs, t, ht => ⟨ht, rfl, rfl, Int.le_refl _, by simp [recL]⟩
  | f + 1, h, bs, t, ht => by
    rw [recL]
    split
    · exact ⟨ht, rfl, rfl, Int.le_refl _, by simp only; omega⟩
    · rename_i hne
      rcases wholeB_spec h bs homes with h0 | ⟨_, _, h3, _⟩
      · exact absurd h0 hne
      · have := recL_tok f { h with seq := h.seq + 1 } (bs.drop (wholeB h bs homes).2.toNat) (tAll t (wholeB h bs homes).1) (ht.all _ h3.2.1)
        obtain ⟨g1, g2, g3, g4, g5⟩ := this
        exact ⟨g1, g2, g3, by simp only at g4; omega, by simp only at g5; omega⟩

theorem open_dwf {n B : Nat} {D : Dev} (hw : D.Wf n B) (hn : n ≤ 4096) : (openM n D).1.Wf n (B + 5000) := by
  unfold openM
  split
  · exact hw.up (by omega)
  · rename_i h0
    have h0' : (readM n D).2 = 0 := by simpa using h0
    obtain ⟨hdd, _, _, z0, z1, _⟩ := readM_ok h0'
    generalize (readM n D).1 = h at *
    have hho : homeN n h.size = n - 1 - h.size := homeN_of ⟨z0, z1⟩
    have hrec : (recoverM n ⟨h, 0, [], false⟩ D).1.Wf n (B + 5000) := by
      unfold recoverM
      rw [if_neg (by simp [hdd])]
      have ht := recL_tok (homes := homeN n h.size) ((jblocks D h.size).length + 1) h (jblocks D h.size) [] (TOk.nil _)
      simp only
      generalize recL ((jblocks D h.size).length + 1) h (jblocks D h.size) [] (homeN n h.size) = r at *
      have hg := goHome_wf (J := ⟨r.1, 0, r.2, false⟩) hw (by show TOk r.2 (homeN n r.1.size); rw [ht.2.1]; exact ht.1) (by show homeN n r.1.size ≤ 4096; rw [ht.2.1]; omega)
      split
      · exact hg.up (by omega)
      · exact (begin_wf hg).up (by omega)
    simp only
    split
    · exact hrec
    · exact hrec

theorem newWf {n : Nat} (hn : n ≤ 100000) : (newD n).Wf n 0 :=
  ⟨by simp [newD], hn, fun b hb => by
    have := List.eq_of_mem_replicate hb
    subst this; simp [zeros], by simp [newD], by simp [newD], ⟨by simp [newD], by simp [newD]⟩, ⟨by simp [newD], by simp [newD]⟩⟩

theorem format_dwf {n B : Nat} {D : Dev} (hw : D.Wf n B) (hn : n ≤ 4096) (size : Int) : (formatM n size D).1.Wf n (B + 5000) := by
  unfold formatM
  split
  · exact hw.up (by omega)
  · rename_i h
    have hsz : size ≤ n - 4 := by
      unfold homeN at h
      split at h
      · exact absurd (by decide) h
      · omega
    have h1 := fmtW_wf (n := n) size.toNat 0 hw
    generalize fmtW n size.toNat 0 D = r at *
    simp only
    split
    · exact h1.up (by omega)
    · have h2 := writeWf h1 0 (hdrB ⟨1, 1, size⟩)
      split
      · exact h2.up (by omega)
      · exact (flushWf h2).up (by omega)

/-! ### A device within a law -/
structure DvIn (H0 H : Heap) (F : Nat → Prop) (pd : Nat) (D : Dev) (n B : Nat) : Prop where
  dev : IsDev H F pd D
  wf : D.Wf n B
  low : ∀ i, F i → H0.size ≤ i
  ext : Ext [] H0 H
section
variable {H0 H H' : Heap} {F : Nat → Prop} {pd : Nat} {D D' : Dev} {n B B' : Nat}
theorem DvIn.more (h : DvIn H0 H F pd D n B) (hx : Ext [] H H') : DvIn H0 H' F pd D n B := ⟨h.dev.ext hx.toP (by simp), h.wf, h.low, h.ext.trans hx⟩
theorem DvIn.step (h : DvIn H0 H F pd D n B) (hd : IsDev H' (grow F H H') pd D') (hx : ExtP F H H') (hw : D'.Wf n B') : DvIn H0 H' (grow F H H') pd D' n B' :=
  ⟨hd, hw, fun i hi => by
    rcases hi with hi | hi
    · exact h.low i hi
    · have := h.ext.size; omega, h.ext.transP hx h.low⟩
theorem DvIn.same (h : DvIn H0 H F pd D n B) (hd : IsDev H' F pd D') (hx : ExtP F H H') (hw : D'.Wf n B') : DvIn H0 H' F pd D' n B' := ⟨hd, hw, h.low, h.ext.transP hx h.low⟩
theorem JnIn.dv {pj : Nat} {J : Jn} (h : JnIn H0 H F pj pd J D n B) : DvIn H0 H F pd D n B := ⟨h.jd.dev, h.wf, h.low, h.ext⟩
end

/-- A journal that lives, within a law. -/
structure JL (H0 H : Heap) (F : Nat → Prop) (pj pd n z B : Nat) (J : Jn) (D : Dev) (cur : Nat → Octs) (S : (Nat → Octs) → Prop) : Prop where
  jin : JnIn H0 H F pj pd J D n B
  live : LiveA n z B J D cur S

theorem LiveA.lays {n z B : Nat} {J : Jn} {D : Dev} {cur : Nat → Octs} {S : (Nat → Octs) → Prop} (h : LiveA n z B J D cur S) : (4 ≤ z ∧ z + 4 ≤ n) ∧ n ≤ 4096 ∧ J.h.size = z ∧ J.h.seq ≤ 1000000000 ∧ J.dead = false ∧ D.dead = false ∧ S cur ∧ homeN n J.h.size = n - 1 - z := by
  obtain ⟨e, s, T, f, base, h, hc, hS⟩ := h
  refine ⟨h.pers.lays.zn, h.pers.lays.nn, by rw [h.jh], by rw [h.jh]; have := h.pers.lays.top; have := h.pers.lays.bb; simp only; omega, h.jdead, h.dead, ?_, ?_⟩
  · have := hS T.length h.pers.ff (Nat.le_refl _)
    rw [List.take_length, ← hc] at this
    exact this
  · rw [h.jh]
    have := h.pers.lays.zn
    exact homeN_of (by simp only; omega)

section
variable {H0 H H' : Heap} {F : Nat → Prop} {pj pd n z B B' : Nat} {J : Jn} {D : Dev} {cur : Nat → Octs} {S S' : (Nat → Octs) → Prop}
theorem JL.more (h : JL H0 H F pj pd n z B J D cur S) (hx : Ext [] H H') : JL H0 H' F pj pd n z B J D cur S := ⟨h.jin.more hx, h.live⟩
theorem JL.off (h : JL H0 H F pj pd n z B J D cur S) {M : List Nat} (hx : Ext M H H') (hm : ∀ k ∈ M, H0.size ≤ k ∧ ¬ F k) : JL H0 H' F pj pd n z B J D cur S := ⟨h.jin.off hx hm, h.live⟩
theorem JL.up (h : JL H0 H F pj pd n z B J D cur S) (h1 : B ≤ B') (h2 : B' ≤ 1000000000) (hS : ∀ x, S x → S' x) : JL H0 H F pj pd n z B' J D cur S' := ⟨h.jin.up h1, h.live.up h1 h2 hS⟩
theorem JL.lt (h : JL H0 H F pj pd n z B J D cur S) : ∀ k, F k → k < H.size := h.jin.jd.lt

theorem JL.home (h : JL H0 H F pj pd n z B J D cur S) : Does Tryz.prog 31 [.pointer (some ⟨pj, 0, none⟩)] H fun v H' => v = .int .i64 ((n - 1 - z : Nat) : Int) ∧ H = H' := by
  have hl := h.live.lays
  refine (jhome_ok h.jin.jd h.jin.wf).mono ?_
  rintro _ _ ⟨rfl, rfl⟩
  refine ⟨?_, rfl⟩
  rw [hl.2.2.2.2.2.2.2]
  congr 1
  omega

theorem JL.read (h : JL H0 H F pj pd n z B J D cur S) {k : Nat} (hk : k < n - 1 - z) : Does Tryz.prog 26 [.pointer (some ⟨pj, 0, none⟩), .int .i64 k] H fun v H' => ∃ a c, v = .tuple #[.slice a (cur k).length c, .int .i64 0] ∧ Own H' 1 a (cur k).length c (bytesV (cur k)) ∧ (∀ i ∈ blkOf a, H.size ≤ i) ∧ JL H0 H' F pj pd n z B J D cur S ∧ ExtP F H H' := by
  have hl := h.live.lays
  refine (jread_ok h.jin.jd h.jin.wf h.jin.jwf hl.2.1 k).mono ?_
  rintro _ H' ⟨a, c, hjd, hx, rfl, ho, hf⟩
  rw [live_read h.live hk] at hjd ho ⊢
  exact ⟨a, c, rfl, ho, hf, ⟨h.jin.same hjd hx h.jin.wf h.jin.jwf, h.live⟩, hx⟩

theorem JL.commit (h : JL H0 H F pj pd n z B J D cur S) (hB : B ≤ 600000000) (hSS : ∀ x, S x → S' x) {l : List Wr} (hS' : S' (overT cur l)) {a : Option Addr} {c : Nat} (hk : KeptW F H a l) (hl : l.length ≤ 1000000) :
    Does Tryz.prog 23 [.pointer (some ⟨pj, 0, none⟩), .slice a l.length c] H fun v H' => ExtP F H H' ∧ ∃ e J' D', v = .int .i64 e ∧ commitM n l J D = (D', J', e) ∧
      ((¬ MayP l (n - 1 - z : Int) ∧ e = 1 ∧ JL H0 H' (grow F H H') pj pd n z (B + 14100) J D cur S) ∨ (MayP l (n - 1 - z : Int) ∧ (z : Int) < needsN l.length ∧ e = 5 ∧ JL H0 H' (grow F H H') pj pd n z (B + 14100) J D cur S) ∨
       (MayP l (n - 1 - z : Int) ∧ needsN l.length ≤ z ∧ e = 0 ∧ JL H0 H' (grow F H H') pj pd n z (B + 14100) J' D' (overT cur l) S' ∧ (D.fuse = -1 → D'.fuse = -1)) ∨
       (MayP l (n - 1 - z : Int) ∧ e = 4 ∧ JnIn H0 H' (grow F H H') pj pd J' D' n (B + 14100) ∧ Fell n z (B + 14100) D' S' ∧ D.fuse ≠ -1)) := by
  have hly := h.live.lays
  have hsq : J.h.seq ≤ 900000000000 := by have := hly.2.2.2.1; omega
  refine (commit_ok h.jin.jd h.jin.wf (by omega) hly.2.1 h.jin.jwf hsq hk hl (c := c)).mono ?_
  rintro _ H' ⟨rfl, hjd, hx⟩
  have hin : JnIn H0 H' (grow F H H') pj pd (commitM n l J D).2.1 (commitM n l J D).1 n (B + 14100) := h.jin.step hjd hx (commit_dwf h.jin.wf h.jin.jwf hly.2.1) (commit_jwf h.jin.jwf hsq)
  refine ⟨hx, (commitM n l J D).2.2, (commitM n l J D).2.1, (commitM n l J D).1, rfl, rfl, ?_⟩
  rcases commit_cases h.live l (by omega) hSS hS' with ⟨g1, g2⟩ | ⟨g1, g2, g3⟩ | ⟨g1, g2, g3, g4, g5⟩ | ⟨g1, g2, g3, g4⟩
  · rw [g2] at hin ⊢
    exact .inl ⟨g1, rfl, hin, h.live.up (by omega) (by omega) (fun _ h => h)⟩
  · rw [g3] at hin ⊢
    exact .inr (.inl ⟨g1, g2, rfl, hin, h.live.up (by omega) (by omega) (fun _ h => h)⟩)
  · exact .inr (.inr (.inl ⟨g1, g2, g3, ⟨hin, g4.up (by omega) (by omega) (fun _ h => h)⟩, g5⟩))
  · refine .inr (.inr (.inr ⟨g1, g2, hin, ⟨g3.1, fun ms => ?_⟩, g4⟩))
    obtain ⟨x, h1, h2⟩ := g3.2 ms
    exact ⟨x, h1, h2.up (by omega) (by omega)⟩

theorem JL.sync (h : JL H0 H F pj pd n z B J D cur S) (hB : B ≤ 600000000) (hS' : S' cur) :
    Does Tryz.prog 10 [.pointer (some ⟨pj, 0, none⟩)] H fun v H' => ExtP F H H' ∧ ∃ J' D', ((v = .int .i64 0 ∧ JL H0 H' (grow F H H') pj pd n z (B + 14100) J' D' cur S' ∧ (D.fuse = -1 → D'.fuse = -1)) ∨
       (v = .int .i64 4 ∧ JnIn H0 H' (grow F H H') pj pd J' D' n (B + 14100) ∧ Fell n z (B + 14100) D' S ∧ D.fuse ≠ -1)) := by
  have hly := h.live.lays
  refine (sync_ok h.jin.jd h.jin.wf (by omega)).mono ?_
  rintro _ H' ⟨rfl, hjd, hx⟩
  have hin : JnIn H0 H' (grow F H H') pj pd (syncM J D).2.1 (syncM J D).1 n (B + 14100) := h.jin.step hjd hx ((sync_dwf h.jin.wf).up (by omega)) (sync_jwf h.jin.jwf)
  refine ⟨hx, (syncM J D).2.1, (syncM J D).1, ?_⟩
  rcases sync_cases h.live with ⟨g1, g2, g3⟩ | ⟨g1, g2, g3⟩
  · rw [g1]; exact .inl ⟨rfl, ⟨hin, (g2 S' hS').up (by omega) (by omega) (fun _ h => h)⟩, g3⟩
  · rw [g1]
    refine .inr ⟨rfl, hin, ⟨g2.1, fun ms => ?_⟩, g3⟩
    obtain ⟨x, h1, h2⟩ := g2.2 ms
    exact ⟨x, h1, h2.up (by omega) (by omega)⟩

theorem JL.checkpoint (h : JL H0 H F pj pd n z B J D cur S) (hB : B ≤ 600000000) (hS' : S' cur) :
    Does Tryz.prog 12 [.pointer (some ⟨pj, 0, none⟩)] H fun v H' => ExtP F H H' ∧ ∃ J' D', ((v = .int .i64 0 ∧ JL H0 H' (grow F H H') pj pd n z (B + 14100) J' D' cur S' ∧ (D.fuse = -1 → D'.fuse = -1) ∧ J'.used = 0) ∨
       (v = .int .i64 4 ∧ JnIn H0 H' (grow F H H') pj pd J' D' n (B + 14100) ∧ Fell n z (B + 14100) D' S ∧ D.fuse ≠ -1)) := by
  have hly := h.live.lays
  refine (checkpoint_ok h.jin.jd h.jin.wf (by omega) hly.2.1 h.jin.jwf).mono ?_
  rintro _ H' ⟨rfl, hjd, hx⟩
  have hin : JnIn H0 H' (grow F H H') pj pd (checkpointM n J D).2.1 (checkpointM n J D).1 n (B + 14100) := h.jin.step hjd hx ((checkpoint_dwf h.jin.wf h.jin.jwf hly.2.1).up (by omega)) (checkpoint_jwf h.jin.jwf)
  refine ⟨hx, (checkpointM n J D).2.1, (checkpointM n J D).1, ?_⟩
  rcases checkpoint_cases h.live with ⟨g1, g2, g3⟩ | ⟨g1, g2, g3⟩
  · have := checkpoint_ok0 g1
    rw [g1]; exact .inl ⟨rfl, ⟨hin, (g2 S' hS').up (by omega) (by omega) (fun _ h => h)⟩, g3, this.1⟩
  · rw [g1]
    refine .inr ⟨rfl, hin, ⟨g2.1, fun ms => ?_⟩, g3⟩
    obtain ⟨x, h1, h2⟩ := g2.2 ms
    exact ⟨x, h1, h2.up (by omega) (by omega)⟩
end

theorem DvIn.open_ {H0 H : Heap} {F : Nat → Prop} {pd n z B : Nat} {D : Dev} (h : DvIn H0 H F pd D n B) (hB : B ≤ 600000000) {K : List Octs} {P : List (Int × Octs)} {hm : Nat → Octs} (ha : At D K P) (hs : Sure n z B (laid K P) hm) {S : (Nat → Octs) → Prop} (hS : S hm) :
    Does Tryz.prog 18 [.pointer (some ⟨pd, 0, none⟩)] H fun v H' => ExtP F H H' ∧
      ((∃ pj J D', v = .tuple #[.pointer (some ⟨pj, 0, none⟩), .int .i64 0] ∧ JL H0 H' (grow F H H') pj pd n z (B + 5000) J D' hm S ∧ (D.fuse = -1 → D'.fuse = -1) ∧ J.used = 0 ∧ D'.pend = []) ∨
       (∃ D', v = .tuple #[.pointer none, .int .i64 4] ∧ DvIn H0 H' (grow F H H') pd D' n (B + 5000) ∧ D.fuse ≠ -1 ∧ D'.dead = true ∧ (P = [] → ∀ ms, Sure n z (B + 5000) (crashL ms D'.pend 0 D'.kept) hm))) := by
  have hly : (4 ≤ z ∧ z + 4 ≤ n) ∧ n ≤ 4096 := by obtain ⟨e, s, T, h⟩ := hs; exact ⟨h.lays.zn, h.lays.nn⟩
  refine (open_ok h.dev h.wf (by omega) hly.2 (by omega)).mono ?_
  rintro v H' ⟨hr, hx⟩
  have hdw := open_dwf h.wf hly.2
  refine ⟨hx, ?_⟩
  rcases open_cases hs ha rfl (by omega) with ⟨J, e, g1, g2, g3⟩ | ⟨g1, g2, g3, g4⟩
  · rcases hr with ⟨e', h1, h2, _⟩ | ⟨pj, J', h1, h2, h3⟩
    · rw [g1] at h1
      simp only [Prod.mk.injEq] at h1
      exact absurd h1.2.1 (by simp)
    · rw [g1] at h1
      simp only [Prod.mk.injEq, Option.some.injEq, true_and, and_true] at h1
      subst h1
      have hlive : LiveA n z (B + 5000) J (openM n D).1 hm S := ⟨e, 1, [], 0, hm, g2.up (by omega) (by omega), rfl, fun j _ _ => by simp only [List.take_nil, hmT_nil]; exact hS⟩
      have hj : J.Wf n := by
        have hjh := g2.jh
        have hu := g2.used
        have ht := g2.taken
        have hl := g2.pers.lays
        refine ⟨by rw [hjh]; simp only; omega, by rw [hjh]; simp only; exact ⟨by simp, by simp⟩, by rw [hjh]; simp only; have := hl.e0; have := hl.top; have := hl.bb; omega, by rw [hu, hjh]; simp [LT], by rw [ht]; exact TOk.nil _⟩
      have hdv := h.step h3.dev hx hdw
      exact .inl ⟨pj, J, (openM n D).1, h2, ⟨⟨h3, hdw, hj, hdv.low, hdv.ext⟩, hlive⟩, g3, by have := g2.used; simpa [LT] using this, by
        have := g2.pers.pin
        cases hp : (openM n D).1.pend with
        | nil => rfl
        | cons w r =>
          obtain ⟨p, _, h2⟩ := this w (by rw [hp]; simp)
          simp [LT] at h2⟩
  · rcases hr with ⟨e', h1, h2, h3, h4⟩ | ⟨pj, J', h1, h2, h3⟩
    · rw [g1] at h1
      simp only [Prod.mk.injEq, true_and] at h1
      subst h1
      exact .inr ⟨(openM n D).1, h3, h.step h4 hx hdw, g2, g3, fun hP ms => (g4 hP ms).up (by omega) (by omega)⟩
    · rw [g1] at h1
      simp only [Prod.mk.injEq] at h1
      exact absurd h1.2.1 (by simp)

theorem nil_kept (F : Nat → Prop) (H : Heap) : KeptB F H none 0 0 [] := KeptB.of ⟨rfl, rfl⟩ (by simp [blkOf])

theorem DvIn.crash {H0 H : Heap} {F : Nat → Prop} {pd n B : Nat} {D : Dev} (h : DvIn H0 H F pd D n B) (hB : B ≤ 600000000) {a : Option Addr} {len cap : Nat} {ms : Octs} (hs : KeptB F H a len cap ms) :
    Does Tryz.prog 15 [.pointer (some ⟨pd, 0, none⟩), .slice a len cap] H fun v H' => v = .tuple #[] ∧ ExtP F H H' ∧ DvIn H0 H' (grow F H H') pd (crashD D ms) n B ∧ At (crashD D ms) (crashL ms D.pend 0 D.kept) [] ∧ (crashD D ms).fuse = -1 := by
  refine (dcrash_ok h.dev h.wf (by omega) hs).mono ?_
  rintro _ H' ⟨rfl, hd, hx⟩
  exact ⟨rfl, hx, h.step hd hx (crashWf h.wf ms), ⟨rfl, rfl, rfl⟩, rfl⟩

theorem DvIn.fuse {H0 H : Heap} {F : Nat → Prop} {pd n B : Nat} {D : Dev} (h : DvIn H0 H F pd D n B) {k : Int} (hk : k ≤ 1000000) :
    Does Tryz.prog 19 [.pointer (some ⟨pd, 0, none⟩), .int .i64 k] H fun v H' => v = .tuple #[] ∧ ExtP F H H' ∧ DvIn H0 H' F pd { D with fuse := max k (-1) } n B := by
  refine (dfuse_ok h.dev k).mono ?_
  rintro _ H' ⟨rfl, hd, hx⟩
  exact ⟨rfl, hx, h.same hd hx ⟨h.wf.len, h.wf.few, h.wf.size, h.wf.pin, h.wf.pfew, by simp only; omega, h.wf.works⟩⟩

/-- A journal over a new device. -/
theorem open0_ok (H : Heap) {n z : Nat} (hzn : 4 ≤ z ∧ z + 4 ≤ n) (hn : n ≤ 4096) {S : (Nat → Octs) → Prop} (hS : S fun _ => zeros) :
    Does Tryz.prog 5 [.int .i64 n, .int .i64 z] H fun v H' => ∃ pj pd F J D, v = .tuple #[.pointer (some ⟨pj, 0, none⟩), .pointer (some ⟨pd, 0, none⟩)] ∧ JL H H' F pj pd n z 10000 J D (fun _ => zeros) S ∧ D.fuse = -1 ∧ J.used = 0 := by
  refine Fn_of_vc Tryz.mixed (vcl_open _ _ _ _) ?_
  refine (dnew_ok n H).mono ?_
  rintro _ H2 ⟨hx2, ⟨h1, _⟩ | ⟨_, pd, rfl, hd2⟩⟩
  · omega
  rw [Int.toNat_natCast] at hd2
  refine ⟨_, _, rfl, fun h => absurd rfl h, fun _ => ⟨fun h => (by cases h), fun _ => (format_ok hd2 (newWf (by omega)) (by omega) hn z).mono ?_⟩⟩
  rintro _ H6 ⟨rfl, hd6, hx6⟩
  obtain ⟨k1, K, k2, k3, k4⟩ := format_sure hzn hn
  have hlow : ∀ i, grow none_ H H2 i → H.size ≤ i := fun i hi => (grow_low i hi).1
  have hdv : DvIn H H6 (grow (grow none_ H H2) H2 H6) pd (formatM n z (newD n)).1 n 5000 := by
    have h0 : DvIn H H2 (grow none_ H H2) pd (newD n) n 0 := ⟨hd2, newWf (by omega), hlow, hx2⟩
    exact h0.step hd6 hx6 ((format_dwf (newWf (by omega)) hn z).up (by omega))
  refine ⟨_, rfl, fun h => absurd k1 h, fun _ => (hdv.open_ (by omega) k2 (k4.up (by omega) (by omega)) hS).mono ?_⟩
  rintro _ H9 ⟨hx9, ⟨pj, J, D', rfl, hjl, hf, hu, _⟩ | ⟨D', rfl, _, hne, _⟩⟩
  · exact ⟨_, _, rfl, fun h => absurd rfl h, fun _ => ⟨fun h => (by cases h), fun _ => ⟨pj, pd, _, J, D', rfl, hjl, hf k3, hu⟩⟩⟩
  · exact absurd k3 hne

/-- A list of writes laid at once. -/
theorem kept_new {F : Nat → Prop} {H H2 : Heap} {b : Nat} {vs : List (List Value)} {e : TypeId} {l : List Wr} (hn : New H b vs.flatten e H2) (hF : ∀ k, F k → k < H.size) (hl : vs.length = l.length) (hv : ∀ (i : Nat) (x : Wr), l[i]? = some x → ∃ v, vs[i]? = some v ∧ writeE.ok H v x ∧ ∀ k ∈ writeE.fp v, ¬ F k) : KeptW F H2 (some ⟨b, 0, none⟩) l := by
  intro H' hx
  have hrows : ∀ r ∈ vs, r.length = 2 := by
    intro r hr
    obtain ⟨i, hi, rfl⟩ := List.mem_iff_getElem.1 hr
    obtain ⟨v, q1, q2, _⟩ := hv i _ (List.getElem?_eq_getElem (by omega))
    rw [List.getElem?_eq_getElem hi, Option.some.injEq] at q1
    rw [q1]
    exact writeE.len q2
  have hb : Blk H' b vs.flatten := hn.blk.extP hx (fun h => by have := hF _ h; have := hn.eq; omega)
  refine ⟨vs, ⟨by rw [flatten_len hrows, hl]; rfl, .inr rfl, fun j u hj => by rw [Nat.zero_add, hb.cell]; exact hj⟩, hl, fun i x hi => ?_⟩
  obtain ⟨v, q1, q2, q3⟩ := hv i x hi
  exact ⟨v, q1, writeE.ext (writeE.ext q2 hn.ext.toP (by simp)) hx q3⟩
theorem blk_ok {H : Heap} {x : Nat} {k c : Int} (ho : Own H 1 (some ⟨x, 0, none⟩) 128 128 (bytesV (blockB c))) : writeE.ok H [.int .i64 k, .slice (some ⟨x, 0, none⟩) 128 128] (k, blockB c) := ⟨_, 128, 128, rfl, ho.row _ _, ho.lt⟩
theorem kept_one {F : Nat → Prop} {H H2 : Heap} {b x : Nat} {k c : Int} {e : TypeId} (hn : New H b [.int .i64 k, .slice (some ⟨x, 0, none⟩) 128 128] e H2) (hF : ∀ k, F k → k < H.size) (ho : Own H 1 (some ⟨x, 0, none⟩) 128 128 (bytesV (blockB c))) (hx : ¬ F x) : KeptW F H2 (some ⟨b, 0, none⟩) [(k, blockB c)] :=
  kept_new (vs := [[.int .i64 k, .slice (some ⟨x, 0, none⟩) 128 128]]) hn hF rfl fun i y hi => by
    cases i with
    | zero => cases hi; exact ⟨_, rfl, blk_ok ho, fun j hj => by simp only [writeE, blkOf, List.mem_singleton] at hj; subst hj; exact hx⟩
    | succ i => simp at hi

theorem may_one {k : Int} {c : Int} {homes : Int} (h0 : 0 ≤ k) (h1 : k < homes) : MayP [(k, blockB c)] homes := ⟨by simp, fun w hw => by simp only [List.mem_singleton] at hw; subst hw; exact ⟨h0, h1, blockB_len c⟩, by simp⟩
theorem needs_one : needsN 1 = 2 := by decide

theorem known_ok (H : Heap) : Does Tryz.prog 6 [] H fun v H' => v = .bool true ∧ Ext [] H H' := by
  refine Fn_of_vc Tryz.mixed (vcl_known _ _) ?_
  refine (open0_ok H (n := 20) (z := 6) (by decide) (by decide) (S := fun x => x = fun _ => zeros) rfl).mono ?_
  rintro _ H2 ⟨pj, pd, F, J, D, rfl, hjl, hf, hu⟩
  refine ⟨_, _, rfl, fun h => (by cases h), fun _ => ⟨fun h => (by cases h), fun _ => (needs_ok 1 H2 (by decide)).mono ?_⟩⟩
  rintro _ _ ⟨rfl, rfl⟩
  refine ⟨_, rfl, fun h => absurd needs_one h, fun _ => (needs_ok 8 H2 (by decide)).mono ?_⟩
  rintro _ _ ⟨rfl, rfl⟩
  refine ⟨_, rfl, fun h => absurd (by decide) h, fun _ => (block_ok 7 H2).mono ?_⟩
  rintro _ H12 ⟨rfl, ho12, hx12⟩
  have hjl12 := hjl.more hx12
  refine ⟨_, _, _, rfl, fun b16 H17 hn17 => ?_⟩
  have hk := kept_one hn17 hjl12.lt ho12 (fun h => by have := hjl.lt _ h; omega)
  have hjl17 := hjl12.more hn17.ext
  refine (hjl17.commit (by omega) (S' := fun _ => True) (fun _ _ => trivial) trivial (l := [(3, blockB 7)]) hk (by simp) (c := 1)).mono ?_
  have hmay : MayP [((3 : Int), blockB 7)] (((20 : Nat) : Int) - 1 - ((6 : Nat) : Int)) := may_one (by decide) (by decide)
  rintro _ H19 ⟨hx19, e, J', D', rfl, _, ⟨g1, _⟩ | ⟨_, g1, _⟩ | ⟨_, _, rfl, hjl19, hf19⟩ | ⟨_, _, _, _, g1⟩⟩
  · exact absurd hmay g1
  · exact absurd g1 (by decide)
  · refine ⟨_, rfl, fun h => absurd rfl h, fun _ => (hjl19.sync (by omega) (S' := fun x => x = overT (fun _ => zeros) [(3, blockB 7)]) rfl).mono ?_⟩
    rintro _ H22 ⟨hx22, J2, D2, ⟨rfl, hjl22, hf22⟩ | ⟨_, _, _, g1⟩⟩
    · refine ⟨_, rfl, fun h => absurd rfl h, fun _ => (hjl22.jin.dv.crash (by omega) (nil_kept _ _)).mono ?_⟩
      rintro _ H25 ⟨rfl, hx25, hdv25, hat, hf25⟩
      obtain ⟨hm, rfl, hsure⟩ := Live.crash hjl22.live []
      refine ⟨rfl, (hdv25.open_ (by omega) hat hsure (S := fun _ => True) trivial).mono ?_⟩
      rintro _ H27 ⟨hx27, ⟨pj3, J3, D3, rfl, hjl27, hf27, hu3, _⟩ | ⟨_, _, _, hne, _⟩⟩
      · refine ⟨_, _, rfl, fun h => absurd rfl h, fun _ => ⟨fun h => (by cases h), fun _ => (hjl27.read (k := 3) (by decide)).mono ?_⟩⟩
        rintro _ H31 ⟨a32, c34, rfl, ho31, hf31, hjl31, hx31⟩
        have hcur : overT (fun _ => zeros) [(3, blockB 7)] 3 = blockB 7 := rfl
        rw [hcur] at ho31 ⊢
        refine ⟨_, _, _, _, rfl, fun _ => ⟨blockB 7, ho31.row _ _, (block_ok 7 H31).mono ?_⟩, fun h => absurd rfl h⟩
        rintro _ H38 ⟨rfl, ho38, hx38⟩
        have hjl38 := hjl31.more hx38
        refine ⟨_, _, _, rfl, (ho31.ext hx38 (by simp)).row _ _, blockB 7, ho38.row _ _, fun _ => (hjl38.home).mono ?_, fun h => absurd rfl h⟩
        rintro _ _ ⟨rfl, rfl⟩
        refine ⟨_, rfl, fun _ => (jfree_ok hjl38.jin.jd hjl38.jin.jwf (by decide)).mono ?_, fun h => absurd (by decide) h⟩
        rintro _ _ ⟨rfl, rfl⟩
        refine ⟨_, rfl, ?_, hjl38.jin.ext⟩
        rw [hu3, hjl38.live.lays.2.2.1]
        exact congrArg _ (dec_bool ⟨fun _ => rfl, fun _ => by decide⟩)
      · exact absurd hf25 hne
    · exact absurd (hf19 hf) g1
  · exact absurd hf g1

end Go.Proofs
end

