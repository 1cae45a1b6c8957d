/-
  The law BitsPlay over the contracts, and small laws on bits. No condition.
-/
import Derived.Test.YthcmooaodofgoaaProg
import Derived.Test.YthcmooaodofgoaaVc
import Derived.Test.YthcmooaodofgoaaBitsRef

section
open Go Go.Vc
namespace Go.Proofs
set_option maxRecDepth 100000
/-- pentimento/pentimentolaw6.BitsPlay -/
theorem vc_bplay (x0 : Int) (x1 : Option Addr) (x1l : Nat) (x1c : Nat) (H : Heap) (R : Value → Heap → Prop) : Walk Try.prog 5 [(13, [(11, (.bool false))]), (14, [(12, (.bool false))]), (18, [])] [(.int .i64 x0), (.slice x1 x1l x1c)] H R = (
  Does Try.prog 11 [(.int .i64 x0), (.int .i64 70)] H fun v1 H2 => ∃ n3 : Int, v1 = (.int .i64 n3) ∧ (
    Does Try.prog 12 [(.int .i64 n3)] H2 fun v4 H5 => ∃ p6 : Option Addr, v4 = (.pointer p6) ∧ (
      Does Try.prog 13 [] H5 fun v7 H8 => ∃ t9 : Bool, v7 = (.bool t9) ∧ (
        (((t9 = false) → (
              R (.bool false) H8)) ∧ (¬ (t9 = false) → (
              ((((p6 : Option Addr) = none) → (
                    R (.bool false) H8)) ∧ (¬ ((p6 : Option Addr) = none) → (
                    Does Try.prog 21 [(.int .i64 n3)] H8 fun v10 H11 => ∃ p12 : Option Addr, v10 = (.pointer p12) ∧ (
                      ∃ I13 : Int → Heap → Prop, ∃ μ14 : Int → Heap → Nat, (I13 0 H11) ∧
                      ∀ n15 : Int, ∀ H16 : Heap, I13 n15 H16 → (
                        ((((n15 : Int) < (x1l : Int)) → (
                              ((((n15 : Int) < 50) → (
                                    (0 : Int) ≤ n15 ∧ (n15 : Int) < (x1l : Int) ∧ ∃ b17 o18 : Nat, x1 = some (⟨b17, o18, none⟩ : Addr) ∧ (
                                      ∃ n19 : Int, hcell H16 b17 (o18 + (Int.toNat n15) * 3) = some (.int .i64 n19) ∧ (
                                        (In64 (n3 + 4)) ∧
                                        Does Try.prog 11 [(.int .i64 n19), (.int .i64 (n3 + 4))] H16 fun v20 H21 => ∃ n22 : Int, v20 = (.int .i64 n22) ∧ (
                                          (In64 (n22 - 2)) ∧
                                          Does Try.prog 22 [(.pointer p12)] H21 fun v23 H24 => ∃ a25 : Option Addr, ∃ l26 : Nat, ∃ c27 : Nat, v23 = (.slice a25 l26 c27) ∧ (
                                            ∃ l28 : List UInt8, SRow H24 1 l26 (.slice a25 l26 c27) (List.map (fun (b : UInt8) => Value.int .u8 b.toNat) l28) ∧ (
                                              Does Try.prog 23 [(.pointer p6)] H24 fun v29 H30 => ∃ p31 : Option Addr, v29 = (.pointer p31) ∧ (
                                                ∃ I32 : Bool → Heap → Prop, (
                                                  ((((0 : Int) ≤ (n22 - 2)) → (
                                                        I32 (@decide (((n22 - 2) : Int) < n3) (Classical.propDecidable _)) H30)) ∧ (¬ ((0 : Int) ≤ (n22 - 2)) → (
                                                        I32 false H30)))) ∧
                                                ∀ t33 : Bool, ∀ H34 : Heap, I32 t33 H34 → (
                                                  ∃ I35 : Bool → Heap → Prop, (
                                                    ((t33 = true → (
                                                          ∃ b36 o37 : Nat, p12 = some (⟨b36, o37, none⟩ : Addr) ∧ (
                                                            ∃ a38 : Option Addr, ∃ l39 : Nat, ∃ c40 : Nat, hcell H34 b36 o37 = some (.slice a38 l39 c40) ∧ (
                                                            (In64 (n3 - 1)) ∧
                                                            (0 : Int) ≤ (max 0 (min (n22 - 2) (n3 - 1))) ∧ ((max 0 (min (n22 - 2) (n3 - 1))) : Int) < (l39 : Int) ∧ ∃ b41 o42 : Nat, a38 = some (⟨b41, o42, none⟩ : Addr) ∧ (
                                                            ∃ t43 : Bool, hcell H34 b41 (o42 + (Int.toNat (max 0 (min (n22 - 2) (n3 - 1))))) = some (.bool t43) ∧ (
                                                            (0 : Int) ≤ n15 ∧ (n15 : Int) < (x1l : Int) ∧ ∃ b44 o45 : Nat, x1 = some (⟨b44, o45, none⟩ : Addr) ∧ (
                                                            ∃ t46 : Bool, hcell H34 b44 ((o45 + (Int.toNat n15) * 3) + 1) = some (.bool t46) ∧ (
                                                            I35 (@decide (¬ ((t43 = true) ↔ (t46 = true))) (Classical.propDecidable _)) H34)))))))) ∧ (t33 = false → (
                                                          I35 false H34)))) ∧
                                                  ∀ t47 : Bool, ∀ H48 : Heap, I35 t47 H48 → (
                                                    (0 : Int) ≤ n15 ∧ (n15 : Int) < (x1l : Int) ∧ ∃ b49 o50 : Nat, x1 = some (⟨b49, o50, none⟩ : Addr) ∧ (
                                                      ∃ t51 : Bool, hcell H48 b49 ((o50 + (Int.toNat n15) * 3) + 1) = some (.bool t51) ∧ (
                                                        Does Try.prog 14 [(.pointer p6), (.int .i64 (n22 - 2)), (.bool t51)] H48 fun v52 H53 => ∃ t54 : Bool, v52 = (.bool t54) ∧ (
                                                          (((¬ ((t54 = true) ↔ (t47 = true))) → (
                                                            R (.bool false) H53)) ∧ (¬ (¬ ((t54 = true) ↔ (t47 = true))) → (
                                                            ∃ I55 : Heap → Prop, (
                                                            ((t33 = true → (
                                                            ∃ b56 o57 : Nat, p12 = some (⟨b56, o57, none⟩ : Addr) ∧ (
                                                            ∃ a58 : Option Addr, ∃ l59 : Nat, ∃ c60 : Nat, hcell H53 b56 o57 = some (.slice a58 l59 c60) ∧ (
                                                            (0 : Int) ≤ n15 ∧ (n15 : Int) < (x1l : Int) ∧ ∃ b61 o62 : Nat, x1 = some (⟨b61, o62, none⟩ : Addr) ∧ (
                                                            ∃ t63 : Bool, hcell H53 b61 ((o62 + (Int.toNat n15) * 3) + 1) = some (.bool t63) ∧ (
                                                            (0 : Int) ≤ (n22 - 2) ∧ ((n22 - 2) : Int) < (l59 : Int) ∧ ∃ b64 o65 : Nat, a58 = some (⟨b64, o65, none⟩ : Addr) ∧ (
                                                            Cells H53 b64 (o65 + (Int.toNat (n22 - 2))) 1 ∧ ∀ H66 : Heap, Puts H53 b64 (o65 + (Int.toNat (n22 - 2))) [(.bool t63)] H66 → (
                                                            (I55 H66))))))))) ∧ (t33 = false → (
                                                            I55 H53)))) ∧
                                                            ∀ H67 : Heap, I55 H67 → (
                                                            (0 : Int) ≤ n15 ∧ (n15 : Int) < (x1l : Int) ∧ ∃ b68 o69 : Nat, x1 = some (⟨b68, o69, none⟩ : Addr) ∧ (
                                                            ∃ n70 : Int, hcell H67 b68 ((o69 + (Int.toNat n15) * 3) + 2) = some (.int .i64 n70) ∧ (
                                                            (In64 (n3 + 4)) ∧
                                                            Does Try.prog 11 [(.int .i64 n70), (.int .i64 (n3 + 4))] H67 fun v71 H72 => ∃ n73 : Int, v71 = (.int .i64 n73) ∧ (
                                                            (In64 (n73 - 2)) ∧
                                                            Does Try.prog 15 [(.pointer p6), (.int .i64 (n73 - 2))] H72 fun v74 H75 => ∃ n76 : Int, ∃ n77 : Int, v74 = (.tuple #[(.int .i64 n76), (.int .i64 n77)]) ∧ (
                                                            Does Try.prog 24 [(.pointer p12), (.int .i64 (n73 - 2))] H75 fun v78 H79 => ∃ n80 : Int, ∃ n81 : Int, v78 = (.tuple #[(.int .i64 n80), (.int .i64 n81)]) ∧ (
                                                            Does Try.prog 18 [(.pointer p6)] H79 fun v82 H83 => ∃ a84 : Option Addr, ∃ l85 : Nat, ∃ c86 : Nat, v82 = (.slice a84 l85 c86) ∧ (
                                                            Does Try.prog 19 [(.slice a84 l85 c86), (.int .i64 n3)] H83 fun v87 H88 => ∃ p89 : Option Addr, ∃ n90 : Int, v87 = (.tuple #[(.pointer p89), (.int .i64 n90)]) ∧ (
                                                            ((((p31 : Option Addr) = none) → (
                                                            R (.bool false) H88)) ∧ (¬ ((p31 : Option Addr) = none) → (
                                                            Does Try.prog 18 [(.pointer p31)] H88 fun v91 H92 => ∃ a93 : Option Addr, ∃ l94 : Nat, ∃ c95 : Nat, v91 = (.slice a93 l94 c95) ∧ (
                                                            (∃ l96 : List UInt8, SRow H92 1 l94 (.slice a93 l94 c95) (List.map (fun (b : UInt8) => Value.int .u8 b.toNat) l96) ∧ (
                                                            (((((ByteArray.mk (List.toArray l96)) : ByteArray) ≠ (ByteArray.mk (List.toArray l28))) → (
                                                            R (.bool false) H92)) ∧ (¬ (((ByteArray.mk (List.toArray l96)) : ByteArray) ≠ (ByteArray.mk (List.toArray l28))) → (
                                                            ((((n76 : Int) ≠ n80) → (
                                                            R (.bool false) H92)) ∧ (¬ ((n76 : Int) ≠ n80) → (
                                                            ((((n77 : Int) ≠ n81) → (
                                                            R (.bool false) H92)) ∧ (¬ ((n77 : Int) ≠ n81) → (
                                                            Does Try.prog 17 [(.pointer p6)] H92 fun v97 H98 => ∃ n99 : Int, v97 = (.int .i64 n99) ∧ (
                                                            (Does Try.prog 25 [(.pointer p12)] H98 fun v100 H101 => ∃ n102 : Int, v100 = (.int .i64 n102) ∧ (
                                                            (((((n99 : Int) ≠ n102) → (
                                                            R (.bool false) H101)) ∧ (¬ ((n99 : Int) ≠ n102) → (
                                                            ∃ l103 : List UInt8, SRow H101 1 l85 (.slice a84 l85 c86) (List.map (fun (b : UInt8) => Value.int .u8 b.toNat) l103) ∧ (
                                                            Does Try.prog 22 [(.pointer p12)] H101 fun v104 H105 => ∃ a106 : Option Addr, ∃ l107 : Nat, ∃ c108 : Nat, v104 = (.slice a106 l107 c108) ∧ (
                                                            SRow H105 1 l85 (.slice a84 l85 c86) (List.map (fun (b : UInt8) => Value.int .u8 b.toNat) l103) ∧ (∃ l109 : List UInt8, SRow H105 1 l107 (.slice a106 l107 c108) (List.map (fun (b : UInt8) => Value.int .u8 b.toNat) l109) ∧ (
                                                            (((((ByteArray.mk (List.toArray l103)) : ByteArray) ≠ (ByteArray.mk (List.toArray l109))) → (
                                                            R (.bool false) H105)) ∧ (¬ (((ByteArray.mk (List.toArray l103)) : ByteArray) ≠ (ByteArray.mk (List.toArray l109))) → (
                                                            Does Try.prog 16 [(.pointer p6), (.int .i64 (n22 - 2))] H105 fun v110 H111 => ∃ t112 : Bool, v110 = (.bool t112) ∧ (
                                                            (((t33 = true → (
                                                            (0 : Int) ≤ n15 ∧ (n15 : Int) < (x1l : Int) ∧ ∃ b113 o114 : Nat, x1 = some (⟨b113, o114, none⟩ : Addr) ∧ (
                                                            ∃ t115 : Bool, hcell H111 b113 ((o114 + (Int.toNat n15) * 3) + 1) = some (.bool t115) ∧ (
                                                            (((¬ ((t112 = true) ↔ (t115 = true))) → (
                                                            R (.bool false) H111)) ∧ (¬ (¬ ((t112 = true) ↔ (t115 = true))) → (
                                                            ((((n90 : Int) ≠ 0) → (
                                                            R (.bool false) H111)) ∧ (¬ ((n90 : Int) ≠ 0) → (
                                                            ((((p89 : Option Addr) = none) → (
                                                            R (.bool false) H111)) ∧ (¬ ((p89 : Option Addr) = none) → (
                                                            ∃ l116 : List UInt8, SRow H111 1 l85 (.slice a84 l85 c86) (List.map (fun (b : UInt8) => Value.int .u8 b.toNat) l116) ∧ (
                                                            Does Try.prog 18 [(.pointer p89)] H111 fun v117 H118 => ∃ a119 : Option Addr, ∃ l120 : Nat, ∃ c121 : Nat, v117 = (.slice a119 l120 c121) ∧ (
                                                            SRow H118 1 l85 (.slice a84 l85 c86) (List.map (fun (b : UInt8) => Value.int .u8 b.toNat) l116) ∧ (∃ l122 : List UInt8, SRow H118 1 l120 (.slice a119 l120 c121) (List.map (fun (b : UInt8) => Value.int .u8 b.toNat) l122) ∧ (
                                                            (((((ByteArray.mk (List.toArray l122)) : ByteArray) ≠ (ByteArray.mk (List.toArray l116))) → (
                                                            R (.bool false) H118)) ∧ (¬ (((ByteArray.mk (List.toArray l122)) : ByteArray) ≠ (ByteArray.mk (List.toArray l116))) → (
                                                            Does Try.prog 17 [(.pointer p89)] H118 fun v123 H124 => ∃ n125 : Int, v123 = (.int .i64 n125) ∧ (
                                                            (Does Try.prog 17 [(.pointer p6)] H124 fun v126 H127 => ∃ n128 : Int, v126 = (.int .i64 n128) ∧ (
                                                            (((((n125 : Int) ≠ n128) → (
                                                            R (.bool false) H127)) ∧ (¬ ((n125 : Int) ≠ n128) → (
                                                            (In64 (n15 + 1)) ∧
                                                            (I13 (n15 + 1) H127) ∧ μ14 (n15 + 1) H127 < μ14 n15 H16))))))))))))))))))))))))))) ∧ (t33 = false → (
                                                            (((¬ ((t112 = true) ↔ False)) → (
                                                            R (.bool false) H111)) ∧ (¬ (¬ ((t112 = true) ↔ False)) → (
                                                            ((((n90 : Int) ≠ 0) → (
                                                            R (.bool false) H111)) ∧ (¬ ((n90 : Int) ≠ 0) → (
                                                            ((((p89 : Option Addr) = none) → (
                                                            R (.bool false) H111)) ∧ (¬ ((p89 : Option Addr) = none) → (
                                                            ∃ l129 : List UInt8, SRow H111 1 l85 (.slice a84 l85 c86) (List.map (fun (b : UInt8) => Value.int .u8 b.toNat) l129) ∧ (
                                                            Does Try.prog 18 [(.pointer p89)] H111 fun v130 H131 => ∃ a132 : Option Addr, ∃ l133 : Nat, ∃ c134 : Nat, v130 = (.slice a132 l133 c134) ∧ (
                                                            SRow H131 1 l85 (.slice a84 l85 c86) (List.map (fun (b : UInt8) => Value.int .u8 b.toNat) l129) ∧ (∃ l135 : List UInt8, SRow H131 1 l133 (.slice a132 l133 c134) (List.map (fun (b : UInt8) => Value.int .u8 b.toNat) l135) ∧ (
                                                            (((((ByteArray.mk (List.toArray l135)) : ByteArray) ≠ (ByteArray.mk (List.toArray l129))) → (
                                                            R (.bool false) H131)) ∧ (¬ (((ByteArray.mk (List.toArray l135)) : ByteArray) ≠ (ByteArray.mk (List.toArray l129))) → (
                                                            Does Try.prog 17 [(.pointer p89)] H131 fun v136 H137 => ∃ n138 : Int, v136 = (.int .i64 n138) ∧ (
                                                            (Does Try.prog 17 [(.pointer p6)] H137 fun v139 H140 => ∃ n141 : Int, v139 = (.int .i64 n141) ∧ (
                                                            (((((n138 : Int) ≠ n141) → (
                                                            R (.bool false) H140)) ∧ (¬ ((n138 : Int) ≠ n141) → (
                                                            (In64 (n15 + 1)) ∧
                                                            (I13 (n15 + 1) H140) ∧ μ14 (n15 + 1) H140 < μ14 n15 H16))))))))))))))))))))))))))))))))))))))))))))))))))))))))))))))))))))))))))))))))) ∧ (¬ ((n15 : Int) < 50) → (
                                    R (.bool true) H16))))) ∧ (¬ ((n15 : Int) < (x1l : Int)) → (
                              R (.bool true) H16))))))))))))))) := by kernel_rfl


end Go.Proofs
end

section
open Go Go.Vc
namespace Go.Proofs

theorem onB_set (bs : List Bool) (k i : Nat) (v : Bool) (hk : k < bs.length) : onB (bs.set k v) i = if i = k then v else onB bs i := by
  unfold onB
  by_cases h : i = k
  · subst h
    rw [if_pos rfl, List.getD_eq_getElem?_getD, List.getElem?_set_self hk, Option.getD_some]
  · rw [if_neg h, List.getD_eq_getElem?_getD, List.getElem?_set_ne (fun e => h e.symm), ← List.getD_eq_getElem?_getD]

theorem BytesAre.same {bs : List Bool} {xs : List UInt8} (h : BytesAre bs xs) {k : Nat} (hk : k < bs.length) {on : Bool} (e : bit xs k = on) : BytesAre (bs.set k on) xs := by
  refine ⟨by rw [List.length_set]; exact h.len, fun i => ?_⟩
  rw [onB_set _ _ _ _ hk]
  split
  · subst_vars; rfl
  · exact h.bits i

theorem BytesAre.flip {bs : List Bool} {xs : List UInt8} (h : BytesAre bs xs) {k : Nat} (hk : k < bs.length) {on : Bool} (e : bit xs k ≠ on) : BytesAre (bs.set k on) (flipL xs k) := by
  have hl := h.len
  refine ⟨by rw [List.length_set, flipL_length]; exact h.len, fun i => ?_⟩
  rw [onB_set _ _ _ _ hk, bit_flip _ _ _ (by omega)]
  split
  · revert e
    cases bit xs k <;> cases on <;> simp
  · exact h.bits i

theorem runF_congr {p q : Nat → Bool} {n k : Nat} (h : ∀ i, p i = q i) : runF p n k = runF q n k := by
  have : p = q := funext h
  rw [this]

theorem step_at {H : Heap} {a : Option Addr} {len cap : Nat} {rows : List (List Value)} (hl : rows.length = len) (hs : SRow H 3 len (.slice a len cap) rows.flatten) (hw : ∀ r ∈ rows, CellsAre [.i .i64, .b, .i .i64] r) (i : Nat) (hi : i < len) :
    ∃ b o k on f, a = some ⟨b, o, none⟩ ∧ hcell H b (o + i * 3) = some (.int .i64 k) ∧ hcell H b ((o + i * 3) + 1) = some (.bool on) ∧ hcell H b ((o + i * 3) + 2) = some (.int .i64 f) := by
  have hr : rows[i]? = some (rows[i]'(by omega)) := List.getElem?_eq_getElem (by omega)
  have hc := hw _ (List.getElem_mem (show i < rows.length by omega))
  have hlen : ∀ r ∈ rows, r.length = 3 := fun r hr => (hw r hr).length
  generalize rows[i]'(by omega) = r at *
  have h0 := flatten_at (j := 0) hlen hr (by decide)
  have h1 := flatten_at (j := 1) hlen hr (by decide)
  have h2 := flatten_at (j := 2) hlen hr (by decide)
  match r, hc with
  | [.int k z, .bool on, .int k' f], hc =>
    obtain ⟨⟨rfl, _⟩, _, ⟨rfl, _⟩, _⟩ := hc
    obtain ⟨b, o, rfl, c0⟩ := hs.at (h0.trans rfl)
    obtain ⟨b1, o1, e1, c1⟩ := hs.at (h1.trans rfl)
    obtain ⟨b2, o2, e2, c2⟩ := hs.at (h2.trans rfl)
    cases e1
    cases e2
    refine ⟨b, o, z, on, f, rfl, c0, ?_, ?_⟩
    · rw [Nat.add_assoc]; exact c1
    · rw [Nat.add_assoc]; exact c2

theorem bplay_law (H : Heap) (n : Int) (_ : (Lit.int .i64 n).wf = true) (a : Option Addr) (len cap : Nat) (rows : List (List Value)) (hl : rows.length = len) (_ : len ≤ maxLen) (hs : SRow H 3 len (.slice a len cap) rows.flatten) (hw : ∀ r ∈ rows, CellsAre [.i .i64, .b, .i .i64] r) :
    Does Try.prog 5 [.int .i64 n, .slice a len cap] H fun v H' => v = .bool true ∧ Ext [] H H' := by
  refine Fn_of_vc Try.mixed (vc_bplay _ _ _ _ _ _) ?_
  refine (pick_ok n 70 H (by decide) (by decide)).mono ?_
  rintro _ _ ⟨rfl, rfl⟩
  have p0 := Int.emod_nonneg n (show (70 : Int) ≠ 0 by decide)
  have p1 := Int.emod_lt_of_pos n (show (0 : Int) < 70 by decide)
  generalize n % 70 = k at *
  obtain ⟨n, rfl⟩ : ∃ n : Nat, k = n := ⟨k.toNat, by omega⟩
  refine ⟨_, rfl, (new_ok n H (by omega)).mono ?_⟩
  rintro _ H2 ⟨pb, bb, rfl, h, hx, hp, hb⟩
  refine ⟨_, rfl, (known_ok H2).mono ?_⟩
  rintro _ H5 ⟨rfl, hx5⟩
  have hne : ∀ {x : Addr}, ¬ ((some x : Option Addr) = none) := by intro x e; cases e
  refine ⟨_, rfl, fun e => (by cases e), fun _ => ⟨fun e => absurd e hne, fun _ => ?_⟩⟩
  have h5 := h.ext hx5 (by simp) (by simp)
  have hx5' := hx.trans hx5
  simp only [Int.toNat_natCast] at h5
  refine (rnew_ok n H5 (by omega)).mono ?_
  rintro _ H11 ⟨qb, rb, rfl, hr, hx11, hq, hrb⟩
  simp only [Int.toNat_natCast] at hr
  have h11 := h5.ext hx11 (by simp) (by simp)
  have l1 := h5.head.lt
  have l2 : bb < H5.size := h5.own.lt _ (by simp [blkOf])
  have l3 := hx5'.size
  let J : Heap → Prop := fun H' => Ext [] H H' ∧ ∃ xs bs, IsMap H' pb (some ⟨bb, 0, none⟩) ((n + 7) / 8) n xs ∧ IsRef H' qb (some ⟨rb, 0, none⟩) n bs ∧ bs.length = n ∧ BytesAre bs xs
  have j11 : J H11 := ⟨hx5'.trans hx11, _, _, h11, hr, by simp, by simp, fun k => by
    rw [bit_zero]
    unfold onB
    rw [List.getD_eq_getElem?_getD, List.getElem?_replicate]
    split <;> rfl⟩
  refine ⟨_, rfl, fun i H' => 0 ≤ i ∧ J H', fun i _ => 50 - i.toNat, ⟨by decide, j11⟩, ?_⟩
  rintro i H16 ⟨hi0, hj⟩
  have hj' := hj
  obtain ⟨hx16, xs, bs, hmap, href, hbl, hby⟩ := hj'
  refine ⟨fun h1 => ⟨fun h2 => ?_, fun _ => ⟨rfl, hx16⟩⟩, fun _ => ⟨rfl, hx16⟩⟩
  obtain ⟨b, o, sk, on, sf, rfl, c0, c1, c2⟩ := step_at hl hs hw i.toNat (by omega)
  refine ⟨hi0, h1, b, o, rfl, _, hcell_ext c0 hx16 (by simp), ⟨by omega, by omega⟩, ?_⟩
  refine (pick_ok sk (n + 4) H16 (by omega) (by omega)).mono ?_
  rintro _ _ ⟨rfl, rfl⟩
  have q0 := Int.emod_nonneg sk (show (n : Int) + 4 ≠ 0 by omega)
  have q1 := Int.emod_lt_of_pos sk (show (0 : Int) < n + 4 by omega)
  generalize sk % ((n : Int) + 4) = kk at *
  refine ⟨_, rfl, ⟨by omega, by omega⟩, ?_⟩
  obtain ⟨k, hk⟩ : ∃ k : Int, kk - 2 = k := ⟨_, rfl⟩
  simp only [hk]
  refine (rbytes_ok href).mono ?_
  rintro _ H24 ⟨a24, ys, rfl, hby24, ho24, hx24, hf24⟩
  have e24 := hby.one hby24
  subst e24
  have hm24 := hmap.ext hx24 (by simp) (by simp)
  have hr24 := href.ext hx24 (by simp) (by simp)
  refine ⟨_, _, _, rfl, xs, ho24.row _ _, (copy_ok hm24).mono ?_⟩
  rintro _ H30 ⟨cb, ca, cc, rfl, hcopy, hx30, hcb, hca⟩
  have hm30 := hm24.ext hx30 (by simp) (by simp)
  have hr30 := hr24.ext hx30 (by simp) (by simp)
  have hxx : Ext [] H H30 := hx16.trans (hx24.trans hx30)
  let inn : Bool := decide (0 ≤ k ∧ k < n)
  refine ⟨_, rfl, fun t H' => t = inn ∧ H30 = H', ⟨fun h3 => ⟨?_, rfl⟩, fun h3 => ⟨?_, rfl⟩⟩, ?_⟩
  · refine dec_bool ?_
    simp [inn, h3]
  · simp [inn, h3]
  rintro _ _ ⟨rfl, rfl⟩
  let turned : Bool := inn && (getB n xs k != on)
  refine ⟨fun t H' => t = turned ∧ H30 = H', ⟨fun h3 => ?_, fun h3 => ⟨?_, rfl⟩⟩, ?_⟩
  · have hin : 0 ≤ k ∧ k < n := by simpa [inn] using h3
    have ek : max 0 (min k ((n : Int) - 1)) = k := by omega
    obtain ⟨b6, o6, ha6, hc6⟩ := hr30.get k.toNat (by omega)
    refine ⟨_, _, rfl, _, _, _, hr30.head.cell 0, ⟨by omega, by omega⟩, by omega, by rw [hbl]; omega, b6, o6, ha6, _, by rw [ek]; exact hc6, hi0, h1, b, o, rfl, _, hcell_ext c1 hxx (by simp), ?_, rfl⟩
    refine dec_bool ?_
    have e7 : getB n xs k = bs.getD k.toNat false := by
      have := getB_nat n xs k.toNat (by omega)
      rw [show ((k.toNat : Nat) : Int) = k by omega] at this
      rw [this, hby.bits]
      rfl
    simp only [turned, h3, Bool.true_and, e7]
    cases bs.getD k.toNat false <;> cases on <;> simp
  · simp [turned, h3]
  rintro _ _ ⟨rfl, rfl⟩
  have gk : inn = true → getB n xs k = bit xs k.toNat ∧ k.toNat < n := fun hi => by
    have hin : 0 ≤ k ∧ k < n := by simpa [inn] using hi
    have := getB_nat n xs k.toNat (by omega)
    rw [show ((k.toNat : Nat) : Int) = k by omega] at this
    exact ⟨this, by omega⟩
  have hset : Does Try.prog 14 [.pointer (some ⟨pb, 0, none⟩), .int .i64 k, .bool on] H30 fun v H53 => ∃ xs', v = .bool turned ∧ Ext [bb] H30 H53 ∧ IsMap H53 pb (some ⟨bb, 0, none⟩) ((n + 7) / 8) n xs' ∧
      (inn = true → BytesAre (bs.set k.toNat on) xs') ∧ (inn = false → xs' = xs) := by
    refine (set_ok hm30 k on).mono ?_
    rintro _ H53 (⟨rfl, rfl, hh⟩ | ⟨rfl, hh1, hh2, hh3, hh4, hh5⟩)
    · have hg : inn = true → getB n xs k = on := fun hi => by
        have hin : 0 ≤ k ∧ k < n := by simpa [inn] using hi
        rcases hh with hh | hh | hh
        · omega
        · omega
        · exact hh
      refine ⟨xs, ?_, Ext.refl _ _, hm30, fun hi => hby.same (by have := (gk hi).2; omega) ((gk hi).1 ▸ hg hi), fun _ => rfl⟩
      cases hi : inn with
      | false => simp [turned, hi]
      | true => simp [turned, hi, hg hi]
    · have hi : inn = true := by simp [inn, hh1, hh2]
      refine ⟨flipL xs k.toNat, ?_, hh5, hh4, fun _ => hby.flip (by have := (gk hi).2; omega) ((gk hi).1 ▸ hh3), fun e => (by rw [hi] at e; cases e)⟩
      simp [turned, hi, hh3]
  refine ⟨hi0, h1, b, o, rfl, _, hcell_ext c1 hxx (by simp), hset.mono ?_⟩
  rintro _ H53 ⟨xs', rfl, hx53, hm53, hin1, hin0⟩
  have l4 := hx24.size
  have l5 := hx30.size
  have l6 := hx16.size
  have l7 : bb < H30.size := hm30.own.lt _ (by simp [blkOf])
  have l8 : pb < H24.size := hm24.head.lt
  have l9 : bb < H24.size := hm24.own.lt _ (by simp [blkOf])
  have hr53 := hr30.ext hx53 (by simp; omega) (by intro j hj; simp only [blkOf, List.mem_singleton] at hj ⊢; omega)
  have hc53 := hcopy.ext hx53 (by simp; omega) (by intro j hj; have := hca j hj; simp only [List.mem_singleton]; omega)
  have hxe53 : Ext [] H H53 := hxx.trans' hx53 (by intro i hi; simp only [List.mem_singleton] at hi; omega)
  let M : Heap → Prop := fun H' => Ext [] H H' ∧ ∃ bs', IsMap H' pb (some ⟨bb, 0, none⟩) ((n + 7) / 8) n xs' ∧ IsRef H' qb (some ⟨rb, 0, none⟩) n bs' ∧ bs'.length = n ∧ BytesAre bs' xs' ∧ getB n xs' k = (inn && on) ∧ IsMap H' cb ca cc n xs
  refine ⟨_, rfl, fun e => absurd Iff.rfl e, fun _ => ⟨M, ⟨fun hi => ?_, fun hi => ?_⟩, ?_⟩⟩
  · have hin : 0 ≤ k ∧ k < n := by simpa [inn] using hi
    obtain ⟨b5, ha5, hc5, hp5⟩ := hr53.put k.toNat (by omega)
    obtain ⟨rfl⟩ : rb = b5 := by cases ha5; rfl
    refine ⟨_, _, rfl, _, _, _, hr53.head.cell 0, hi0, h1, b, o, rfl, _, hcell_ext c1 hxe53 (by simp), hin.1, by rw [hbl]; exact hin.2, rb, 0, rfl, hc5, fun H66 hput => ?_⟩
    obtain ⟨hr66, hx66⟩ := hp5 _ _ hput
    have hx66' : Ext [rb] H53 H66 := hx66
    have hg := hin1 hi
    refine ⟨hxe53.trans' hx66' (by intro i hi; simp only [List.mem_singleton] at hi; omega), _, hm53.ext hx66' (by simp; omega) (by simp [blkOf]; omega), hr66, by simpa using hbl, hg, ?_, hc53.ext hx66' ?_ ?_⟩
    · have := getB_nat n xs' k.toNat (by omega)
      rw [show ((k.toNat : Nat) : Int) = k by omega] at this
      rw [this, hg.bits, onB_set _ _ _ _ (by omega), if_pos rfl, hi]
      rfl
    · have := hr24.own.lt rb (by simp [blkOf])
      simp; omega
    · intro j hj
      have := hca j hj
      have := hr24.own.lt rb (by simp [blkOf])
      simp only [List.mem_singleton]
      omega
  · have := hin0 hi
    subst this
    refine ⟨hxe53, bs, hm53, hr53, hbl, hby, ?_, hc53⟩
    have hin : ¬ (0 ≤ k ∧ k < n) := by simpa [inn] using hi
    rw [hi]
    unfold getB
    by_cases h0 : 0 ≤ k
    · have : ¬ k < n := fun e => hin ⟨h0, e⟩
      simp [this]
    · simp [h0]
  · rintro H67 ⟨hx67, bs', hm67, hr67, hbl', hby', hgk, hc67⟩
    refine ⟨hi0, h1, b, o, rfl, _, hcell_ext c2 hx67 (by simp), ⟨by omega, by omega⟩, (pick_ok sf (n + 4) H67 (by omega) (by omega)).mono ?_⟩
    rintro _ _ ⟨rfl, rfl⟩
    have r0 := Int.emod_nonneg sf (show (n : Int) + 4 ≠ 0 by omega)
    have r1 := Int.emod_lt_of_pos sf (show (0 : Int) < n + 4 by omega)
    generalize sf % ((n : Int) + 4) = fk at *
    refine ⟨_, rfl, ⟨by omega, by omega⟩, (run_ok hm67 (fk - 2) (by omega)).mono ?_⟩
    rintro _ _ ⟨rfl, rfl⟩
    refine ⟨_, _, rfl, (rrun_ok hr67 (fk - 2) (by omega)).mono ?_⟩
    rintro _ _ ⟨rfl, rfl⟩
    have hfun : onB bs' = bit xs' := funext fun i => (hby'.bits i).symm
    rw [hfun, hbl']
    refine ⟨_, _, rfl, (bytes_ok hm67).mono ?_⟩
    rintro _ H83 ⟨a83, c83, rfl, ho83, hx83, _⟩
    have hload : loadB xs' n := ⟨by rw [hby'.len, hbl'], (lastB_iff (by rw [hby'.len, hbl'])).2 fun j hj => by rw [hby'.bits, onB_beyond (by omega)]⟩
    refine ⟨_, _, _, rfl, (load_ok (ho83.row _ _) n (by omega)).mono ?_⟩
    rintro _ H88 ⟨⟨hno, _⟩ | ⟨_, lb, la, lc, rfl, hld, _, _⟩, hx88⟩
    · exact absurd hload hno
    have hc88 := hc67.ext (hx83.trans hx88) (by simp) (by simp)
    refine ⟨_, _, rfl, fun e => absurd e hne, fun _ => (bytes_ok hc88).mono ?_⟩
    rintro _ H92 ⟨a92, c92, rfl, ho92, hx92, _⟩
    have hm92 := hm67.ext (hx83.trans (hx88.trans hx92)) (by simp) (by simp)
    have hr92 := hr67.ext (hx83.trans (hx88.trans hx92)) (by simp) (by simp)
    refine ⟨_, _, _, rfl, xs, ho92.row _ _, fun e => absurd rfl e, fun _ => ⟨fun e => absurd rfl e, fun _ => ⟨fun e => absurd rfl e, fun _ => (free_ok hm92).mono ?_⟩⟩⟩
    rintro _ _ ⟨rfl, rfl⟩
    refine ⟨_, rfl, (rfree_ok hr92).mono ?_⟩
    rintro _ _ ⟨rfl, rfl⟩
    rw [hfun, hbl']
    refine ⟨_, rfl, fun e => absurd rfl e, fun _ => ⟨xs', (ho83.ext (hx88.trans hx92) (by simp)).row _ _, (rbytes_ok hr92).mono ?_⟩⟩
    rintro _ H105 ⟨a105, ys, rfl, hby105, ho105, hx105, _⟩
    have e105 := hby'.one hby105
    subst e105
    have ho83' := ho83.ext (hx88.trans (hx92.trans hx105)) (by simp)
    refine ⟨_, _, _, rfl, ho83'.row _ _, xs', ho105.row _ _, fun e => absurd rfl e, fun _ => ?_⟩
    have hm105 := hm92.ext hx105 (by simp) (by simp)
    have hr105 := hr92.ext hx105 (by simp) (by simp)
    have hl105 := hld.ext (hx92.trans hx105) (by simp) (by simp)
    have hx105' : Ext [] H H105 := hx67.trans (hx83.trans (hx88.trans (hx92.trans hx105)))
    refine (get_ok hm105 k).mono ?_
    rintro _ _ ⟨rfl, rfl⟩
    refine ⟨_, rfl, fun hi => ⟨hi0, h1, b, o, rfl, _, hcell_ext c1 hx105' (by simp), fun e => absurd ?a1 e, fun _ => ⟨fun e => absurd rfl e, fun _ => ⟨fun e => absurd e hne, fun _ => ⟨xs', ho83'.row _ _, (bytes_ok hl105).mono ?t1⟩⟩⟩⟩,
      fun hi => ⟨fun e => absurd ?a2 e, fun _ => ⟨fun e => absurd rfl e, fun _ => ⟨fun e => absurd e hne, fun _ => ⟨xs', ho83'.row _ _, (bytes_ok hl105).mono ?t2⟩⟩⟩⟩⟩
    case a1 => rw [hgk, hi]; simp
    case a2 => rw [hgk, hi]; simp
    all_goals
      rintro _ H118 ⟨a118, c118, rfl, ho118, hx118, _⟩
      have hl118 := hl105.ext hx118 (by simp) (by simp)
      have hm118 := hm105.ext hx118 (by simp) (by simp)
      have hr118 := hr105.ext hx118 (by simp) (by simp)
      refine ⟨_, _, _, rfl, (ho83'.ext hx118 (by simp)).row _ _, xs', ho118.row _ _, fun e => absurd rfl e, fun _ => (free_ok hl118).mono ?_⟩
      rintro _ _ ⟨rfl, rfl⟩
      refine ⟨_, rfl, (free_ok hm118).mono ?_⟩
      rintro _ _ ⟨rfl, rfl⟩
      exact ⟨_, rfl, fun e => absurd rfl e, fun _ => ⟨⟨by omega, by omega⟩, ⟨by omega, hx105'.trans hx118, xs', bs', hm118, hr118, hbl', hby'⟩, by omega⟩⟩

end Go.Proofs
end

