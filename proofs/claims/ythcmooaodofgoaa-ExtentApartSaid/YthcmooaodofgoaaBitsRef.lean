/-
  The contracts of the reference's map of bits. No condition.
-/
import Derived.Test.YthcmooaodofgoaaProg
import Derived.Test.YthcmooaodofgoaaVc
import Derived.Test.YthcmooaodofgoaaBits

section
open Go Go.Vc
namespace Go.Proofs
set_option maxRecDepth 100000
/-- pentimento/pentimentoref6.NewMap -/
theorem vc_rnew (x0 : Int) (H : Heap) (R : Value → Heap → Prop) : Walk Try.prog 21 [] [(.int .i64 x0)] H R = (
  (0 : Int) ≤ (max 0 x0) ∧ ((max 0 x0) : Int) ≤ (max 0 x0) ∧ (1 : Int) * (max 0 x0) ≤ 281474976710656 ∧ ∀ b1 : Nat, ∀ H2 : Heap, New H b1 (List.replicate (Int.toNat (max 0 x0)) (.bool false)) 4 H2 → (
    ∀ b3 : Nat, ∀ H4 : Heap, New H2 b3 [(.slice (some (⟨b1, 0, none⟩ : Addr)) (Int.toNat (max 0 x0)) (Int.toNat (max 0 x0)))] 46 H4 → (
      R (.pointer (some (⟨b3, 0, none⟩ : Addr))) H4))) := by kernel_rfl


/-- (*pentimento/pentimentoref6.Map).Bytes -/
theorem vc_rbytes (x0 : Option Addr) (H : Heap) (R : Value → Heap → Prop) : Walk Try.prog 22 [(4, [])] [(.pointer x0)] H R = (
  ∃ b1 o2 : Nat, x0 = some (⟨b1, o2, none⟩ : Addr) ∧ (
    ∃ a3 : Option Addr, ∃ l4 : Nat, ∃ c5 : Nat, hcell H b1 o2 = some (.slice a3 l4 c5) ∧ (
      (In64 ((l4 : Int) + 7)) ∧
      ((8 : Int) ≠ 0) ∧
      ∀ q6 : Int, q6 = IntKind.wrap .i64 (Int.tdiv ((l4 : Int) + 7) 8) → (
        (0 : Int) ≤ q6 ∧ (q6 : Int) ≤ q6 ∧ (1 : Int) * q6 ≤ 281474976710656 ∧ ∀ b7 : Nat, ∀ H8 : Heap, New H b7 (List.replicate (Int.toNat q6) (.int .u8 0)) 5 H8 → (
          ∃ I9 : Int → Heap → Prop, ∃ μ10 : Int → Heap → Nat, (I9 0 H8) ∧
          ∀ n11 : Int, ∀ H12 : Heap, I9 n11 H12 → (
            ∃ b13 o14 : Nat, x0 = some (⟨b13, o14, none⟩ : Addr) ∧ (
              ∃ a15 : Option Addr, ∃ l16 : Nat, ∃ c17 : Nat, hcell H12 b13 o14 = some (.slice a15 l16 c17) ∧ (
                ((((n11 : Int) < (l16 : Int)) → (
                      ∃ I18 : Heap → Prop, (
                        ∃ b19 o20 : Nat, x0 = some (⟨b19, o20, none⟩ : Addr) ∧ (
                          ∃ a21 : Option Addr, ∃ l22 : Nat, ∃ c23 : Nat, hcell H12 b19 o20 = some (.slice a21 l22 c23) ∧ (
                            (0 : Int) ≤ n11 ∧ (n11 : Int) < (l22 : Int) ∧ ∃ b24 o25 : Nat, a21 = some (⟨b24, o25, none⟩ : Addr) ∧ (
                              ∃ t26 : Bool, hcell H12 b24 (o25 + (Int.toNat n11)) = some (.bool t26) ∧ (
                                ((t26 = true → (
                                      ((8 : Int) ≠ 0) ∧
                                      ∀ q27 : Int, q27 = IntKind.wrap .i64 (Int.tdiv n11 8) → (
                                        ((8 : Int) ≠ 0) ∧
                                        ∀ q28 : Int, q28 = IntKind.wrap .i64 (Int.tdiv n11 8) → (
                                          (0 : Int) ≤ q28 ∧ (q28 : Int) < ((Int.toNat q6) : Int) ∧ ∃ b29 o30 : Nat, (some (⟨b7, 0, none⟩ : Addr)) = some (⟨b29, o30, none⟩ : Addr) ∧ (
                                            ∃ n31 : Int, hcell H12 b29 (o30 + (Int.toNat q28)) = some (.int .u8 n31) ∧ (
                                              ((8 : Int) ≠ 0) ∧
                                              ∀ q32 : Int, q32 = Int.tmod n11 8 → (
                                                ∀ q33 : Int, q33 = IntKind.wrap .u64 q32 → (
                                                  ((0 : Int) ≤ q33) ∧
                                                  ∀ q34 : Int, q34 = IntKind.wrap .u8 (1 * 2 ^ (min q33.toNat (IntKind.bits .u8))) → (
                                                    ∀ q35 : Int, q35 = bits .or .u8 n31 q34 → (
                                                      (0 : Int) ≤ q27 ∧ (q27 : Int) < ((Int.toNat q6) : Int) ∧ ∃ b36 o37 : Nat, (some (⟨b7, 0, none⟩ : Addr)) = some (⟨b36, o37, none⟩ : Addr) ∧ (
                                                        Cells H12 b36 (o37 + (Int.toNat q27)) 1 ∧ ∀ H38 : Heap, Puts H12 b36 (o37 + (Int.toNat q27)) [(.int .u8 q35)] H38 → (
                                                          I18 H38)))))))))))) ∧ (t26 = false → (
                                      I18 H12)))))))) ∧
                      ∀ H39 : Heap, I18 H39 → (
                        (In64 (n11 + 1)) ∧
                        (I9 (n11 + 1) H39) ∧ μ10 (n11 + 1) H39 < μ10 n11 H12))) ∧ (¬ ((n11 : Int) < (l16 : Int)) → (
                      R (.slice (some (⟨b7, 0, none⟩ : Addr)) (Int.toNat q6) (Int.toNat q6)) H12))))))))))) := by kernel_rfl


/-- (*pentimento/pentimentoref6.Map).Run -/
theorem vc_rrun (x0 : Option Addr) (x1 : Int) (H : Heap) (R : Value → Heap → Prop) : Walk Try.prog 24 [(4, [(6, (.int .i64 0))]), (9, [(7, (.int .i64 0))])] [(.pointer x0), (.int .i64 x1)] H R = (
  ∃ I1 : Int → Heap → Prop, (
    ∃ I2 : Int → Heap → Prop, ∃ μ3 : Int → Heap → Nat, (I2 (max 0 x1) H) ∧
    ∀ n4 : Int, ∀ H5 : Heap, I2 n4 H5 → (
      ∃ b6 o7 : Nat, x0 = some (⟨b6, o7, none⟩ : Addr) ∧ (
        ∃ a8 : Option Addr, ∃ l9 : Nat, ∃ c10 : Nat, hcell H5 b6 o7 = some (.slice a8 l9 c10) ∧ (
          ((((n4 : Int) < (l9 : Int)) → (
                ∃ b11 o12 : Nat, x0 = some (⟨b11, o12, none⟩ : Addr) ∧ (
                  ∃ a13 : Option Addr, ∃ l14 : Nat, ∃ c15 : Nat, hcell H5 b11 o12 = some (.slice a13 l14 c15) ∧ (
                    (0 : Int) ≤ n4 ∧ (n4 : Int) < (l14 : Int) ∧ ∃ b16 o17 : Nat, a13 = some (⟨b16, o17, none⟩ : Addr) ∧ (
                      ∃ t18 : Bool, hcell H5 b16 (o17 + (Int.toNat n4)) = some (.bool t18) ∧ (
                        ((t18 = true → (
                              (In64 (n4 + 1)) ∧
                              (I2 (n4 + 1) H5) ∧ μ3 (n4 + 1) H5 < μ3 n4 H5)) ∧ (t18 = false → (
                              I1 n4 H5))))))))) ∧ (¬ ((n4 : Int) < (l9 : Int)) → (
                I1 n4 H5))))))) ∧
  ∀ n19 : Int, ∀ H20 : Heap, I1 n19 H20 → (
    ∃ b21 o22 : Nat, x0 = some (⟨b21, o22, none⟩ : Addr) ∧ (
      ∃ a23 : Option Addr, ∃ l24 : Nat, ∃ c25 : Nat, hcell H20 b21 o22 = some (.slice a23 l24 c25) ∧ (
        (((((l24 : Int) : Int) ≤ n19) → (
              ∃ b26 o27 : Nat, x0 = some (⟨b26, o27, none⟩ : Addr) ∧ (
                ∃ a28 : Option Addr, ∃ l29 : Nat, ∃ c30 : Nat, hcell H20 b26 o27 = some (.slice a28 l29 c30) ∧ (
                  R (.tuple #[(.int .i64 (l29 : Int)), (.int .i64 0)]) H20)))) ∧ (¬ (((l24 : Int) : Int) ≤ n19) → (
              ∃ I31 : Int → Heap → Prop, (
                ∃ I32 : Int → Heap → Prop, ∃ μ33 : Int → Heap → Nat, (I32 0 H20) ∧
                ∀ n34 : Int, ∀ H35 : Heap, I32 n34 H35 → (
                  (In64 (n19 + n34)) ∧
                  ∃ b36 o37 : Nat, x0 = some (⟨b36, o37, none⟩ : Addr) ∧ (
                    ∃ a38 : Option Addr, ∃ l39 : Nat, ∃ c40 : Nat, hcell H35 b36 o37 = some (.slice a38 l39 c40) ∧ (
                      (((((n19 + n34) : Int) < (l39 : Int)) → (
                            ∃ b41 o42 : Nat, x0 = some (⟨b41, o42, none⟩ : Addr) ∧ (
                              ∃ a43 : Option Addr, ∃ l44 : Nat, ∃ c45 : Nat, hcell H35 b41 o42 = some (.slice a43 l44 c45) ∧ (
                                (In64 (n19 + n34)) ∧
                                (0 : Int) ≤ (n19 + n34) ∧ ((n19 + n34) : Int) < (l44 : Int) ∧ ∃ b46 o47 : Nat, a43 = some (⟨b46, o47, none⟩ : Addr) ∧ (
                                  ∃ t48 : Bool, hcell H35 b46 (o47 + (Int.toNat (n19 + n34))) = some (.bool t48) ∧ (
                                    (((t48 = false) → (
                                          (In64 (n34 + 1)) ∧
                                          (I32 (n34 + 1) H35) ∧ μ33 (n34 + 1) H35 < μ33 n34 H35)) ∧ (¬ (t48 = false) → (
                                          I31 n34 H35))))))))) ∧ (¬ (((n19 + n34) : Int) < (l39 : Int)) → (
                            I31 n34 H35))))))) ∧
              ∀ n49 : Int, ∀ H50 : Heap, I31 n49 H50 → (
                R (.tuple #[(.int .i64 n19), (.int .i64 n49)]) H50)))))))) := by kernel_rfl


/-- (*pentimento/pentimentoref6.Map).Free -/
theorem vc_rfree (x0 : Option Addr) (H : Heap) (R : Value → Heap → Prop) : Walk Try.prog 25 [(4, [(3, (.int .i64 0))])] [(.pointer x0)] H R = (
  ∃ I1 : Int → Int → Heap → Prop, ∃ μ2 : Int → Int → Heap → Nat, (I1 0 0 H) ∧
  ∀ n3 : Int, ∀ n4 : Int, ∀ H5 : Heap, I1 n3 n4 H5 → (
    ∃ b6 o7 : Nat, x0 = some (⟨b6, o7, none⟩ : Addr) ∧ (
      ∃ a8 : Option Addr, ∃ l9 : Nat, ∃ c10 : Nat, hcell H5 b6 o7 = some (.slice a8 l9 c10) ∧ (
        ((((n4 : Int) < (l9 : Int)) → (
              ∃ I11 : Int → Heap → Prop, (
                ∃ b12 o13 : Nat, x0 = some (⟨b12, o13, none⟩ : Addr) ∧ (
                  ∃ a14 : Option Addr, ∃ l15 : Nat, ∃ c16 : Nat, hcell H5 b12 o13 = some (.slice a14 l15 c16) ∧ (
                    (0 : Int) ≤ n4 ∧ (n4 : Int) < (l15 : Int) ∧ ∃ b17 o18 : Nat, a14 = some (⟨b17, o18, none⟩ : Addr) ∧ (
                      ∃ t19 : Bool, hcell H5 b17 (o18 + (Int.toNat n4)) = some (.bool t19) ∧ (
                        (((t19 = false) → (
                              (In64 (n3 + 1)) ∧
                              I11 (n3 + 1) H5)) ∧ (¬ (t19 = false) → (
                              I11 n3 H5)))))))) ∧
              ∀ n20 : Int, ∀ H21 : Heap, I11 n20 H21 → (
                (In64 (n4 + 1)) ∧
                (I1 n20 (n4 + 1) H21) ∧ μ2 n20 (n4 + 1) H21 < μ2 n3 n4 H5))) ∧ (¬ ((n4 : Int) < (l9 : Int)) → (
              R (.int .i64 n3) H5))))))) := by kernel_rfl


/-- pentimento/pentimentoref6.LoadMap -/
theorem vc_rload (x0 : Option Addr) (x0l : Nat) (x0c : Nat) (x1 : Int) (H : Heap) (R : Value → Heap → Prop) : Walk Try.prog 26 [] [(.slice x0 x0l x0c), (.int .i64 x1)] H R = (
  Does Try.prog 21 [(.int .i64 x1)] H fun v1 H2 => ∃ p3 : Option Addr, v1 = (.pointer p3) ∧ (
    ∃ b4 o5 : Nat, p3 = some (⟨b4, o5, none⟩ : Addr) ∧ (
      ∃ a6 : Option Addr, ∃ l7 : Nat, ∃ c8 : Nat, hcell H2 b4 o5 = some (.slice a6 l7 c8) ∧ (
        (In64 ((l7 : Int) + 7)) ∧
        ((8 : Int) ≠ 0) ∧
        ∀ q9 : Int, q9 = IntKind.wrap .i64 (Int.tdiv ((l7 : Int) + 7) 8) → (
          (((((x0l : Int) : Int) ≠ q9) → (
                R (.tuple #[(.pointer none), (.bool false)]) H2)) ∧ (¬ (((x0l : Int) : Int) ≠ q9) → (
                ∃ I10 : Int → Heap → Prop, ∃ μ11 : Int → Heap → Nat, (I10 0 H2) ∧
                ∀ n12 : Int, ∀ H13 : Heap, I10 n12 H13 → (
                  ∃ b14 o15 : Nat, p3 = some (⟨b14, o15, none⟩ : Addr) ∧ (
                    ∃ a16 : Option Addr, ∃ l17 : Nat, ∃ c18 : Nat, hcell H13 b14 o15 = some (.slice a16 l17 c18) ∧ (
                      ((((n12 : Int) < (l17 : Int)) → (
                            ∃ b19 o20 : Nat, p3 = some (⟨b19, o20, none⟩ : Addr) ∧ (
                              ∃ a21 : Option Addr, ∃ l22 : Nat, ∃ c23 : Nat, hcell H13 b19 o20 = some (.slice a21 l22 c23) ∧ (
                                ((8 : Int) ≠ 0) ∧
                                ∀ q24 : Int, q24 = IntKind.wrap .i64 (Int.tdiv n12 8) → (
                                  (0 : Int) ≤ q24 ∧ (q24 : Int) < (x0l : Int) ∧ ∃ b25 o26 : Nat, x0 = some (⟨b25, o26, none⟩ : Addr) ∧ (
                                    ∃ n27 : Int, hcell H13 b25 (o26 + (Int.toNat q24)) = some (.int .u8 n27) ∧ (
                                      ((8 : Int) ≠ 0) ∧
                                      ∀ q28 : Int, q28 = Int.tmod n12 8 → (
                                        ∀ q29 : Int, q29 = IntKind.wrap .u64 q28 → (
                                          ((0 : Int) ≤ q29) ∧
                                          ∀ q30 : Int, q30 = Int.fdiv n27 (2 ^ (min q29.toNat (IntKind.bits .u8))) → (
                                            ∀ q31 : Int, q31 = bits .and .u8 q30 1 → (
                                              (0 : Int) ≤ n12 ∧ (n12 : Int) < (l22 : Int) ∧ ∃ b32 o33 : Nat, a21 = some (⟨b32, o33, none⟩ : Addr) ∧ (
                                                Cells H13 b32 (o33 + (Int.toNat n12)) 1 ∧ ∀ H34 : Heap, Puts H13 b32 (o33 + (Int.toNat n12)) [(.bool (@decide ((q31 : Int) = 1) (Classical.propDecidable _)))] H34 → (
                                                  ((In64 (n12 + 1)) ∧
                                                    (I10 (n12 + 1) H34) ∧ μ11 (n12 + 1) H34 < μ11 n12 H13)))))))))))))) ∧ (¬ ((n12 : Int) < (l17 : Int)) → (
                            ∃ l35 : List UInt8, SRow H13 1 x0l (.slice x0 x0l x0c) (List.map (fun (b : UInt8) => Value.int .u8 b.toNat) l35) ∧ (
                              Does Try.prog 22 [(.pointer p3)] H13 fun v36 H37 => ∃ a38 : Option Addr, ∃ l39 : Nat, ∃ c40 : Nat, v36 = (.slice a38 l39 c40) ∧ (
                                SRow H37 1 x0l (.slice x0 x0l x0c) (List.map (fun (b : UInt8) => Value.int .u8 b.toNat) l35) ∧ (∃ l41 : List UInt8, SRow H37 1 l39 (.slice a38 l39 c40) (List.map (fun (b : UInt8) => Value.int .u8 b.toNat) l41) ∧ (
                                    R (.tuple #[(.pointer p3), (.bool (@decide (((ByteArray.mk (List.toArray l41)) : ByteArray) = (ByteArray.mk (List.toArray l35))) (Classical.propDecidable _)))]) H37)))))))))))))))))) := by kernel_rfl


end Go.Proofs
end

section
open Go Go.Vc
namespace Go.Proofs

def boolsV (bs : List Bool) : List Value := bs.map .bool

theorem boolsV_length (bs : List Bool) : (boolsV bs).length = bs.length := by simp [boolsV]
theorem boolsV_get (bs : List Bool) (j : Nat) (h : j < bs.length) : (boolsV bs)[j]? = some (.bool (bs.getD j false)) := by
  simp [boolsV, h]
theorem boolsV_set (bs : List Bool) (j : Nat) (b : Bool) : boolsV (bs.set j b) = (boolsV bs).set j (.bool b) := by
  simp [boolsV, List.map_set]

/-- A map of bits of the reference in a heap. -/
structure IsRef (H : Heap) (pb : Nat) (a : Option Addr) (c : Nat) (bs : List Bool) : Prop where
  head : Blk H pb [.slice a bs.length c]
  own : Own H 1 a bs.length c (boolsV bs)
  apart : pb ∉ blkOf a
  small : bs.length ≤ 1000000000000

theorem IsRef.ext {M : List Nat} {H H' : Heap} {pb : Nat} {a : Option Addr} {c : Nat} {bs : List Bool} (h : IsRef H pb a c bs) (he : Ext M H H') (h1 : pb ∉ M) (h2 : ∀ k, k ∈ blkOf a → k ∉ M) : IsRef H' pb a c bs :=
  ⟨h.head.ext he h1, h.own.ext he h2, h.apart, h.small⟩

/-- An element read. -/
theorem IsRef.get {H : Heap} {pb : Nat} {a : Option Addr} {c : Nat} {bs : List Bool} (h : IsRef H pb a c bs) (j : Nat) (hj : j < bs.length) : ∃ b o, a = some ⟨b, o, none⟩ ∧ hcell H b (o + j) = some (.bool (bs.getD j false)) :=
  (h.own.row bs.length c).get (boolsV_get bs j hj)

/-- An element written. -/
theorem IsRef.put {H : Heap} {pb : Nat} {a : Option Addr} {c : Nat} {bs : List Bool} (h : IsRef H pb a c bs) (j : Nat) (hj : j < bs.length) : ∃ b, a = some ⟨b, 0, none⟩ ∧ Cells H b (0 + j) 1 ∧
    ∀ v H', Puts H b (0 + j) [.bool v] H' → IsRef H' pb a c (bs.set j v) ∧ Ext (blkOf a) H H' := by
  obtain ⟨o1, o2, o3, o4⟩ := h.own
  rcases o4 with ⟨rfl, rfl⟩ | ⟨bb, tail, rfl, hb, hbl⟩
  · omega
  have hin : 0 + j + 1 ≤ (boolsV bs ++ tail).length := by rw [List.length_append, boolsV_length]; omega
  refine ⟨bb, rfl, hb.cells 1 _ hin, fun v H' hp => ?_⟩
  have hb2 := hp.blk hb hin
  have he : Ext (blkOf (some ⟨bb, 0, none⟩)) H H' := hp.ext
  refine ⟨⟨?_, ?_, h.apart, ?_⟩, he⟩
  · rw [List.length_set]
    exact h.head.ext he h.apart
  · rw [List.length_set]
    refine ⟨by rw [boolsV_length, List.length_set, Nat.mul_one], o2, o3, .inr ⟨bb, tail, rfl, ?_, ?_⟩⟩
    · rw [splice_one _ _ _ (by omega), Nat.zero_add, List.set_append_left _ _ (by rw [boolsV_length]; omega)] at hb2
      rw [boolsV_set]
      exact hb2
    · rw [← hbl]
      simp [boolsV_length]
  · rw [List.length_set]; exact h.small

def onB (bs : List Bool) (i : Nat) : Bool := bs.getD i false

theorem rnew_ok (k : Int) (H : Heap) (hk : k ≤ 1000000000000) : Does Try.prog 21 [.int .i64 k] H fun v H' => ∃ pb bb, v = .pointer (some ⟨pb, 0, none⟩) ∧
    IsRef H' pb (some ⟨bb, 0, none⟩) k.toNat (List.replicate k.toNat false) ∧ Ext [] H H' ∧ H.size ≤ pb ∧ H.size ≤ bb := by
  refine Fn_of_vc Try.mixed (vc_rnew _ _ _) ?_
  have e2 : (max 0 k).toNat = k.toNat := by omega
  refine ⟨by omega, Int.le_refl _, by omega, ?_⟩
  intro b H1 h1 b' H2 h2
  rw [e2] at h1 h2 
  have hx := h1.blk
  have hy := h2.blk
  have s1 := h1.size
  have s2 := h2.eq
  have s3 := h1.eq
  refine ⟨b', b, rfl, ⟨by simpa using hy, ?_, by simp [blkOf]; omega, by simp; omega⟩, h1.ext.trans h2.ext, by omega, by omega⟩
  have := Own.of_new (size := 1) (len := k.toNat) (cap := k.toNat) (hx.ext h2.ext (by simp)) (by simp) (Nat.le_refl _) (by unfold maxLen; omega)
  simpa [boolsV, List.map_replicate] using this

theorem rfree_ok {H : Heap} {pb : Nat} {a : Option Addr} {c : Nat} {bs : List Bool} (h : IsRef H pb a c bs) : Does Try.prog 25 [.pointer (some ⟨pb, 0, none⟩)] H fun v H' => v = .int .i64 (cntF (onB bs) bs.length) ∧ H = H' := by
  refine Fn_of_vc Try.mixed (vc_rfree _ _ _) ?_
  have hs := h.small
  refine ⟨fun m k H' => ∃ j : Nat, k = j ∧ j ≤ bs.length ∧ m = cntF (onB bs) j ∧ H = H', fun _ k _ => bs.length - k.toNat, ⟨0, rfl, Nat.zero_le _, rfl, rfl⟩, ?_⟩
  rintro _ _ _ ⟨j, rfl, hj, rfl, rfl⟩
  have hle := cntF_le (onB bs) j
  refine ⟨_, _, rfl, _, _, _, h.head.cell 0, fun h1 => ?_, fun h1 => ?_⟩
  · refine ⟨fun m H' => m = cntF (onB bs) (j + 1) ∧ H = H', ?_, ?_⟩
    · obtain ⟨b, o, ha, hc⟩ := h.get j (by omega)
      refine ⟨_, _, rfl, _, _, _, h.head.cell 0, by omega, h1, b, o, ha, _, hc, fun h2 => ⟨⟨by omega, by omega⟩, ?_, rfl⟩, fun h2 => ⟨?_, rfl⟩⟩
      · have h3 : onB bs j = false := h2
        simp [cntF, h3]
      · have h3 : onB bs j = true := eq_true_of_ne_false h2
        simp [cntF, h3]
    · rintro _ _ ⟨rfl, rfl⟩
      refine ⟨⟨by omega, by omega⟩, ⟨j + 1, by omega, by omega, rfl, rfl⟩, by dsimp only; omega⟩
  · have : j = bs.length := by omega
    subst this
    exact ⟨rfl, rfl⟩

theorem rrun_ok {H : Heap} {pb : Nat} {a : Option Addr} {c : Nat} {bs : List Bool} (h : IsRef H pb a c bs) (k : Int) (_hk : k ≤ 9223372036854775807) : Does Try.prog 24 [.pointer (some ⟨pb, 0, none⟩), .int .i64 k] H fun v H' =>
    v = .tuple #[.int .i64 (runF (onB bs) bs.length k.toNat).1, .int .i64 (runF (onB bs) bs.length k.toNat).2] ∧ H = H' := by
  refine Fn_of_vc Try.mixed (vc_rrun _ _ _ _) ?_
  have hs := h.small
  refine ⟨fun m H' => ∃ j : Nat, m = j ∧ H = H' ∧ (k.toNat ≤ j) ∧ (j ≤ bs.length ∨ j = k.toNat) ∧ j = skipTo (onB bs) (bs.length - k.toNat) k.toNat, ?_, ?_⟩
  · refine ⟨fun m H' => ∃ j : Nat, m = j ∧ H = H' ∧ (k.toNat ≤ j) ∧ (j ≤ bs.length ∨ j = k.toNat) ∧ skipTo (onB bs) (bs.length - j) j = skipTo (onB bs) (bs.length - k.toNat) k.toNat, fun m _ => bs.length - m.toNat, ?_, ?_⟩
    · exact ⟨k.toNat, by omega, rfl, Nat.le_refl _, .inr rfl, rfl⟩
    · rintro _ _ ⟨j, rfl, rfl, hj1, hj2, hj⟩
      refine ⟨_, _, rfl, _, _, _, h.head.cell 0, fun h1 => ?_, fun h1 => ?_⟩
      · obtain ⟨b, o, ha, hc⟩ := h.get j (by omega)
        refine ⟨_, _, rfl, _, _, _, h.head.cell 0, by omega, h1, b, o, ha, _, hc, fun h2 => ⟨⟨by omega, by omega⟩, ⟨j + 1, by omega, rfl, by omega, .inl (by omega), ?_⟩, by dsimp only; omega⟩, fun h2 => ?_⟩
        · rw [skipTo_step (by omega) h2]; exact hj
        · refine ⟨j, rfl, rfl, hj1, hj2, ?_⟩
          rw [← hj, skipTo_stop h2]
      · refine ⟨j, rfl, rfl, hj1, hj2, ?_⟩
        rw [← hj, skipTo_end (by omega)]
  · rintro _ _ ⟨j, rfl, rfl, hj1, hj2, hj⟩
    refine ⟨_, _, rfl, _, _, _, h.head.cell 0, fun h1 => ?_, fun h1 => ?_⟩
    · refine ⟨_, _, rfl, _, _, _, h.head.cell 0, ?_, rfl⟩
      have : runF (onB bs) bs.length k.toNat = (bs.length, 0) := by
        unfold runF
        simp only [← hj]
        rw [if_pos (by omega)]
      rw [this]; rfl
    · have hrun : runF (onB bs) bs.length k.toNat = (j, skipTo (fun i => !onB bs i) (bs.length - j) j - j) := by
        unfold runF
        simp only [← hj]
        rw [if_neg (by omega)]
      refine ⟨fun m H' => ∃ i : Nat, m = i ∧ H = H' ∧ j + i ≤ bs.length ∧ skipTo (fun i => !onB bs i) (bs.length - j) j = j + i, ⟨fun m H' => ∃ i : Nat, m = i ∧ H = H' ∧ j + i ≤ bs.length ∧ skipTo (fun i => !onB bs i) (bs.length - (j + i)) (j + i) = skipTo (fun i => !onB bs i) (bs.length - j) j, fun m _ => bs.length - j - m.toNat, ?_, ?_⟩, ?_⟩
      · exact ⟨0, rfl, rfl, by omega, rfl⟩
      · rintro _ _ ⟨i, rfl, rfl, hi2, hi⟩
        refine ⟨⟨by omega, by omega⟩, _, _, rfl, _, _, _, h.head.cell 0, fun h2 => ?_, fun h2 => ?_⟩
        · obtain ⟨b, o, ha, hc⟩ := h.get (j + i) (by omega)
          have e : ((j : Int) + i).toNat = j + i := by omega
          refine ⟨_, _, rfl, _, _, _, h.head.cell 0, ⟨by omega, by omega⟩, by omega, h2, b, o, ha, _, by rw [e]; exact hc, fun h3 => ⟨⟨by omega, by omega⟩, ⟨i + 1, by omega, rfl, by omega, ?_⟩, by dsimp only; omega⟩, fun h3 => ⟨i, rfl, rfl, hi2, ?_⟩⟩
          · have h4 : (!onB bs (j + i)) = true := by unfold onB; rw [h3]; rfl
            rw [← Nat.add_assoc, skipTo_step (p := fun i => !onB bs i) (by omega) h4]; exact hi
          · have h4 : (!onB bs (j + i)) = false := by unfold onB; rw [eq_true_of_ne_false h3]; rfl
            rw [← hi, skipTo_stop (p := fun i => !onB bs i) h4]
        · refine ⟨i, rfl, rfl, hi2, ?_⟩
          rw [← hi, skipTo_end (by omega)]
      · rintro _ _ ⟨i, rfl, rfl, hi2, hi⟩
        refine ⟨?_, rfl⟩
        rw [hrun, hi]
        simp

end Go.Proofs
end

section
open Go Go.Vc
namespace Go.Proofs

theorem byte_bit (b : UInt8) (i : Nat) (h : 8 ≤ i) : b.toNat.testBit i = false := by
  refine Nat.testBit_lt_two_pow (Nat.lt_of_lt_of_le b.toNat_lt ?_)
  exact Nat.pow_le_pow_right (by decide) h

theorem bits_ext {xs ys : List UInt8} (hl : xs.length = ys.length) (h : ∀ k, bit xs k = bit ys k) : xs = ys := by
  refine List.ext_getElem hl fun j h1 h2 => ?_
  have e : (xs.getD j 0).toNat = (ys.getD j 0).toNat := by
    refine Nat.eq_of_testBit_eq fun i => ?_
    by_cases h8 : i < 8
    · have := h (8 * j + i)
      unfold bit at this
      rw [show (8 * j + i) / 8 = j by omega, show (8 * j + i) % 8 = i by omega] at this
      exact this
    · rw [byte_bit _ i (by omega), byte_bit _ i (by omega)]
  simp only [List.getD_eq_getElem?_getD, List.getElem?_eq_getElem h1, List.getElem?_eq_getElem h2, Option.getD_some] at e
  exact UInt8.toNat_inj.1 e

theorem or_fin : ∀ x : Fin 256, ∀ j : Fin 8, bits .or .u8 (x.val : Int) (IntKind.wrap .u8 (1 * 2 ^ (min j.val 8))) = ((x.val ||| (1 <<< j.val) : Nat) : Int) ∧ x.val ||| (1 <<< j.val) < 256 := by decide +kernel

def orL (xs : List UInt8) (k : Nat) : List UInt8 := xs.set (k / 8) (UInt8.ofNat ((xs.getD (k / 8) 0).toNat ||| (1 <<< (k % 8))))

theorem or_byte (b : UInt8) (q : Int) (h0 : 0 ≤ q) (h1 : q < 8) : bits .or .u8 (b.toNat : Int) (IntKind.wrap .u8 (1 * 2 ^ (min q.toNat (IntKind.bits .u8)))) = ((UInt8.ofNat (b.toNat ||| (1 <<< q.toNat))).toNat : Int) := by
  obtain ⟨h2, h3⟩ := or_fin ⟨b.toNat, b.toNat_lt⟩ ⟨q.toNat, by omega⟩
  simp only at h2 h3
  have : (UInt8.ofNat (b.toNat ||| (1 <<< q.toNat))).toNat = b.toNat ||| (1 <<< q.toNat) := by
    rw [UInt8.toNat_ofNat']
    exact Nat.mod_eq_of_lt h3
  rw [this]
  exact h2

theorem bit_or (xs : List UInt8) (k i : Nat) (hk : k / 8 < xs.length) : bit (orL xs k) i = (decide (i = k) || bit xs i) := by
  unfold bit orL
  have hj : k % 8 < 8 := Nat.mod_lt _ (by decide)
  have hx := (or_fin ⟨(xs.getD (k / 8) 0).toNat, UInt8.toNat_lt _⟩ ⟨k % 8, hj⟩).2
  simp only at hx
  have hf : (UInt8.ofNat ((xs.getD (k / 8) 0).toNat ||| (1 <<< (k % 8)))).toNat = (xs.getD (k / 8) 0).toNat ||| (1 <<< (k % 8)) := by
    rw [UInt8.toNat_ofNat']
    exact Nat.mod_eq_of_lt hx
  by_cases h8 : i / 8 = k / 8
  · rw [h8, List.getD_eq_getElem?_getD, List.getElem?_set_self hk, Option.getD_some, hf, Nat.testBit_or, Nat.one_shiftLeft, Nat.testBit_two_pow]
    by_cases he : i = k
    · subst he
      simp
    · have : ¬ (k % 8 = i % 8) := by omega
      simp [he, this]
  · have he : i ≠ k := by rintro rfl; exact h8 rfl
    rw [List.getD_eq_getElem?_getD, List.getElem?_set_ne (fun h => h8 h.symm), ← List.getD_eq_getElem?_getD]
    simp [he]

theorem bit_zero (m i : Nat) : bit (List.replicate m 0) i = false := by
  unfold bit
  have : (List.replicate m (0 : UInt8)).getD (i / 8) 0 = 0 := by
    rw [List.getD_eq_getElem?_getD, List.getElem?_replicate]
    split <;> rfl
  rw [this]
  exact Nat.zero_testBit _

theorem bit_beyond {xs : List UInt8} {k : Nat} (h : xs.length ≤ k / 8) : bit xs k = false := by
  unfold bit
  rw [List.getD_eq_getElem?_getD, List.getElem?_eq_none h]
  exact Nat.zero_testBit _

theorem lastB_iff {xs : List UInt8} {n : Nat} (hl : xs.length = (n + 7) / 8) : lastB xs n ↔ ∀ k, n ≤ k → bit xs k = false := by
  constructor
  · intro h k hk
    by_cases hb : xs.length ≤ k / 8
    · exact bit_beyond hb
    · rcases h with h | h
      · omega
      · by_cases h8 : n % 8 = 0
        · omega
        · unfold bit
          have e : k / 8 = xs.length - 1 := by omega
          rw [e]
          refine Nat.testBit_lt_two_pow ?_
          have h1 : (xs.getD (xs.length - 1) 0).toNat < 2 ^ (n % 8) := by
            rcases Nat.div_eq_zero_iff.1 h with h2 | h2
            · have := Nat.two_pow_pos (n % 8); omega
            · exact h2
          exact Nat.lt_of_lt_of_le h1 (Nat.pow_le_pow_right (by decide) (by omega))
  · intro h
    by_cases h8 : n % 8 = 0
    · exact .inl h8
    · refine .inr (Nat.eq_of_testBit_eq fun i => ?_)
      rw [Nat.zero_testBit, Nat.testBit_div_two_pow]
      by_cases hi : i + n % 8 < 8
      · have := h (8 * (n / 8) + (i + n % 8)) (by omega)
        unfold bit at this
        rw [show (8 * (n / 8) + (i + n % 8)) / 8 = xs.length - 1 by omega, show (8 * (n / 8) + (i + n % 8)) % 8 = i + n % 8 by omega] at this
        exact this
      · exact byte_bit _ _ (by omega)

theorem wrap_u64 {q : Int} (h0 : 0 ≤ q) (h1 : q < 8) : IntKind.wrap .u64 q = q := by
  rcases (by omega : q = 0 ∨ q = 1 ∨ q = 2 ∨ q = 3 ∨ q = 4 ∨ q = 5 ∨ q = 6 ∨ q = 7) with rfl | rfl | rfl | rfl | rfl | rfl | rfl | rfl <;> decide

/-- The bytes of a list of bits. -/
structure BytesAre (bs : List Bool) (ys : List UInt8) : Prop where
  len : ys.length = (bs.length + 7) / 8
  bits : ∀ k, bit ys k = onB bs k

theorem BytesAre.one {bs : List Bool} {xs ys : List UInt8} (h : BytesAre bs xs) (h' : BytesAre bs ys) : xs = ys :=
  bits_ext (h.len.trans h'.len.symm) fun k => (h.bits k).trans (h'.bits k).symm

theorem onB_beyond {bs : List Bool} {k : Nat} (h : bs.length ≤ k) : onB bs k = false := by
  unfold onB
  rw [List.getD_eq_getElem?_getD, List.getElem?_eq_none h]
  rfl

theorem rbytes_ok {H : Heap} {pb : Nat} {a : Option Addr} {c : Nat} {bs : List Bool} (h : IsRef H pb a c bs) : Does Try.prog 22 [.pointer (some ⟨pb, 0, none⟩)] H fun v H' =>
    ∃ a' ys, v = .slice a' ys.length ys.length ∧ BytesAre bs ys ∧ Own H' 1 a' ys.length ys.length (bytesV ys) ∧ Ext [] H H' ∧ (∀ k, k ∈ blkOf a' → H.size ≤ k) := by
  refine Fn_of_vc Try.mixed (vc_rbytes _ _ _) ?_
  have hs := h.small
  refine ⟨_, _, rfl, _, _, _, h.head.cell 0, ⟨by omega, by omega⟩, by decide, ?_⟩
  intro q hq
  rw [wrap_tdiv (by omega) (by decide) (by omega)] at hq
  obtain ⟨m, rfl⟩ : ∃ m : Nat, q = m := ⟨q.toNat, by omega⟩
  have em : m = (bs.length + 7) / 8 := by omega
  simp only [Int.toNat_natCast]
  refine ⟨by omega, Int.le_refl _, by omega, ?_⟩
  intro b H2 hn
  have hbe := hn.eq
  have hpb := h.head.lt
  have hblt := h.own.lt
  let J : Nat → Heap → Prop := fun i H' => Ext [] H H' ∧ ∃ ys, ys.length = m ∧ Blk H' b (bytesV ys) ∧ (∀ k, bit ys k = (decide (k < i) && onB bs k))
  refine ⟨fun i H' => ∃ j : Nat, i = j ∧ j ≤ bs.length ∧ J j H', fun i _ => bs.length - i.toNat, ⟨0, rfl, Nat.zero_le _, hn.ext, List.replicate m 0, by simp, ?_, fun k => by rw [bit_zero]; simp⟩, ?_⟩
  · have := hn.blk
    simpa [bytesV, List.map_replicate] using this
  · rintro _ H3 ⟨j, rfl, hj, hx, ys, hyl, hblk, hbit⟩
    have h3 := h.ext hx (by simp) (by simp)
    refine ⟨_, _, rfl, _, _, _, h3.head.cell 0, fun h1 => ?_, fun h1 => ?_⟩
    · refine ⟨fun H' => J (j + 1) H', ?_, ?_⟩
      · obtain ⟨b1, o1, ha, hc⟩ := h3.get j (by omega)
        refine ⟨_, _, rfl, _, _, _, h3.head.cell 0, by omega, h1, b1, o1, ha, _, hc, fun h2 => ?_, fun h2 => ⟨hx, ys, hyl, hblk, fun k => ?_⟩⟩
        · refine ⟨by decide, ?_⟩
          rintro q hq
          rw [wrap_tdiv (by omega) (by decide) (by omega)] at hq
          refine ⟨by decide, ?_⟩
          rintro q2 hq2
          rw [wrap_tdiv (by omega) (by decide) (by omega)] at hq2
          have e1 : q.toNat = j / 8 := by omega
          have e2 : q2.toNat = j / 8 := by omega
          have hlt : j / 8 < ys.length := by omega
          refine ⟨by omega, by omega, b, 0, rfl, (ys.getD (j / 8) 0).toNat, ?_, by decide, ?_⟩
          · rw [e2, Nat.zero_add, hblk.cell]
            exact bytesV_get ys _ hlt
          rintro q3 hq3
          rw [tmod_pos (by omega)] at hq3
          rintro q4 hq4
          rw [wrap_u64 (by omega) (by omega)] at hq4
          refine ⟨by omega, ?_⟩
          rintro _ rfl _ rfl
          rw [or_byte _ q4 (by omega) (by omega)]
          have e4 : q4.toNat = j % 8 := by omega
          have hin : 0 + q.toNat + 1 ≤ (bytesV ys).length := by rw [bytesV_length]; omega
          refine ⟨by omega, by omega, b, 0, rfl, hblk.cells 1 _ hin, ?_⟩
          intro H4 hp
          have hb2 := hp.blk hblk hin
          have hxp := hp.ext
          rw [splice_one _ _ _ (by omega), Nat.zero_add, e1, e4] at hb2
          refine ⟨hx.trans' hxp (by intro i hi; simp only [List.mem_singleton] at hi; omega), orL ys j, by simp [orL, hyl], ?_, fun k => ?_⟩
          · rw [orL, bytesV_set]
            exact hb2
          · rw [bit_or ys j k hlt, hbit]
            have h2' : onB bs j = true := h2
            by_cases hk : k = j
            · subst hk; simp [h2']
            · have : (k < j + 1) = (k < j) := by simp; omega
              simp [hk, this]
        · rw [hbit]
          have h2' : onB bs j = false := h2
          by_cases hk : k = j
          · subst hk; simp [h2']
          · have : (k < j + 1) = (k < j) := by simp; omega
            simp [this]
      · intro H4 hj4
        exact ⟨⟨by omega, by omega⟩, ⟨j + 1, by omega, by omega, hj4⟩, by dsimp only; omega⟩
    · have ej : j = bs.length := by omega
      subst ej
      refine ⟨some ⟨b, 0, none⟩, ys, by rw [hyl], ⟨by omega, fun k => ?_⟩, ?_, hx, fun k hk => ?_⟩
      · rw [hbit]
        by_cases hk : k < bs.length
        · simp [hk]
        · rw [onB_beyond (by omega)]; simp
      · have := Own.of_new (size := 1) (len := ys.length) (cap := ys.length) hblk (by simp [bytesV_length]) (Nat.le_refl _) (by unfold maxLen; omega)
        simpa [bytesV_length, List.take_of_length_le] using this
      · simp only [blkOf, List.mem_singleton] at hk
        omega

end Go.Proofs
end

section
open Go Go.Vc
namespace Go.Proofs

theorem and_fin : ∀ x : Fin 256, ∀ j : Fin 8, decide (bits .and .u8 (Int.fdiv (x.val : Int) (2 ^ (min j.val 8))) 1 = 1) = Nat.testBit x.val j.val := by decide +kernel

theorem and_byte (b : UInt8) (q : Int) (h0 : 0 ≤ q) (h1 : q < 8) : (bits .and .u8 (Int.fdiv (b.toNat : Int) (2 ^ (min q.toNat (IntKind.bits .u8)))) 1 = 1) ↔ b.toNat.testBit q.toNat = true := by
  have := and_fin ⟨b.toNat, b.toNat_lt⟩ ⟨q.toNat, by omega⟩
  rw [← this]
  simp [IntKind.bits]

/-- What the reference loads. -/
def RLoaded (H' : Heap) (n : Nat) (xs : List UInt8) (v : Value) : Prop :=
  (xs.length ≠ (n + 7) / 8 ∧ v = .tuple #[.pointer none, .bool false]) ∨
  (xs.length = (n + 7) / 8 ∧ ∃ pb a c bs, v = .tuple #[.pointer (some ⟨pb, 0, none⟩), .bool (decide (lastB xs n))] ∧ IsRef H' pb a c bs ∧ bs.length = n ∧ (∀ k, onB bs k = (decide (k < n) && bit xs k)))

theorem rload_ok {H : Heap} {a : Option Addr} {len cap : Nat} {xs : List UInt8} (h : SRow H 1 len (.slice a len cap) (bytesV xs)) (k : Int) (hk : k ≤ 1000000000000) :
    Does Try.prog 26 [.slice a len cap, .int .i64 k] H fun v H' => RLoaded H' k.toNat xs v ∧ Ext [] H H' := by
  refine Fn_of_vc Try.mixed (vc_rload _ _ _ _ _ _) ?_
  have hlen : xs.length = len := by have := h.1; rw [bytesV_length] at this; omega
  refine (rnew_ok k H hk).mono ?_
  rintro _ H2 ⟨pb, bb, rfl, hm, hx, hp, hb⟩
  generalize k.toNat = n at *
  have hsm := hm.small
  have hml := hm.head.cell 0
  rw [List.length_replicate] at hsm
  refine ⟨_, rfl, _, _, rfl, _, _, _, hml, ⟨by simp; omega, by simp; omega⟩, by decide, ?_⟩
  intro q hq
  rw [List.length_replicate, wrap_tdiv (by omega) (by decide) (by omega)] at hq
  refine ⟨fun h1 => ⟨.inl ⟨by omega, rfl⟩, hx⟩, fun h1 => ?_⟩
  have h1' : xs.length = (n + 7) / 8 := by omega
  let J : Nat → Heap → Prop := fun j H' => Ext [] H H' ∧ ∃ bs, IsRef H' pb (some ⟨bb, 0, none⟩) n bs ∧ bs.length = n ∧ (∀ k, onB bs k = (decide (k < j) && bit xs k))
  refine ⟨fun i H' => ∃ j : Nat, i = j ∧ j ≤ n ∧ J j H', fun i _ => n - i.toNat, ⟨0, rfl, Nat.zero_le _, hx, _, hm, by simp, fun k => ?_⟩, ?_⟩
  · unfold onB
    rw [List.getD_eq_getElem?_getD, List.getElem?_replicate]
    split <;> simp
  · rintro _ H3 ⟨j, rfl, hj, hx3, bs, h3, hbl, hbit⟩
    have hs3 := h.ext hx3 (by simp)
    refine ⟨_, _, rfl, _, _, _, h3.head.cell 0, fun h4 => ?_, fun h4 => ?_⟩
    · refine ⟨_, _, rfl, _, _, _, h3.head.cell 0, by decide, ?_⟩
      intro q hq
      rw [wrap_tdiv (by omega) (by decide) (by omega)] at hq
      have e1 : q.toNat = j / 8 := by omega
      have hlt : j / 8 < xs.length := by omega
      obtain ⟨b, o, ha, hc⟩ := hs3.get (bytesV_get xs _ hlt)
      refine ⟨by omega, by omega, b, o, ha, _, by rw [e1]; exact hc, by decide, ?_⟩
      rintro q3 hq3
      rw [tmod_pos (by omega)] at hq3
      rintro q4 hq4
      rw [wrap_u64 (by omega) (by omega)] at hq4
      refine ⟨by omega, ?_⟩
      rintro _ rfl _ rfl
      obtain ⟨b5, ha5, hc5, hp5⟩ := h3.put j (by omega)
      obtain ⟨rfl⟩ : bb = b5 := by cases ha5; rfl
      refine ⟨by omega, h4, bb, 0, rfl, hc5, ?_⟩
      intro H4 hput
      obtain ⟨h5, hx5⟩ := hp5 _ _ hput
      refine ⟨⟨by omega, by omega⟩, ⟨j + 1, by omega, by omega, hx3.trans' hx5 ?_, _, h5, by simpa using hbl, fun k => ?_⟩, by dsimp only; omega⟩
      · intro i hi
        simp only [blkOf, List.mem_singleton] at hi
        omega
      · have e4 : q4.toNat = j % 8 := by omega
        by_cases hk : k = j
        · subst hk
          unfold onB
          rw [List.getD_eq_getElem?_getD, List.getElem?_set_self (by omega), Option.getD_some]
          have := and_byte (xs.getD (k / 8) 0) q4 (by omega) (by omega)
          rw [e4] at this ⊢
          rw [show (decide (k < k + 1) && bit xs k) = bit xs k by simp]
          unfold bit
          exact dec_bool this
        · have h6 := hbit k
          unfold onB at h6 ⊢
          rw [List.getD_eq_getElem?_getD, List.getElem?_set_ne (fun e => hk e.symm), ← List.getD_eq_getElem?_getD, h6]
          have : (k < j + 1) = (k < j) := by simp; omega
          simp [this]
    · have ej : j = n := by omega
      subst ej
      refine ⟨xs, hs3, (rbytes_ok h3).mono ?_⟩
      rintro _ H5 ⟨a5, ys, rfl, hby, ho5, hx5, _⟩
      refine ⟨_, _, _, rfl, hs3.ext hx5 (by simp), ys, ho5.row _ _, .inr ⟨h1', pb, _, _, bs, ?_, h3.ext hx5 (by simp) (by simp), hbl, hbit⟩, hx3.trans hx5⟩
      have hiff : ((ByteArray.mk ys.toArray : ByteArray) = ByteArray.mk xs.toArray) ↔ lastB xs j := by
        rw [lastB_iff h1', ByteArray.mk.injEq]
        constructor
        · intro e k hk
          have e' : ys = xs := by simpa using e
          rw [← e', hby.bits, hbit]
          have : ¬ k < j := by omega
          simp [this]
        · intro e
          congr 1
          refine bits_ext (by rw [hby.len, h1', hbl]) fun k => ?_
          rw [hby.bits, hbit]
          by_cases hk : k < j
          · simp [hk]
          · rw [e k (by omega)]; simp
      rw [dec_eq hiff]

end Go.Proofs
end

