/-
  The law JournalReads is true and changes nothing that was there, whatever the input. No condition.
-/
import Derived.Test.YtmijngnbbpilmaaJnC
import Derived.Test.YtmijngnbbpilmaaProg
import Derived.Test.YtmijngnbbpilmaaVd
import Derived.Test.YtmijngnbbpilmaaRows
import Derived.WalkKit
import Derived.ProofKit
import Derived.OpenShut
import Derived.ShutString
import Derived.ChangeOld
import Derived.Below

section
open Go Go.Vc
namespace Go.Proofs

theorem jneeds_law (H : Heap) (n : Int) (_ : (Lit.int .i64 n).wf = true) (m : Int) (_ : (Lit.int .i64 m).wf = true) : Does Try.prog 3 [.int .i64 n, .int .i64 m] H fun v H' => v = .bool true ∧ Ext [] H H' := by
  refine Fn_of_vc Try.mixed (vcl_jneeds _ _ _ _) ?_
  refine (pick_ok n 5000 H (by decide) (by decide)).mono ?_
  rintro _ _ ⟨rfl, rfl⟩
  have a0 := Int.emod_nonneg n (show (5000 : Int) ≠ 0 by decide)
  have a1 := Int.emod_lt_of_pos n (show (0 : Int) < 5000 by decide)
  generalize n % 5000 = n' at *
  refine ⟨_, rfl, (pick_ok m 5000 H (by decide) (by decide)).mono ?_⟩
  rintro _ _ ⟨rfl, rfl⟩
  have b0 := Int.emod_nonneg m (show (5000 : Int) ≠ 0 by decide)
  have b1 := Int.emod_lt_of_pos m (show (0 : Int) < 5000 by decide)
  generalize m % 5000 = m' at *
  refine ⟨_, rfl, (needs_ok n' H (by omega)).mono ?_⟩
  rintro _ _ ⟨rfl, rfl⟩
  refine ⟨_, rfl, ⟨by omega, by omega⟩, ⟨by omega, by omega⟩, (known_ok H).mono ?_⟩
  rintro _ H11 ⟨rfl, hx⟩
  have hk : (n' < 1 ∧ needsN n' = 0) ∨ (1 ≤ n' ∧ n' * 132 + 2 ≤ needsN n' * 116 ∧ needsN n' * 116 < n' * 132 + 2 + 116) := by
    unfold needsN
    split
    · exact .inl ⟨by assumption, rfl⟩
    · exact .inr ⟨by omega, by omega, by omega⟩
  have hm : m' < 1 ∧ needsN m' = 0 ∨ 1 ≤ m' ∧ m' * 132 + 2 ≤ needsN m' * 116 ∧ needsN m' * 116 < m' * 132 + 2 + 116 := by
    unfold needsN
    split
    · exact .inl ⟨by assumption, rfl⟩
    · exact .inr ⟨by omega, by omega, by omega⟩
  have last : ¬ m' < n' → Does Try.prog 9 [.int .i64 m'] H11 fun v13 H14 => ∃ n15 : Int, v13 = .int .i64 n15 ∧ (Value.bool (@decide (needsN n' ≤ n15) (Classical.propDecidable _)) = .bool true ∧ Ext [] H H14) := fun hmn => by
    refine (needs_ok m' H11 (by omega)).mono ?_
    rintro _ _ ⟨rfl, rfl⟩
    exact ⟨_, rfl, congrArg _ (dec_bool ⟨fun _ => rfl, fun _ => by omega⟩), hx⟩
  refine ⟨true, rfl, fun _ => ⟨fun h1 => ⟨fun h2 => ⟨fun _ => ⟨rfl, hx⟩, last⟩, fun h2 => by omega⟩, fun h1 => ⟨fun h2 => ⟨⟨by omega, by omega⟩, fun h3 => ⟨⟨by omega, by omega⟩, ⟨by omega, by omega⟩, fun h4 => ⟨fun _ => ⟨rfl, hx⟩, last⟩, fun h4 => by omega⟩, fun h3 => by omega⟩, fun h2 => by omega⟩⟩, fun h => by cases h⟩

theorem commit_used {n z B : Nat} {J : Jn} {D : Dev} {cur : Nat → Octs} {S : (Nat → Octs) → Prop} (h : LiveA n z B J D cur S) {l : List Wr} (hm : MayP l (n - 1 - z : Int)) (hfit : needsN l.length ≤ J.h.size - J.used) (h0 : (commitM n l J D).2.2 = 0) : (commitM n l J D).2.1.used = J.used + needsN l.length := by
  have hly := h.lays
  obtain ⟨e, s, T, f, base, h, hc, hS⟩ := h
  have hzn := hly.1
  have hj0 : 0 ≤ J.used := by rw [h.used]; omega
  unfold commitM at h0 ⊢
  rw [hly.2.2.2.2.2.2.2, if_neg (by simp [mayB, hm]), if_neg (by simp [h.jdead]), if_neg (by omega), if_neg (by omega)] at h0 ⊢
  unfold layE layM at h0 ⊢
  have hlb : ∀ b ∈ laidB J.h l, b.length = 128 := fun b hb => by
    unfold laidB at hb
    obtain ⟨k, hk, rfl⟩ := List.mem_map.1 hb
    exact jblk_len hm.full (by simpa using hk)
  have hz : J.h.size = z := hly.2.2.1
  rcases layW_cases (n := n) (laidB J.h l) J.used h.at_ hj0 (by rw [laidB_len]; have := needs_nat l; omega) hlb with ⟨g1, g2, g3, g4⟩ | ⟨g1, ⟨i, g2⟩, g3⟩
  · simp only [g1, ne_eq, not_true, if_false]
    show (layW n (laidB J.h l) J.used D).2.1 = _
    rw [g2, laidB_len, needs_nat]
  · simp only [g1, ne_eq, show ¬ ((4 : Int) = 0) by decide, not_false_eq_true, if_true] at h0

theorem lay_h {n : Nat} {l : List Wr} {J : Jn} {D : Dev} : (layE n l J D).2.1.h.size = J.h.size := by
  unfold layE layM
  simp only
  split <;> rfl
theorem commit_h {n : Nat} {l : List Wr} {J : Jn} {D : Dev} : (commitM n l J D).2.1.h.size = J.h.size := by
  have hk := checkpoint_h (n := n) (J := J) (D := D)
  unfold commitM
  split
  · rfl
  split
  · rfl
  split
  · rfl
  split
  · split
    · rw [hk]
    · rw [lay_h, hk]
  · exact lay_h

/-- The head of a row of writes. -/
theorem MySeq.kept1 {n0 : Nat} {H : Heap} {a : Option Addr} {n c : Nat} {xs : List Wr} {F : Nat → Prop} (h : MySeq writeE n0 H a n c xs) (hF : ∀ k, F k → k < n0) {x : Wr} {r : List Wr} (hx : xs = x :: r) : KeptW F H a [x] := by
  intro H' he
  obtain ⟨vs, h1, h2, h3⟩ := h.kept hF H' he
  subst hx
  obtain ⟨v, q1, q2⟩ := h3 0 x rfl
  cases vs with
  | nil => simp at h2
  | cons v' vs =>
    simp only [List.getElem?_cons_zero, Option.some.injEq] at q1
    subst q1
    have hv := writeE.len q2
    refine ⟨[v'], ?_, rfl, fun i y hy => ?_⟩
    · obtain ⟨g1, g2⟩ := h1
      refine ⟨by simp only [List.flatten_cons, List.flatten_nil, List.append_nil]; rw [hv]; rfl, ?_⟩
      cases a with
      | none =>
        have g2 : (v' :: vs).flatten = [] := g2
        rw [List.flatten_cons, List.append_eq_nil_iff] at g2
        rw [g2.1] at hv
        simp [writeE] at hv
      | some ad =>
        obtain ⟨g3, g4⟩ := g2
        refine ⟨.inr ?_, fun j u hj => g4 j u ?_⟩
        · rcases g3 with g3 | g3
          · rw [List.flatten_cons, List.append_eq_nil_iff] at g3
            rw [g3.1] at hv
            simp [writeE] at hv
          · exact g3
        · simp only [List.flatten_cons, List.flatten_nil, List.append_nil] at hj
          rw [List.flatten_cons, List.getElem?_append_left (List.getElem?_eq_some_iff.1 hj).1]
          exact hj
    · cases i with
      | zero => cases hy; exact ⟨_, rfl, q2⟩
      | succ i => simp at hy
end Go.Proofs
end

section
open Go Go.Vc
namespace Go.Proofs
set_option maxRecDepth 100000
/-- pentimento/pentimentolaw5.JournalReads -/
theorem vcl_reads (x0 : Int) (x1 : Option Addr) (x1l : Nat) (x1c : Nat) (H : Heap) (R : Value → Heap → Prop) : Walk Try.prog 4 [(18, []), (33, [(5, (.pointer none))])] [(.int .i64 x0), (.slice x1 x1l x1c)] H R = (
  Does Try.prog 8 [(.int .i64 x0), (.int .i64 20)] H fun v1 H2 => ∃ n3 : Int, v1 = (.int .i64 n3) ∧ (
    (In64 (4 + n3)) ∧
    (In64 ((4 + n3) + 10)) ∧
    Does Try.prog 11 [(.int .i64 ((4 + n3) + 10)), (.int .i64 (4 + n3))] H2 fun v4 H5 => ∃ p6 : Option Addr, ∃ p7 : Option Addr, v4 = (.tuple #[(.pointer p6), (.pointer p7)]) ∧ (
      Does Try.prog 10 [] H5 fun v8 H9 => ∃ t10 : Bool, v8 = (.bool t10) ∧ (
        (((t10 = false) → (
              R (.bool false) H9)) ∧ (¬ (t10 = false) → (
              ((((p6 : Option Addr) = none) → (
                    R (.bool false) H9)) ∧ (¬ ((p6 : Option Addr) = none) → (
                    ((((p7 : Option Addr) = none) → (
                          R (.bool false) H9)) ∧ (¬ ((p7 : Option Addr) = none) → (
                          ∃ I11 : Option Addr → Nat → Nat → Int → Heap → Prop, ∃ μ12 : Option Addr → Nat → Nat → Int → Heap → Nat, (I11 none 0 0 0 H9) ∧
                          ∀ a13 : Option Addr, ∀ l14 : Nat, ∀ c15 : Nat, ∀ n16 : Int, ∀ H17 : Heap, I11 a13 l14 c15 n16 H17 → (
                            Does Try.prog 12 [(.pointer p6)] H17 fun v18 H19 => ∃ n20 : Int, v18 = (.int .i64 n20) ∧ (
                              ((((n16 : Int) < n20) → (
                                    Does Try.prog 13 [(.int .i64 0)] H19 fun v21 H22 => ∃ a23 : Option Addr, ∃ l24 : Nat, ∃ c25 : Nat, v21 = (.slice a23 l24 c25) ∧ (
                                      ∃ l26 : List UInt8, SRow H22 1 l24 (.slice a23 l24 c25) (List.map (fun (b : UInt8) => Value.int .u8 b.toNat) l26) ∧ (
                                        ∀ b27 : Nat, ∀ H28 : Heap, New H22 b27 [(.string (ByteArray.mk (List.toArray l26)))] 9 H28 → (
                                          ∃ old29 new30 : List Value, SRow H28 1 l14 (.slice a13 l14 c15) old29 ∧ SRow H28 1 1 (.slice (some (⟨b27, 0, none⟩ : Addr)) 1 1) new30 ∧ (∀ u ∈ new30, Value.oneCell' u = true) ∧ (l14 + 1) * 16 ≤ 140737488355328 ∧ (l14 + 1 ≤ c15 → roomOf H28 a13 (l14 * 1) (1 * 1)) ∧ ∀ a31 : Option Addr, ∀ c32 : Nat, ∀ H33 : Heap, App H28 1 9 [(.string (ByteArray.mk #[]))] a13 l14 c15 old29 new30 1 a31 c32 H33 → (
                                            (In64 (n16 + 1)) ∧
                                            (I11 a31 (l14 + 1) c32 (n16 + 1) H33) ∧ μ12 a31 (l14 + 1) c32 (n16 + 1) H33 < μ12 a13 l14 c15 n16 H17)))))) ∧ (¬ ((n16 : Int) < n20) → (
                                    ∃ I34 : Option Addr → Int → Heap → Prop, ∃ μ35 : Option Addr → Int → Heap → Nat, (I34 p6 0 H19) ∧
                                    ∀ p36 : Option Addr, ∀ n37 : Int, ∀ H38 : Heap, I34 p36 n37 H38 → (
                                      ((((n37 : Int) < (x1l : Int)) → (
                                            ((((n37 : Int) < 25) → (
                                                  ∃ I39 : Option Addr → Heap → Prop, (
                                                    (0 : Int) ≤ n37 ∧ (n37 : Int) < (x1l : Int) ∧ ∃ b40 o41 : Nat, x1 = some (⟨b40, o41, none⟩ : Addr) ∧ (
                                                      ∃ n42 : Int, hcell H38 b40 (o41 + (Int.toNat n37) * 4) = some (.int .i64 n42) ∧ (
                                                        Does Try.prog 8 [(.int .i64 n42), (.int .i64 8)] H38 fun v43 H44 => ∃ n45 : Int, v43 = (.int .i64 n45) ∧ (
                                                          ((((n45 : Int) = 5) → (
                                                            Does Try.prog 14 [(.pointer p36)] H44 fun v46 H47 => ∃ n48 : Int, v46 = (.int .i64 n48) ∧ (
                                                            ((((n48 : Int) ≠ 0) → (
                                                            R (.bool false) H47)) ∧ (¬ ((n48 : Int) ≠ 0) → (
                                                            I39 p36 H47)))))) ∧ (¬ ((n45 : Int) = 5) → (
                                                            ((((n45 : Int) = 6) → (
                                                            Does Try.prog 15 [(.pointer p36)] H44 fun v49 H50 => ∃ n51 : Int, v49 = (.int .i64 n51) ∧ (
                                                            ((((n51 : Int) ≠ 0) → (
                                                            R (.bool false) H50)) ∧ (¬ ((n51 : Int) ≠ 0) → (
                                                            Does Try.prog 16 [(.pointer p36)] H50 fun v52 H53 => ∃ n54 : Int, v52 = (.int .i64 n54) ∧ (
                                                            ((((n54 : Int) ≠ (4 + n3)) → (
                                                            R (.bool false) H53)) ∧ (¬ ((n54 : Int) ≠ (4 + n3)) → (
                                                            I39 p36 H53)))))))))) ∧ (¬ ((n45 : Int) = 6) → (
                                                            ((((n45 : Int) = 7) → (
                                                            Does Try.prog 17 [(.pointer p7)] H44 fun v55 H56 => ∃ p57 : Option Addr, ∃ n58 : Int, v55 = (.tuple #[(.pointer p57), (.int .i64 n58)]) ∧ (
                                                            ((((n58 : Int) ≠ 0) → (
                                                            R (.bool false) H56)) ∧ (¬ ((n58 : Int) ≠ 0) → (
                                                            ((((p57 : Option Addr) = none) → (
                                                            R (.bool false) H56)) ∧ (¬ ((p57 : Option Addr) = none) → (
                                                            I39 p57 H56))))))))) ∧ (¬ ((n45 : Int) = 7) → (
                                                            (0 : Int) ≤ n37 ∧ (n37 : Int) < (x1l : Int) ∧ ∃ b59 o60 : Nat, x1 = some (⟨b59, o60, none⟩ : Addr) ∧ (
                                                            ∃ n61 : Int, hcell H44 b59 (o60 + (Int.toNat n37) * 4) = some (.int .i64 n61) ∧ (
                                                            ∃ n62 : Int, hcell H44 b59 ((o60 + (Int.toNat n37) * 4) + 1) = some (.int .i64 n62) ∧ (
                                                            ∃ a63 : Option Addr, ∃ l64 : Nat, ∃ c65 : Nat, hcell H44 b59 (((o60 + (Int.toNat n37) * 4) + 1) + 1) = some (.slice a63 l64 c65) ∧ (
                                                            ∃ a66 : Option Addr, ∃ l67 : Nat, ∃ c68 : Nat, hcell H44 b59 ((((o60 + (Int.toNat n37) * 4) + 1) + 1) + 1) = some (.slice a66 l67 c68) ∧ (
                                                            Does Try.prog 12 [(.pointer p36)] H44 fun v69 H70 => ∃ n71 : Int, v69 = (.int .i64 n71) ∧ (
                                                            isL H70 b59 (o60 + (Int.toNat n37) * 4) [(.int .i64 n61), (.int .i64 n62), (.slice a63 l64 c65), (.slice a66 l67 c68)] ∧ (Does Try.prog 18 [(.agg #[(.int .i64 n61), (.int .i64 n62), (.slice a63 l64 c65), (.slice a66 l67 c68)]), (.int .i64 n71), (.int .i64 4)] H70 fun v72 H73 => ∃ a74 : Option Addr, ∃ l75 : Nat, ∃ c76 : Nat, ∃ a77 : Option Addr, ∃ l78 : Nat, ∃ c79 : Nat, v72 = (.tuple #[(.slice a74 l75 c76), (.slice a77 l78 c79)]) ∧ (
                                                            (Does Try.prog 19 [(.pointer p36), (.slice a74 l75 c76)] H73 fun v80 H81 => ∃ n82 : Int, v80 = (.int .i64 n82) ∧ (
                                                            ∃ I83 : Heap → Prop, (
                                                            ((((n82 : Int) ≠ 0) → (
                                                            ((((n82 : Int) ≠ 1) → (
                                                            ((((n82 : Int) ≠ 5) → (
                                                            R (.bool false) H81)) ∧ (¬ ((n82 : Int) ≠ 5) → (
                                                            Does Try.prog 9 [(.int .i64 (l75 : Int))] H81 fun v84 H85 => ∃ n86 : Int, v84 = (.int .i64 n86) ∧ (
                                                            ((((n86 : Int) ≤ (4 + n3)) → (
                                                            R (.bool false) H85)) ∧ (¬ ((n86 : Int) ≤ (4 + n3)) → (
                                                            I83 H85))))))))) ∧ (¬ ((n82 : Int) ≠ 1) → (
                                                            I83 H81))))) ∧ (¬ ((n82 : Int) ≠ 0) → (
                                                            I83 H81)))) ∧
                                                            ∀ H87 : Heap, I83 H87 → (
                                                            ∃ I88 : Int → Heap → Prop, ∃ μ89 : Int → Heap → Nat, (I88 0 H87) ∧
                                                            ∀ n90 : Int, ∀ H91 : Heap, I88 n90 H91 → (
                                                            ((((n90 : Int) < (l75 : Int)) → (
                                                            ((((n82 : Int) = 0) → (
                                                            (0 : Int) ≤ n90 ∧ (n90 : Int) < (l75 : Int) ∧ ∃ b92 o93 : Nat, a74 = some (⟨b92, o93, none⟩ : Addr) ∧ (
                                                            ∃ n94 : Int, hcell H91 b92 (o93 + (Int.toNat n90) * 2) = some (.int .i64 n94) ∧ (
                                                            (0 : Int) ≤ n90 ∧ (n90 : Int) < (l75 : Int) ∧ ∃ b95 o96 : Nat, a74 = some (⟨b95, o96, none⟩ : Addr) ∧ (
                                                            ∃ a97 : Option Addr, ∃ l98 : Nat, ∃ c99 : Nat, hcell H91 b95 ((o96 + (Int.toNat n90) * 2) + 1) = some (.slice a97 l98 c99) ∧ (
                                                            ∃ l100 : List UInt8, SRow H91 1 l98 (.slice a97 l98 c99) (List.map (fun (b : UInt8) => Value.int .u8 b.toNat) l100) ∧ (
                                                            (0 : Int) ≤ n94 ∧ (n94 : Int) < (l14 : Int) ∧ ∃ b101 o102 : Nat, a13 = some (⟨b101, o102, none⟩ : Addr) ∧ (
                                                            Cells H91 b101 (o102 + (Int.toNat n94)) 1 ∧ ∀ H103 : Heap, Puts H91 b101 (o102 + (Int.toNat n94)) [(.string (ByteArray.mk (List.toArray l100)))] H103 → (
                                                            ((In64 (n90 + 1)) ∧
                                                            (I88 (n90 + 1) H103) ∧ μ89 (n90 + 1) H103 < μ89 n90 H91)))))))))) ∧ (¬ ((n82 : Int) = 0) → (
                                                            I39 p36 H91))))) ∧ (¬ ((n90 : Int) < (l75 : Int)) → (
                                                            I39 p36 H91)))))))))))))))))))))))))))) ∧
                                                  ∀ p104 : Option Addr, ∀ H105 : Heap, I39 p104 H105 → (
                                                    ∃ I106 : Int → Heap → Prop, ∃ μ107 : Int → Heap → Nat, (I106 0 H105) ∧
                                                    ∀ n108 : Int, ∀ H109 : Heap, I106 n108 H109 → (
                                                      ((((n108 : Int) < (l14 : Int)) → (
                                                            Does Try.prog 20 [(.pointer p104), (.int .i64 n108)] H109 fun v110 H111 => ∃ a112 : Option Addr, ∃ l113 : Nat, ∃ c114 : Nat, ∃ n115 : Int, v110 = (.tuple #[(.slice a112 l113 c114), (.int .i64 n115)]) ∧ (
                                                            ((((n115 : Int) ≠ 0) → (
                                                            R (.bool false) H111)) ∧ (¬ ((n115 : Int) ≠ 0) → (
                                                            ∃ l116 : List UInt8, SRow H111 1 l113 (.slice a112 l113 c114) (List.map (fun (b : UInt8) => Value.int .u8 b.toNat) l116) ∧ (
                                                            (0 : Int) ≤ n108 ∧ (n108 : Int) < (l14 : Int) ∧ ∃ b117 o118 : Nat, a13 = some (⟨b117, o118, none⟩ : Addr) ∧ (
                                                            ∃ s119 : ByteArray, hcell H111 b117 (o118 + (Int.toNat n108)) = some (.string s119) ∧ (
                                                            (((((ByteArray.mk (List.toArray l116)) : ByteArray) ≠ s119) → (
                                                            R (.bool false) H111)) ∧ (¬ (((ByteArray.mk (List.toArray l116)) : ByteArray) ≠ s119) → (
                                                            (In64 (n108 + 1)) ∧
                                                            (I106 (n108 + 1) H111) ∧ μ107 (n108 + 1) H111 < μ107 n108 H109)))))))))))) ∧ (¬ ((n108 : Int) < (l14 : Int)) → (
                                                            (In64 (n37 + 1)) ∧
                                                            (I34 p104 (n37 + 1) H109) ∧ μ35 p104 (n37 + 1) H109 < μ35 p36 n37 H38))))))) ∧ (¬ ((n37 : Int) < 25) → (
                                                  R (.bool true) H38))))) ∧ (¬ ((n37 : Int) < (x1l : Int)) → (
                                            R (.bool true) H38)))))))))))))))))))))) := by kernel_rfl


/-- pentimento/pentimentolaw5.JournalEpochs -/
theorem vcl_epochs (x0 : Option Addr) (x0l : Nat) (x0c : Nat) (x1 : Option Addr) (x1l : Nat) (x1c : Nat) (H : Heap) (R : Value → Heap → Prop) : Walk Try.prog 5 [(999999, []), (15, [(9, (.slice none 0 0))])] [(.slice x0 x0l x0c), (.slice x1 x1l x1c)] H R = (
  Does Try.prog 11 [(.int .i64 30), (.int .i64 16)] H fun v1 H2 => ∃ p3 : Option Addr, ∃ p4 : Option Addr, v1 = (.tuple #[(.pointer p3), (.pointer p4)]) ∧ (
    Does Try.prog 10 [] H2 fun v5 H6 => ∃ t7 : Bool, v5 = (.bool t7) ∧ (
      (((t7 = false) → (
            R (.bool false) H6)) ∧ (¬ (t7 = false) → (
            ((((p3 : Option Addr) = none) → (
                  R (.bool false) H6)) ∧ (¬ ((p3 : Option Addr) = none) → (
                  ((((p4 : Option Addr) = none) → (
                        R (.bool false) H6)) ∧ (¬ ((p4 : Option Addr) = none) → (
                        ∃ I8 : Option Addr → Int → Heap → Prop, ∃ μ9 : Option Addr → Int → Heap → Nat, (I8 p3 0 H6) ∧
                        ∀ p10 : Option Addr, ∀ n11 : Int, ∀ H12 : Heap, I8 p10 n11 H12 → (
                          ((((n11 : Int) < (x0l : Int)) → (
                                ((((n11 : Int) < 10) → (
                                      ∃ I13 : Int → Heap → Prop, ∃ μ14 : Int → Heap → Nat, (I13 0 H12) ∧
                                      ∀ n15 : Int, ∀ H16 : Heap, I13 n15 H16 → (
                                        ((((n15 : Int) < 4) → (
                                              (0 : Int) ≤ n11 ∧ (n11 : Int) < (x0l : Int) ∧ ∃ b17 o18 : Nat, x0 = some (⟨b17, o18, none⟩ : Addr) ∧ (
                                                ∃ n19 : Int, hcell H16 b17 ((o18 + (Int.toNat n11) * 4) + 1) = some (.int .i64 n19) ∧ (
                                                  ∀ q20 : Int, q20 = IntKind.wrap .i64 (n19 + n15) → (
                                                    ∀ q21 : Int, q21 = IntKind.wrap .i64 (n11 * 7) → (
                                                      ∀ q22 : Int, q22 = IntKind.wrap .i64 (1 + q21) → (
                                                        ∀ q23 : Int, q23 = IntKind.wrap .i64 (q22 + n15) → (
                                                          Does Try.prog 12 [(.pointer p10)] H16 fun v24 H25 => ∃ n26 : Int, v24 = (.int .i64 n26) ∧ (
                                                            isL H25 b17 ((o18 + (Int.toNat n11) * 4) + 1) [(.int .i64 n19)] ∧ (Does Try.prog 8 [(.int .i64 q20), (.int .i64 n26)] H25 fun v27 H28 => ∃ n29 : Int, v27 = (.int .i64 n29) ∧ (
                                                            (Does Try.prog 13 [(.int .i64 q23)] H28 fun v30 H31 => ∃ a32 : Option Addr, ∃ l33 : Nat, ∃ c34 : Nat, v30 = (.slice a32 l33 c34) ∧ (
                                                            (∀ b35 : Nat, ∀ H36 : Heap, New H31 b35 [(.int .i64 n29), (.slice a32 l33 c34)] 48 H36 → (
                                                            (Does Try.prog 19 [(.pointer p10), (.slice (some (⟨b35, 0, none⟩ : Addr)) 1 1)] H36 fun v37 H38 => ∃ n39 : Int, v37 = (.int .i64 n39) ∧ (
                                                            (((((n39 : Int) ≠ 0) → (
                                                            R (.bool false) H38)) ∧ (¬ ((n39 : Int) ≠ 0) → (
                                                            ∀ q40 : Int, q40 = IntKind.wrap .i64 (n15 + 1) → (
                                                            (I13 q40 H38) ∧ μ14 q40 H38 < μ14 n15 H16)))))))))))))))))))))) ∧ (¬ ((n15 : Int) < 4) → (
                                              ∃ I41 : Option Addr → Nat → Nat → Heap → Prop, (
                                                ((((n11 : Int) < (x1l : Int)) → (
                                                      (0 : Int) ≤ n11 ∧ (n11 : Int) < (x1l : Int) ∧ ∃ b42 o43 : Nat, x1 = some (⟨b42, o43, none⟩ : Addr) ∧ (
                                                        ∃ a44 : Option Addr, ∃ l45 : Nat, ∃ c46 : Nat, hcell H16 b42 (o43 + (Int.toNat n11)) = some (.slice a44 l45 c46) ∧ (
                                                          I41 a44 l45 c46 H16)))) ∧ (¬ ((n11 : Int) < (x1l : Int)) → (
                                                      I41 none 0 0 H16)))) ∧
                                              ∀ a47 : Option Addr, ∀ l48 : Nat, ∀ c49 : Nat, ∀ H50 : Heap, I41 a47 l48 c49 H50 → (
                                                Does Try.prog 21 [(.pointer p4), (.slice a47 l48 c49)] H50 fun v51 H52 => v51 = (.tuple #[]) ∧ (
                                                  Does Try.prog 17 [(.pointer p4)] H52 fun v53 H54 => ∃ p55 : Option Addr, ∃ n56 : Int, v53 = (.tuple #[(.pointer p55), (.int .i64 n56)]) ∧ (
                                                    ((((n56 : Int) ≠ 0) → (
                                                          R (.bool false) H54)) ∧ (¬ ((n56 : Int) ≠ 0) → (
                                                          ((((p55 : Option Addr) = none) → (
                                                            R (.bool false) H54)) ∧ (¬ ((p55 : Option Addr) = none) → (
                                                            ∃ I57 : Option Addr → Nat → Nat → Int → Heap → Prop, ∃ μ58 : Option Addr → Nat → Nat → Int → Heap → Nat, (I57 none 0 0 0 H54) ∧
                                                            ∀ a59 : Option Addr, ∀ l60 : Nat, ∀ c61 : Nat, ∀ n62 : Int, ∀ H63 : Heap, I57 a59 l60 c61 n62 H63 → (
                                                            Does Try.prog 12 [(.pointer p55)] H63 fun v64 H65 => ∃ n66 : Int, v64 = (.int .i64 n66) ∧ (
                                                            ((((n62 : Int) < n66) → (
                                                            Does Try.prog 20 [(.pointer p55), (.int .i64 n62)] H65 fun v67 H68 => ∃ a69 : Option Addr, ∃ l70 : Nat, ∃ c71 : Nat, ∃ n72 : Int, v67 = (.tuple #[(.slice a69 l70 c71), (.int .i64 n72)]) ∧ (
                                                            ∃ l73 : List UInt8, SRow H68 1 l70 (.slice a69 l70 c71) (List.map (fun (b : UInt8) => Value.int .u8 b.toNat) l73) ∧ (
                                                            ∀ b74 : Nat, ∀ H75 : Heap, New H68 b74 [(.string (ByteArray.mk (List.toArray l73)))] 9 H75 → (
                                                            ∃ old76 new77 : List Value, SRow H75 1 l60 (.slice a59 l60 c61) old76 ∧ SRow H75 1 1 (.slice (some (⟨b74, 0, none⟩ : Addr)) 1 1) new77 ∧ (∀ u ∈ new77, Value.oneCell' u = true) ∧ (l60 + 1) * 16 ≤ 140737488355328 ∧ (l60 + 1 ≤ c61 → roomOf H75 a59 (l60 * 1) (1 * 1)) ∧ ∀ a78 : Option Addr, ∀ c79 : Nat, ∀ H80 : Heap, App H75 1 9 [(.string (ByteArray.mk #[]))] a59 l60 c61 old76 new77 1 a78 c79 H80 → (
                                                            ∀ q81 : Int, q81 = IntKind.wrap .i64 (n62 + 1) → (
                                                            (I57 a78 (l60 + 1) c79 q81 H80) ∧ μ58 a78 (l60 + 1) c79 q81 H80 < μ58 a59 l60 c61 n62 H63))))))) ∧ (¬ ((n62 : Int) < n66) → (
                                                            (0 : Int) ≤ n11 ∧ (n11 : Int) < (x0l : Int) ∧ ∃ b82 o83 : Nat, x0 = some (⟨b82, o83, none⟩ : Addr) ∧ (
                                                            ∃ n84 : Int, hcell H65 b82 ((o83 + (Int.toNat n11) * 4) + 1) = some (.int .i64 n84) ∧ (
                                                            ((3 : Int) ≠ 0) ∧
                                                            ∀ q85 : Int, q85 = IntKind.wrap .i64 (Int.tdiv n84 3) → (
                                                            Does Try.prog 12 [(.pointer p55)] H65 fun v86 H87 => ∃ n88 : Int, v86 = (.int .i64 n88) ∧ (
                                                            isL H87 b82 ((o83 + (Int.toNat n11) * 4) + 1) [(.int .i64 n84)] ∧ (Does Try.prog 8 [(.int .i64 q85), (.int .i64 n88)] H87 fun v89 H90 => ∃ n91 : Int, v89 = (.int .i64 n91) ∧ (
                                                            (∀ q92 : Int, q92 = IntKind.wrap .i64 (200 + n11) → (
                                                            Does Try.prog 13 [(.int .i64 q92)] H90 fun v93 H94 => ∃ a95 : Option Addr, ∃ l96 : Nat, ∃ c97 : Nat, v93 = (.slice a95 l96 c97) ∧ (
                                                            ∀ b98 : Nat, ∀ H99 : Heap, New H94 b98 [(.int .i64 n91), (.slice a95 l96 c97)] 48 H99 → (
                                                            Does Try.prog 19 [(.pointer p55), (.slice (some (⟨b98, 0, none⟩ : Addr)) 1 1)] H99 fun v100 H101 => ∃ n102 : Int, v100 = (.int .i64 n102) ∧ (
                                                            ((((n102 : Int) ≠ 0) → (
                                                            R (.bool false) H101)) ∧ (¬ ((n102 : Int) ≠ 0) → (
                                                            Does Try.prog 14 [(.pointer p55)] H101 fun v103 H104 => ∃ n105 : Int, v103 = (.int .i64 n105) ∧ (
                                                            ((((n105 : Int) ≠ 0) → (
                                                            R (.bool false) H104)) ∧ (¬ ((n105 : Int) ≠ 0) → (
                                                            ∃ l106 : List UInt8, SRow H104 1 l96 (.slice a95 l96 c97) (List.map (fun (b : UInt8) => Value.int .u8 b.toNat) l106) ∧ (
                                                            (0 : Int) ≤ n91 ∧ (n91 : Int) < (l60 : Int) ∧ ∃ b107 o108 : Nat, a59 = some (⟨b107, o108, none⟩ : Addr) ∧ (
                                                            Cells H104 b107 (o108 + (Int.toNat n91)) 1 ∧ ∀ H109 : Heap, Puts H104 b107 (o108 + (Int.toNat n91)) [(.string (ByteArray.mk (List.toArray l106)))] H109 → (
                                                            Does Try.prog 21 [(.pointer p4), (.slice none 0 0)] H109 fun v110 H111 => v110 = (.tuple #[]) ∧ (
                                                            Does Try.prog 17 [(.pointer p4)] H111 fun v112 H113 => ∃ p114 : Option Addr, ∃ n115 : Int, v112 = (.tuple #[(.pointer p114), (.int .i64 n115)]) ∧ (
                                                            ((((n115 : Int) ≠ 0) → (
                                                            R (.bool false) H113)) ∧ (¬ ((n115 : Int) ≠ 0) → (
                                                            ((((p114 : Option Addr) = none) → (
                                                            R (.bool false) H113)) ∧ (¬ ((p114 : Option Addr) = none) → (
                                                            ∃ I116 : Int → Heap → Prop, ∃ μ117 : Int → Heap → Nat, (I116 0 H113) ∧
                                                            ∀ n118 : Int, ∀ H119 : Heap, I116 n118 H119 → (
                                                            Does Try.prog 12 [(.pointer p114)] H119 fun v120 H121 => ∃ n122 : Int, v120 = (.int .i64 n122) ∧ (
                                                            ((((n118 : Int) < n122) → (
                                                            Does Try.prog 20 [(.pointer p114), (.int .i64 n118)] H121 fun v123 H124 => ∃ a125 : Option Addr, ∃ l126 : Nat, ∃ c127 : Nat, ∃ n128 : Int, v123 = (.tuple #[(.slice a125 l126 c127), (.int .i64 n128)]) ∧ (
                                                            ((((n128 : Int) ≠ 0) → (
                                                            R (.bool false) H124)) ∧ (¬ ((n128 : Int) ≠ 0) → (
                                                            ∃ l129 : List UInt8, SRow H124 1 l126 (.slice a125 l126 c127) (List.map (fun (b : UInt8) => Value.int .u8 b.toNat) l129) ∧ (
                                                            (0 : Int) ≤ n118 ∧ (n118 : Int) < (l60 : Int) ∧ ∃ b130 o131 : Nat, a59 = some (⟨b130, o131, none⟩ : Addr) ∧ (
                                                            ∃ s132 : ByteArray, hcell H124 b130 (o131 + (Int.toNat n118)) = some (.string s132) ∧ (
                                                            (((((ByteArray.mk (List.toArray l129)) : ByteArray) ≠ s132) → (
                                                            R (.bool false) H124)) ∧ (¬ (((ByteArray.mk (List.toArray l129)) : ByteArray) ≠ s132) → (
                                                            ∀ q133 : Int, q133 = IntKind.wrap .i64 (n118 + 1) → (
                                                            (I116 q133 H124) ∧ μ117 q133 H124 < μ117 n118 H119))))))))))))) ∧ (¬ ((n118 : Int) < n122) → (
                                                            ∀ q134 : Int, q134 = IntKind.wrap .i64 (n11 + 1) → (
                                                            (I8 p114 q134 H121) ∧ μ9 p114 q134 H121 < μ9 p10 n11 H12))))))))))))))))))))))))))))))))))))))))))))))))))))))) ∧ (¬ ((n11 : Int) < 10) → (
                                      R (.bool true) H12))))) ∧ (¬ ((n11 : Int) < (x0l : Int)) → (
                                R (.bool true) H12)))))))))))))))) := by kernel_rfl


end Go.Proofs
end

section
open Go Go.Vc
namespace Go.Proofs

/-- A step, as it is read. -/
abbrev StepR : Rd := KAll [(1, KInt .i64), (1, KInt .i64), (1, KInts .i64), (1, KBytes)]
theorem step_at {H : Heap} {a : Option Addr} {len cap : Nat} (h : KSlice 4 StepR H [.slice a len cap]) {j : Nat} (hj : j < len) :
    ∃ b o what n, ∃ (pa : Option Addr) (la ca : Nat) (ats : List Int) (pm : Option Addr) (lm cm : Nat) (ms : List UInt8), a = some ⟨b, o, none⟩ ∧ hcell H b (o + j * 4) = some (.int .i64 what) ∧ hcell H b (o + j * 4 + 1) = some (.int .i64 n) ∧ hcell H b (o + j * 4 + 1 + 1) = some (.slice pa la ca) ∧ hcell H b (o + j * 4 + 1 + 1 + 1) = some (.slice pm lm cm) ∧
      SRow H 1 la (.slice pa la ca) (ints ats) ∧ la ≤ maxLen ∧ SRow H 1 lm (.slice pm lm cm) (bytesV ms) ∧ lm ≤ maxLen := by
  obtain ⟨a', len', cap', rows, e, h1, h2, h3, h4, h5⟩ := h
  simp only [List.cons.injEq, Value.slice.injEq, and_true] at e
  obtain ⟨rfl, rfl, rfl⟩ := e
  have hi : rows[j]? = some (rows[j]'(by omega)) := List.getElem?_eq_getElem (by omega)
  obtain ⟨b, o, rfl, hc⟩ := kslice_at h3 h4 (by decide) hi
  have hr := h5 _ (List.getElem_mem (by omega : j < rows.length))
  have hl := h3 _ (List.getElem_mem (by omega : j < rows.length))
  generalize rows[j]'(by omega) = r at *
  match r, hl with
  | [v0, v1, v2, v3], _ =>
    obtain ⟨_, ⟨x, e0, _⟩, _, ⟨n, e1, _⟩, _, ⟨pa, la, ca, ats, e2, g1, g2, g3, _⟩, _, ⟨pm, lm, cm, ms, e3, k1, k2, k3⟩, _⟩ := hr
    cases e0; cases e1; cases e2; cases e3
    exact ⟨b, o, x, n, pa, la, ca, ats, pm, lm, cm, ms, rfl, hc 0 _ rfl, hc 1 _ rfl, hc 2 _ rfl, hc 3 _ rfl, g3, g2, k3, k2⟩

def setW (ws : List Octs) (l : List Wr) : List Octs := l.foldl (fun ws w => ws.set w.1.toNat w.2) ws
theorem setW_len : ∀ (l : List Wr) (ws : List Octs), (setW ws l).length = ws.length
  | [], _ => rfl
  | w :: l, ws => by
    show (setW (ws.set w.1.toNat w.2) l).length = _
    rw [setW_len l, List.length_set]
theorem setW_get (n : Nat) : ∀ (l : List Wr) (ws : List Octs) (cur : Nat → Octs), (∀ w ∈ l, 0 ≤ w.1 ∧ w.1 < n) → ws.length = n → (∀ k, k < n → ws[k]? = some (cur k)) → ∀ k, k < n → (setW ws l)[k]? = some (overT cur l k)
  | [], ws, cur, _, _, h, k, hk => h k hk
  | w :: l, ws, cur, hw, hl, h, k, hk => by
    show (setW (ws.set w.1.toNat w.2) l)[k]? = _
    have hw0 := hw w (by simp)
    rw [show w :: l = [w] ++ l from rfl, over_app]
    refine setW_get n l _ _ (fun x hx => hw x (by simp [hx])) (by rw [List.length_set]; exact hl) (fun j hj => ?_) k hk
    have ho : overT cur [w] j = if (j : Int) = w.1 then w.2 else cur j := by
      unfold overT
      show ((tGet (tSet [] w.1 w.2) j).getD (cur j)) = _
      rw [tGet_set]
      split <;> rfl
    rw [ho]
    by_cases e : (j : Int) = w.1
    · rw [if_pos e, show w.1.toNat = j by omega, List.getElem?_set_self (by omega)]
    · rw [if_neg e, List.getElem?_set_ne (by omega)]; exact h j hj
theorem setW_snoc (ws : List Octs) (l : List Wr) (w : Wr) : setW ws (l ++ [w]) = (setW ws l).set w.1.toNat w.2 := by unfold setW; rw [List.foldl_append]; rfl

set_option maxHeartbeats 4000000 in
theorem jreads_law (H : Heap) (x0 : Int) (_ : (Lit.int .i64 x0).wf = true) (a : Option Addr) (len cap : Nat) (hs : KSlice 4 StepR H [.slice a len cap]) : Does Try.prog 4 [.int .i64 x0, .slice a len cap] H fun v H' => v = .bool true ∧ Ext [] H H' := by
  refine Fn_of_vc Try.mixed (vcl_reads _ _ _ _ _ _) ?_
  refine (pick_ok x0 20 H (by decide) (by decide)).mono ?_
  rintro _ _ ⟨rfl, rfl⟩
  have a0 := Int.emod_nonneg x0 (show (20 : Int) ≠ 0 by decide)
  have a1 := Int.emod_lt_of_pos x0 (show (0 : Int) < 20 by decide)
  obtain ⟨z, hz, hz4⟩ : ∃ z : Nat, 4 + x0 % 20 = z ∧ 4 ≤ z ∧ z < 24 := ⟨(4 + x0 % 20).toNat, by omega, by omega, by omega⟩
  refine ⟨_, rfl, ?_⟩
  rw [hz]
  refine ⟨⟨by omega, by omega⟩, ⟨by omega, by omega⟩, ?_⟩
  rw [show (z : Int) + 10 = ((z + 10 : Nat) : Int) by omega]
  refine (open0_ok H (n := z + 10) (z := z) (by omega) (by omega) (S := fun _ => True) trivial).mono ?_
  rintro _ H5 ⟨pj0, pd, F0, J0, D0, rfl, h5, hf0, hu0⟩
  refine ⟨_, _, rfl, (known_ok H5).mono ?_⟩
  rintro _ H9 ⟨rfl, hx9⟩
  have h9 := h5.more hx9
  have hN : z + 10 - 1 - z = 9 := by omega
  refine ⟨_, rfl, fun h => (by cases h), fun _ => ⟨fun h => (by cases h), fun _ => ⟨fun h => (by cases h), fun _ => ?_⟩⟩⟩
  refine ⟨fun a l c i H' => ∃ j : Nat, i = j ∧ j ≤ 9 ∧ j = l ∧ JL H H' F0 pj0 pd (z + 10) z 10000 J0 D0 (fun _ => zeros) (fun _ => True) ∧ StrRow H H' F0 a c (List.replicate j zeros), fun _ _ _ i _ => 9 - i.toNat, ⟨0, rfl, by omega, rfl, h9, StrRow.nil _ _ _⟩, ?_⟩
  rintro a13 _ c15 _ H17 ⟨j, rfl, hj, rfl, h17, hrow17⟩
  refine (h17.home).mono ?_
  rintro _ _ ⟨rfl, rfl⟩
  rw [hN]
  refine ⟨_, rfl, fun h1 => (block_ok 0 H17).mono ?_, fun h1 => ?_⟩
  · rintro _ H22 ⟨rfl, ho22, hx22⟩
    rw [blockB_zero] at ho22
    refine ⟨_, _, _, rfl, zeros, ho22.row _ _, fun b27 H28 hn28 => ?_⟩
    have hrow22 := hrow17.more hx22
    have h22 := h17.more hx22
    have := hrow22.push h22.jin.ext.size h22.lt (x := zeros) (e := 9) (e' := 9) (by simp; omega) (R := fun a31 c32 H33 => In64 ((j : Int) + 1) ∧ (∃ j' : Nat, (j : Int) + 1 = j' ∧ j' ≤ 9 ∧ j' = j + 1 ∧ JL H H33 F0 pj0 pd (z + 10) z 10000 J0 D0 (fun _ => zeros) (fun _ => True) ∧ StrRow H H33 F0 a31 c32 (List.replicate j' zeros)) ∧ 9 - ((j : Int) + 1).toNat < 9 - (j : Int).toNat) (fun a' c' H' g1 g2 => ⟨⟨by omega, by omega⟩, ⟨j + 1, by omega, by omega, rfl, h22.off g2 (fun k hk => ⟨(hrow22.2 k hk).1, (hrow22.2 k hk).2.2⟩), by rw [List.replicate_succ']; exact g1⟩, by omega⟩) b27 H28 hn28
    rw [List.length_replicate] at this
    exact this
  have hj9 : j = 9 := by omega
  subst hj9
  let St : Option Addr → Nat → Heap → Prop := fun p i H' => ∃ pj F J D cur ws, p = some ⟨pj, 0, none⟩ ∧ JL H H' F pj pd (z + 10) z (20000 + 20000 * i) J D cur (fun _ => True) ∧ D.fuse = -1 ∧ StrRow H H' F a13 c15 ws ∧ ws.length = 9 ∧ ∀ k, k < 9 → ws[k]? = some (cur k)
  refine ⟨fun p i H' => ∃ j : Nat, i = j ∧ j ≤ 25 ∧ St p j H', fun _ i _ => 25 - i.toNat, ⟨0, rfl, by omega, pj0, F0, J0, D0, _, _, rfl, h17.up (by omega) (by omega) (fun _ h => h), hf0, hrow17, by simp, fun k hk => by rw [List.getElem?_replicate, if_pos hk]⟩, ?_⟩
  rintro p36 _ H38 ⟨j, rfl, hj25, hst⟩
  have done : ∀ {p i H'}, St p i H' → Value.bool true = .bool true ∧ Ext [] H H' := fun ⟨_, _, _, _, _, _, _, h, _⟩ => ⟨rfl, h.jin.ext⟩
  refine ⟨fun h1 => ⟨fun h2 => ?_, fun h2 => done hst⟩, fun h1 => done hst⟩
  obtain ⟨pj, F, J, D, cur, ws, rfl, hjl, hfu, hrow, hwl, hws⟩ := hst
  obtain ⟨b, o, what, N, pa, la, ca, ats, pm, lm, cm, ms, ea, c0, c1, c2, c3, hat, hla, hms, hlm⟩ := step_at hs (j := j) (by omega)
  have hx38 := hjl.jin.ext
  refine ⟨fun p H' => St p (j + 1) H', ⟨by omega, h1, b, o, ea, what, by rw [Int.toNat_natCast]; exact hcell_ext c0 hx38 (by simp), (pick_ok what 8 H38 (by decide) (by decide)).mono ?_⟩, ?_⟩
  · rintro _ _ ⟨rfl, rfl⟩
    refine ⟨_, rfl, fun h5 => ?_, fun h5 => ⟨fun h6 => ?_, fun h6 => ⟨fun h7 => ?_, fun h7 => ?_⟩⟩⟩
    · -- Sync
      refine (hjl.sync (by omega) (S' := fun _ => True) trivial).mono ?_
      rintro _ H46 ⟨hx46, J', D', ⟨rfl, hjl', hf'⟩ | ⟨_, _, _, hne⟩⟩
      · exact ⟨_, rfl, fun h => absurd rfl h, fun _ => ⟨pj, _, J', D', cur, ws, rfl, hjl'.up (by omega) (by omega) (fun _ h => h), hf' hfu, hrow.step hx46, hwl, hws⟩⟩
      · exact absurd hfu hne
    · -- Checkpoint
      refine (hjl.checkpoint (by omega) (S' := fun _ => True) trivial).mono ?_
      rintro _ H50 ⟨hx50, J', D', ⟨rfl, hjl', hf', hu'⟩ | ⟨_, _, _, hne⟩⟩
      · refine ⟨_, rfl, fun h => absurd rfl h, fun _ => (jfree_ok hjl'.jin.jd hjl'.jin.jwf (by omega)).mono ?_⟩
        rintro _ _ ⟨rfl, rfl⟩
        refine ⟨_, rfl, fun h => absurd (by rw [hu', hjl'.live.lays.2.2.1]; omega) h, fun _ => ⟨pj, _, J', D', cur, ws, rfl, hjl'.up (by omega) (by omega) (fun _ h => h), hf' hfu, hrow.step hx50, hwl, hws⟩⟩
      · exact absurd hfu hne
    · -- Open
      have hsure : Sure (z + 10) z (20000 + 20000 * j) (laid D.kept D.pend) cur := by
        obtain ⟨e, s, T, f, base, hl, hc, _⟩ := hjl.live
        rw [hc]
        exact ⟨e, s, T, hl.sure.1⟩
      refine (hjl.jin.dv.open_ (by omega) ⟨rfl, rfl, hjl.live.lays.2.2.2.2.2.1⟩ hsure (S := fun _ => True) trivial).mono ?_
      rintro _ H56 ⟨hx56, ⟨pj', J', D', rfl, hjl', hf', _, _⟩ | ⟨_, _, _, hne, _⟩⟩
      · exact ⟨_, _, rfl, fun h => absurd rfl h, fun _ => ⟨fun h => (by cases h), fun _ => ⟨pj', _, J', D', cur, ws, rfl, hjl'.up (by omega) (by omega) (fun _ h => h), hf' hfu, hrow.step hx56, hwl, hws⟩⟩⟩
      · exact absurd hfu hne
    · -- Commit
      refine ⟨by omega, h1, b, o, ea, what, by rw [Int.toNat_natCast]; exact hcell_ext c0 hx38 (by simp), N, by rw [Int.toNat_natCast]; exact hcell_ext c1 hx38 (by simp), pa, la, ca, by rw [Int.toNat_natCast]; exact hcell_ext c2 hx38 (by simp), pm, lm, cm, by rw [Int.toNat_natCast]; exact hcell_ext c3 hx38 (by simp), (hjl.home).mono ?_⟩
      rintro _ _ ⟨rfl, rfl⟩
      rw [hN]
      have hmx : maxLen ≤ 9223372036854775807 := by unfold maxLen; omega
      refine ⟨_, rfl, ?_, (list_ok what N (hat.ext hx38 (by simp)) (by omega) 9 (by decide) 4 (by decide)).mono ?_⟩
      · rw [Int.toNat_natCast]
        exact ⟨hcell_ext c0 hx38 (by simp), hcell_ext c1 hx38 (by simp), hcell_ext c2 hx38 (by simp), hcell_ext c3 hx38 (by simp), trivial⟩
      rintro _ H73 ⟨a74, c76, a77, c79, rfl, htw, hx73⟩
      have hll : (listM N ats 9 4).length ≤ 4 := by
        have := listW_len N 9 (ats.take 4) 0 []
        have h4 : (ats.take 4).length ≤ 4 := by rw [List.length_take]; omega
        simp only [List.length_nil] at this
        unfold listM; omega
      generalize listM N ats 9 4 = l at *
      have hjl73 := hjl.more hx73
      have hrow73 := hrow.more hx73
      have hlt38 := hjl.lt
      have hk : KeptW (fun k => F k ∨ k ∈ blkOf a13) H73 a74 l := htw.kept (fun k hk => by
        rcases hk with hk | hk
        · exact hlt38 k hk
        · exact (hrow.2 k hk).2.1)
      have hkF : KeptW F H73 a74 l := fun H' hx => hk H' (hx.mono (fun k _ hk => .inl hk))
      refine ⟨_, _, _, _, _, _, rfl, (hjl73.commit (by omega) (S' := fun _ => True) (fun _ _ => trivial) trivial hkF (by omega) (c := c76)).mono ?_⟩
      rintro _ H81 ⟨hx81, e, J', D', rfl, _, ⟨_, rfl, hjl'⟩ | ⟨_, hbig, rfl, hjl'⟩ | ⟨hmay, _, rfl, hjl', hf'⟩ | ⟨_, _, _, _, hne⟩⟩
      · -- ErrArg
        have st : St (some ⟨pj, 0, none⟩) (j + 1) H81 := ⟨pj, _, J, D, cur, ws, rfl, hjl'.up (by omega) (by omega) (fun _ h => h), hfu, hrow73.step hx81, hwl, hws⟩
        refine ⟨_, rfl, fun H' => H81 = H', ⟨fun _ => ⟨fun h => absurd rfl h, fun _ => rfl⟩, fun _ => rfl⟩, ?_⟩
        rintro _ rfl
        exact ⟨fun _ H' => H81 = H', fun _ _ => 0, rfl, fun n90 H91 hh => by subst hh; exact ⟨fun _ => ⟨fun h => absurd h (by decide), fun _ => st⟩, fun _ => st⟩⟩
      · -- ErrBig
        have st : St (some ⟨pj, 0, none⟩) (j + 1) H81 := ⟨pj, _, J, D, cur, ws, rfl, hjl'.up (by omega) (by omega) (fun _ h => h), hfu, hrow73.step hx81, hwl, hws⟩
        refine ⟨_, rfl, fun H' => H81 = H', ⟨fun _ => ⟨fun _ => ⟨fun h => absurd rfl h, fun _ => (needs_ok l.length H81 (by omega)).mono ?_⟩, fun _ => rfl⟩, fun _ => rfl⟩, ?_⟩
        · rintro _ _ ⟨rfl, rfl⟩
          exact ⟨_, rfl, fun h => by omega, fun _ => rfl⟩
        · rintro _ rfl
          exact ⟨fun _ H' => H81 = H', fun _ _ => 0, rfl, fun n90 H91 hh => by subst hh; exact ⟨fun _ => ⟨fun h => absurd h (by decide), fun _ => st⟩, fun _ => st⟩⟩
      · -- OK
        refine ⟨_, rfl, fun H' => H81 = H', ⟨fun h => absurd rfl h, fun _ => rfl⟩, ?_⟩
        rintro _ rfl
        have hin : ∀ w ∈ l, 0 ≤ w.1 ∧ w.1 < (9 : Nat) := fun w hw => by have := hmay.2.1 w hw; omega
        generalize hF' : grow F H73 H81 = F' at *
        have hrow81 : StrRow H H81 F' a13 c15 ws := by rw [← hF']; exact hrow73.step hx81
        have hxx : ExtP (fun k => F k ∨ k ∈ blkOf a13) H73 H81 := hx81.mono (fun k _ hk => .inl hk)
        refine ⟨fun i H' => ∃ q : Nat, i = q ∧ q ≤ l.length ∧ JL H H' F' pj pd (z + 10) z (20000 + 20000 * j + 14100) J' D' (overT cur l) (fun _ => True) ∧ StrRow H H' F' a13 c15 (setW ws (l.take q)) ∧ ExtP (fun k => F k ∨ k ∈ blkOf a13) H73 H', fun i _ => l.length - i.toNat, ⟨0, rfl, by omega, hjl', hrow81, hxx⟩, ?_⟩
        rintro _ H91 ⟨q, rfl, hq, hjl91, hrow91, hx91⟩
        refine ⟨fun h8 => ⟨fun _ => ?_, fun h => absurd rfl h⟩, fun h8 => ?_⟩
        · have hi : l[q]? = some (l[q]'(by omega)) := List.getElem?_eq_getElem (by omega)
          obtain ⟨bb, oo, aa, cc, eaa, q0, q1, q2, _⟩ := (hk H91 hx91).wr hi
          have hmq := hin _ (List.getElem_mem (by omega : q < l.length))
          have htk : l.take (q + 1) = l.take q ++ [l[q]'(by omega)] := by rw [List.take_add_one, hi]; rfl
          generalize l[q]'(by omega) = w at *
          have hwl' : (setW ws (l.take q)).length = 9 := by rw [setW_len, hwl]
          obtain ⟨b101, e101, hcl, hput⟩ := hrow91.put (i := w.1.toNat) (by rw [hwl']; omega) w.2
          refine ⟨by omega, h8, bb, oo, eaa, _, by rw [Int.toNat_natCast]; exact q0, by omega, h8, bb, oo, eaa, aa, _, cc, by rw [Int.toNat_natCast]; exact q1, w.2, q2, hmq.1, by omega, b101, 0, e101, hcl, fun H103 hp => ?_⟩
          obtain ⟨g1, g2⟩ := hput H103 hp
          refine ⟨⟨by omega, by omega⟩, ⟨q + 1, by omega, by omega, hjl91.off g2 (fun k hk => ⟨(hrow91.2 k hk).1, (hrow91.2 k hk).2.2⟩), by rw [htk, setW_snoc]; exact g1, hx91.trans (g2.lift (fun k _ hk => .inr hk))⟩, by simp only []; omega⟩
        · have : q = l.length := by omega
          subst this
          rw [List.take_length] at hrow91
          exact ⟨pj, F', J', D', overT cur l, setW ws l, rfl, hjl91.up (by omega) (by omega) (fun _ h => h), hf' hfu, hrow91, by rw [setW_len, hwl], setW_get 9 l ws cur hin hwl hws⟩
      · exact absurd hfu hne
  · -- all home blocks
    rintro p104 H105 ⟨pj', F', J', D', cur', ws', rfl, hjl', hfu', hrow', hwl', hws'⟩
    refine ⟨fun i H' => ∃ q : Nat, i = q ∧ q ≤ 9 ∧ JL H H' F' pj' pd (z + 10) z (20000 + 20000 * (j + 1)) J' D' cur' (fun _ => True) ∧ StrRow H H' F' a13 c15 ws', fun i _ => 9 - i.toNat, ⟨0, rfl, by omega, hjl', hrow'⟩, ?_⟩
    rintro _ H109 ⟨q, rfl, hq, hjl109, hrow109⟩
    refine ⟨fun h8 => (hjl109.read (k := q) (by omega)).mono ?_, fun h8 => ⟨⟨by omega, by omega⟩, ⟨j + 1, by omega, by omega, pj', F', J', D', cur', ws', rfl, hjl109, hfu', hrow109, hwl', hws'⟩, by simp only []; omega⟩⟩
    rintro _ H111 ⟨a112, c114, rfl, ho, hf, hjl111, hx111⟩
    have hrow111 := hrow109.same hx111
    obtain ⟨bb, oo, eaa, hc⟩ := hrow111.get (hws' q (by omega))
    exact ⟨_, _, _, _, rfl, fun h => absurd rfl h, fun _ => ⟨cur' q, ho.row _ _, by omega, h8, bb, oo, eaa, _, by rw [Int.toNat_natCast]; exact hc, fun hne => absurd rfl hne, fun _ => ⟨⟨by omega, by omega⟩, ⟨q + 1, by omega, by omega, hjl111, hrow111⟩, by simp only []; omega⟩⟩⟩
end Go.Proofs
end

namespace Go.Proofs.Ytmijngnbbpilmaa.journalReads
open Go.ChangeShapes Go.WideShapes Go.ChangeAt Go.RowKit
open Go.ChangeMaps (open_string shut_string)
set_option linter.unusedVariables false

theorem own : ownKnob Try.prog.godebug = none := by kernel_rfl
theorem laidOut : laidOutB Try.prog = true := by kernel_rfl

set_option maxRecDepth 100000 in
theorem lifted (os : Os) (started : os.Started) (H : Type) (enc : TypeId × Value → H) :
    ReturnsInHanded {} Try.checked os 4 .any (Rows.journalReadsSpec.pre6 enc Try.prog Try.f4 Rows.journalReadsRow.domain false) (Rows.journalReadsSpec.post enc Try.prog Try.f4 false true false false) := by
  refine returnsInHanded_of_change (C := Try.checked) own started (by kernel_rfl) Try.func4
    (ChangeSpec.witness6 (enc := enc) (C := Try.checked) false ⟨#[], #[.int .i64 0, .slice none 0 0], []⟩ 8 (by kernel_rfl) (by kernel_rfl) (by kernel_rfl) (by kernel_rfl)) ?_
  intro W base args ds gs before hval0 hW hcnd _
  have hval : ∀ (j : Nat) t v, Try.f4.params[j]? = some t → args[j]? = some v → Value.okWide Try.prog W .any base t v := hval0
  have hW' := hW
  obtain ⟨p, q, hA0, hV, rfl, hfz, hnd⟩ := hW
  have hA : DataW.TrodAll enc Try.prog W 0 (fun _ => true) true Try.f4.params.toList args.toList ds p := hA0
  rw [Try.params4] at hA hval
  obtain ⟨v0, vs0, d0, ds0, p0, q0, hargs, rfl, rfl, h0, r0⟩ := trodAll_cons hA
  obtain ⟨v1, vs1, d1, ds1, p1, q1, rfl, rfl, rfl, h1, r1⟩ := trodAll_cons r0
  obtain ⟨rfl, rfl, rfl⟩ := trodAll_nil r1
  obtain rfl : args = #[v0, v1] := by cases args; simp_all
  obtain ⟨rfl, rfl⟩ := trodVars_none hV
  obtain ⟨a0, rfl, rfl, rfl, w0⟩ := open_int Try.underlying3 (hval 0 3 v0 rfl rfl) h0
  obtain ⟨a1, len1, cap1, rfl⟩ := okWide_slice Try.underlying26 (hval 1 26 v1 rfl rfl)
  have k1 := h1
  have lt1 : ∀ x ∈ p1, x.block < W.heap.size := by obtain ⟨m, hm⟩ := k1; exact DataW.trod_lt m _ _ _ hm
  have sp1 := Go.Vc.okWide_spot Try.underlying26 (hval 1 26 _ rfl rfl)
  have s1 : (Go.Vc.KSlice 4 (Go.Vc.KAll [(1, (Go.Vc.KInt .i64)), (1, (Go.Vc.KInt .i64)), (1, (Go.Vc.KInts .i64)), (1, Go.Vc.KBytes)])) W.heap [.slice a1 len1 cap1] := Go.Vc.Sound.of (Go.Vc.sound_slice Try.underlying26 (by kernel_rfl) (by decide) (Go.Vc.sound_struct Try.underlying37 (by kernel_rfl) (.cons (by kernel_rfl) (by kernel_rfl) (Go.Vc.sound_int Try.underlying3) (.cons (by kernel_rfl) (by kernel_rfl) (Go.Vc.sound_int Try.underlying3) (.cons (by kernel_rfl) (by kernel_rfl) (Go.Vc.sound_ints Try.underlying35 Try.underlying3 (by kernel_rfl)) (.cons (by kernel_rfl) (by kernel_rfl) (Go.Vc.sound_bytes Try.underlying33 Try.underlying5 (by kernel_rfl)) .nil)))))) h1
  clear hA0 hval0
  refine (Go.Vc.Does.below (Go.Proofs.jreads_law W.heap a0 w0 a1 len1 cap1 s1)).mono fun e W' ⟨he, bel⟩ => ?_
  subst he
  exact ⟨_, rfl, _, _, _, [], _, [], hW', trodAll_mk1 (shut_bool Try.underlying4 _), (trodAll_cons_mk (shut_int Try.underlying3 w0) (trodAll_cons_mk (Below.trod laidOut (by kernel_rfl) (of_decide_eq_true (by kernel_rfl)) k1 bel lt1) trodAll_mk0)), rfl, bel.frame _, fun h => by cases h⟩

theorem over : Rows.journalReadsRow.holds Try.pinned (OpenSpec.ofChange Rows.journalReadsSpec) :=
  OpenClaim.holds_of_wide 4 Try.f4 rfl rfl rfl rfl rfl rfl rfl ⟨rfl, rfl, rfl, rfl, rfl⟩ rfl rfl rfl rfl rfl (by kernel_rfl) Try.func4 (by kernel_rfl)
    (of_decide_eq_true (by kernel_rfl)) (by unfold Func.isWrapper; first | (rw [if_pos (by decide +kernel)]; kernel_rfl) | (rw [if_neg (by decide +kernel)]; exact ⟨rfl, rfl⟩))
    (fun os started H enc _ => lifted os started H enc)

theorem proved : Rows.JournalReadsSaid := over
#print axioms proved
end Go.Proofs.Ytmijngnbbpilmaa.journalReads

