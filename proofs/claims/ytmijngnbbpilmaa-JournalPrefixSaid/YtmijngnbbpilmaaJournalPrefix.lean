/-
  The law JournalPrefix is true and changes nothing that was there, whatever the input. No condition.
-/
import Derived.Test.YtmijngnbbpilmaaJnC
import Derived.Test.YtmijngnbbpilmaaProg
import Derived.Test.YtmijngnbbpilmaaVd
import Derived.Test.YtmijngnbbpilmaaRows
import Derived.WalkKit
import Derived.ProofKit
import Derived.OpenShut
import Derived.ShutString
import Derived.ChangeOld
import Derived.Below

section
open Go Go.Vc
namespace Go.Proofs

theorem jneeds_law (H : Heap) (n : Int) (_ : (Lit.int .i64 n).wf = true) (m : Int) (_ : (Lit.int .i64 m).wf = true) : Does Try.prog 3 [.int .i64 n, .int .i64 m] H fun v H' => v = .bool true ∧ Ext [] H H' := by
  refine Fn_of_vc Try.mixed (vcl_jneeds _ _ _ _) ?_
  refine (pick_ok n 5000 H (by decide) (by decide)).mono ?_
  rintro _ _ ⟨rfl, rfl⟩
  have a0 := Int.emod_nonneg n (show (5000 : Int) ≠ 0 by decide)
  have a1 := Int.emod_lt_of_pos n (show (0 : Int) < 5000 by decide)
  generalize n % 5000 = n' at *
  refine ⟨_, rfl, (pick_ok m 5000 H (by decide) (by decide)).mono ?_⟩
  rintro _ _ ⟨rfl, rfl⟩
  have b0 := Int.emod_nonneg m (show (5000 : Int) ≠ 0 by decide)
  have b1 := Int.emod_lt_of_pos m (show (0 : Int) < 5000 by decide)
  generalize m % 5000 = m' at *
  refine ⟨_, rfl, (needs_ok n' H (by omega)).mono ?_⟩
  rintro _ _ ⟨rfl, rfl⟩
  refine ⟨_, rfl, ⟨by omega, by omega⟩, ⟨by omega, by omega⟩, (known_ok H).mono ?_⟩
  rintro _ H11 ⟨rfl, hx⟩
  have hk : (n' < 1 ∧ needsN n' = 0) ∨ (1 ≤ n' ∧ n' * 132 + 2 ≤ needsN n' * 116 ∧ needsN n' * 116 < n' * 132 + 2 + 116) := by
    unfold needsN
    split
    · exact .inl ⟨by assumption, rfl⟩
    · exact .inr ⟨by omega, by omega, by omega⟩
  have hm : m' < 1 ∧ needsN m' = 0 ∨ 1 ≤ m' ∧ m' * 132 + 2 ≤ needsN m' * 116 ∧ needsN m' * 116 < m' * 132 + 2 + 116 := by
    unfold needsN
    split
    · exact .inl ⟨by assumption, rfl⟩
    · exact .inr ⟨by omega, by omega, by omega⟩
  have last : ¬ m' < n' → Does Try.prog 9 [.int .i64 m'] H11 fun v13 H14 => ∃ n15 : Int, v13 = .int .i64 n15 ∧ (Value.bool (@decide (needsN n' ≤ n15) (Classical.propDecidable _)) = .bool true ∧ Ext [] H H14) := fun hmn => by
    refine (needs_ok m' H11 (by omega)).mono ?_
    rintro _ _ ⟨rfl, rfl⟩
    exact ⟨_, rfl, congrArg _ (dec_bool ⟨fun _ => rfl, fun _ => by omega⟩), hx⟩
  refine ⟨true, rfl, fun _ => ⟨fun h1 => ⟨fun h2 => ⟨fun _ => ⟨rfl, hx⟩, last⟩, fun h2 => by omega⟩, fun h1 => ⟨fun h2 => ⟨⟨by omega, by omega⟩, fun h3 => ⟨⟨by omega, by omega⟩, ⟨by omega, by omega⟩, fun h4 => ⟨fun _ => ⟨rfl, hx⟩, last⟩, fun h4 => by omega⟩, fun h3 => by omega⟩, fun h2 => by omega⟩⟩, fun h => by cases h⟩

theorem commit_used {n z B : Nat} {J : Jn} {D : Dev} {cur : Nat → Octs} {S : (Nat → Octs) → Prop} (h : LiveA n z B J D cur S) {l : List Wr} (hm : MayP l (n - 1 - z : Int)) (hfit : needsN l.length ≤ J.h.size - J.used) (h0 : (commitM n l J D).2.2 = 0) : (commitM n l J D).2.1.used = J.used + needsN l.length := by
  have hly := h.lays
  obtain ⟨e, s, T, f, base, h, hc, hS⟩ := h
  have hzn := hly.1
  have hj0 : 0 ≤ J.used := by rw [h.used]; omega
  unfold commitM at h0 ⊢
  rw [hly.2.2.2.2.2.2.2, if_neg (by simp [mayB, hm]), if_neg (by simp [h.jdead]), if_neg (by omega), if_neg (by omega)] at h0 ⊢
  unfold layE layM at h0 ⊢
  have hlb : ∀ b ∈ laidB J.h l, b.length = 128 := fun b hb => by
    unfold laidB at hb
    obtain ⟨k, hk, rfl⟩ := List.mem_map.1 hb
    exact jblk_len hm.full (by simpa using hk)
  have hz : J.h.size = z := hly.2.2.1
  rcases layW_cases (n := n) (laidB J.h l) J.used h.at_ hj0 (by rw [laidB_len]; have := needs_nat l; omega) hlb with ⟨g1, g2, g3, g4⟩ | ⟨g1, ⟨i, g2⟩, g3⟩
  · simp only [g1, ne_eq, not_true, if_false]
    show (layW n (laidB J.h l) J.used D).2.1 = _
    rw [g2, laidB_len, needs_nat]
  · simp only [g1, ne_eq, show ¬ ((4 : Int) = 0) by decide, not_false_eq_true, if_true] at h0

theorem lay_h {n : Nat} {l : List Wr} {J : Jn} {D : Dev} : (layE n l J D).2.1.h.size = J.h.size := by
  unfold layE layM
  simp only
  split <;> rfl
theorem commit_h {n : Nat} {l : List Wr} {J : Jn} {D : Dev} : (commitM n l J D).2.1.h.size = J.h.size := by
  have hk := checkpoint_h (n := n) (J := J) (D := D)
  unfold commitM
  split
  · rfl
  split
  · rfl
  split
  · rfl
  split
  · split
    · rw [hk]
    · rw [lay_h, hk]
  · exact lay_h

/-- The head of a row of writes. -/
theorem MySeq.kept1 {n0 : Nat} {H : Heap} {a : Option Addr} {n c : Nat} {xs : List Wr} {F : Nat → Prop} (h : MySeq writeE n0 H a n c xs) (hF : ∀ k, F k → k < n0) {x : Wr} {r : List Wr} (hx : xs = x :: r) : KeptW F H a [x] := by
  intro H' he
  obtain ⟨vs, h1, h2, h3⟩ := h.kept hF H' he
  subst hx
  obtain ⟨v, q1, q2⟩ := h3 0 x rfl
  cases vs with
  | nil => simp at h2
  | cons v' vs =>
    simp only [List.getElem?_cons_zero, Option.some.injEq] at q1
    subst q1
    have hv := writeE.len q2
    refine ⟨[v'], ?_, rfl, fun i y hy => ?_⟩
    · obtain ⟨g1, g2⟩ := h1
      refine ⟨by simp only [List.flatten_cons, List.flatten_nil, List.append_nil]; rw [hv]; rfl, ?_⟩
      cases a with
      | none =>
        have g2 : (v' :: vs).flatten = [] := g2
        rw [List.flatten_cons, List.append_eq_nil_iff] at g2
        rw [g2.1] at hv
        simp [writeE] at hv
      | some ad =>
        obtain ⟨g3, g4⟩ := g2
        refine ⟨.inr ?_, fun j u hj => g4 j u ?_⟩
        · rcases g3 with g3 | g3
          · rw [List.flatten_cons, List.append_eq_nil_iff] at g3
            rw [g3.1] at hv
            simp [writeE] at hv
          · exact g3
        · simp only [List.flatten_cons, List.flatten_nil, List.append_nil] at hj
          rw [List.flatten_cons, List.getElem?_append_left (List.getElem?_eq_some_iff.1 hj).1]
          exact hj
    · cases i with
      | zero => cases hy; exact ⟨_, rfl, q2⟩
      | succ i => simp at hy
end Go.Proofs
end

section
open Go Go.Vc
namespace Go.Proofs
set_option maxRecDepth 100000
/-- pentimento/pentimentolaw5.JournalReads -/
theorem vcl_reads (x0 : Int) (x1 : Option Addr) (x1l : Nat) (x1c : Nat) (H : Heap) (R : Value → Heap → Prop) : Walk Try.prog 4 [(18, []), (33, [(5, (.pointer none))])] [(.int .i64 x0), (.slice x1 x1l x1c)] H R = (
  Does Try.prog 8 [(.int .i64 x0), (.int .i64 20)] H fun v1 H2 => ∃ n3 : Int, v1 = (.int .i64 n3) ∧ (
    (In64 (4 + n3)) ∧
    (In64 ((4 + n3) + 10)) ∧
    Does Try.prog 11 [(.int .i64 ((4 + n3) + 10)), (.int .i64 (4 + n3))] H2 fun v4 H5 => ∃ p6 : Option Addr, ∃ p7 : Option Addr, v4 = (.tuple #[(.pointer p6), (.pointer p7)]) ∧ (
      Does Try.prog 10 [] H5 fun v8 H9 => ∃ t10 : Bool, v8 = (.bool t10) ∧ (
        (((t10 = false) → (
              R (.bool false) H9)) ∧ (¬ (t10 = false) → (
              ((((p6 : Option Addr) = none) → (
                    R (.bool false) H9)) ∧ (¬ ((p6 : Option Addr) = none) → (
                    ((((p7 : Option Addr) = none) → (
                          R (.bool false) H9)) ∧ (¬ ((p7 : Option Addr) = none) → (
                          ∃ I11 : Option Addr → Nat → Nat → Int → Heap → Prop, ∃ μ12 : Option Addr → Nat → Nat → Int → Heap → Nat, (I11 none 0 0 0 H9) ∧
                          ∀ a13 : Option Addr, ∀ l14 : Nat, ∀ c15 : Nat, ∀ n16 : Int, ∀ H17 : Heap, I11 a13 l14 c15 n16 H17 → (
                            Does Try.prog 12 [(.pointer p6)] H17 fun v18 H19 => ∃ n20 : Int, v18 = (.int .i64 n20) ∧ (
                              ((((n16 : Int) < n20) → (
                                    Does Try.prog 13 [(.int .i64 0)] H19 fun v21 H22 => ∃ a23 : Option Addr, ∃ l24 : Nat, ∃ c25 : Nat, v21 = (.slice a23 l24 c25) ∧ (
                                      ∃ l26 : List UInt8, SRow H22 1 l24 (.slice a23 l24 c25) (List.map (fun (b : UInt8) => Value.int .u8 b.toNat) l26) ∧ (
                                        ∀ b27 : Nat, ∀ H28 : Heap, New H22 b27 [(.string (ByteArray.mk (List.toArray l26)))] 9 H28 → (
                                          ∃ old29 new30 : List Value, SRow H28 1 l14 (.slice a13 l14 c15) old29 ∧ SRow H28 1 1 (.slice (some (⟨b27, 0, none⟩ : Addr)) 1 1) new30 ∧ (∀ u ∈ new30, Value.oneCell' u = true) ∧ (l14 + 1) * 16 ≤ 140737488355328 ∧ (l14 + 1 ≤ c15 → roomOf H28 a13 (l14 * 1) (1 * 1)) ∧ ∀ a31 : Option Addr, ∀ c32 : Nat, ∀ H33 : Heap, App H28 1 9 [(.string (ByteArray.mk #[]))] a13 l14 c15 old29 new30 1 a31 c32 H33 → (
                                            (In64 (n16 + 1)) ∧
                                            (I11 a31 (l14 + 1) c32 (n16 + 1) H33) ∧ μ12 a31 (l14 + 1) c32 (n16 + 1) H33 < μ12 a13 l14 c15 n16 H17)))))) ∧ (¬ ((n16 : Int) < n20) → (
                                    ∃ I34 : Option Addr → Int → Heap → Prop, ∃ μ35 : Option Addr → Int → Heap → Nat, (I34 p6 0 H19) ∧
                                    ∀ p36 : Option Addr, ∀ n37 : Int, ∀ H38 : Heap, I34 p36 n37 H38 → (
                                      ((((n37 : Int) < (x1l : Int)) → (
                                            ((((n37 : Int) < 25) → (
                                                  ∃ I39 : Option Addr → Heap → Prop, (
                                                    (0 : Int) ≤ n37 ∧ (n37 : Int) < (x1l : Int) ∧ ∃ b40 o41 : Nat, x1 = some (⟨b40, o41, none⟩ : Addr) ∧ (
                                                      ∃ n42 : Int, hcell H38 b40 (o41 + (Int.toNat n37) * 4) = some (.int .i64 n42) ∧ (
                                                        Does Try.prog 8 [(.int .i64 n42), (.int .i64 8)] H38 fun v43 H44 => ∃ n45 : Int, v43 = (.int .i64 n45) ∧ (
                                                          ((((n45 : Int) = 5) → (
                                                            Does Try.prog 14 [(.pointer p36)] H44 fun v46 H47 => ∃ n48 : Int, v46 = (.int .i64 n48) ∧ (
                                                            ((((n48 : Int) ≠ 0) → (
                                                            R (.bool false) H47)) ∧ (¬ ((n48 : Int) ≠ 0) → (
                                                            I39 p36 H47)))))) ∧ (¬ ((n45 : Int) = 5) → (
                                                            ((((n45 : Int) = 6) → (
                                                            Does Try.prog 15 [(.pointer p36)] H44 fun v49 H50 => ∃ n51 : Int, v49 = (.int .i64 n51) ∧ (
                                                            ((((n51 : Int) ≠ 0) → (
                                                            R (.bool false) H50)) ∧ (¬ ((n51 : Int) ≠ 0) → (
                                                            Does Try.prog 16 [(.pointer p36)] H50 fun v52 H53 => ∃ n54 : Int, v52 = (.int .i64 n54) ∧ (
                                                            ((((n54 : Int) ≠ (4 + n3)) → (
                                                            R (.bool false) H53)) ∧ (¬ ((n54 : Int) ≠ (4 + n3)) → (
                                                            I39 p36 H53)))))))))) ∧ (¬ ((n45 : Int) = 6) → (
                                                            ((((n45 : Int) = 7) → (
                                                            Does Try.prog 17 [(.pointer p7)] H44 fun v55 H56 => ∃ p57 : Option Addr, ∃ n58 : Int, v55 = (.tuple #[(.pointer p57), (.int .i64 n58)]) ∧ (
                                                            ((((n58 : Int) ≠ 0) → (
                                                            R (.bool false) H56)) ∧ (¬ ((n58 : Int) ≠ 0) → (
                                                            ((((p57 : Option Addr) = none) → (
                                                            R (.bool false) H56)) ∧ (¬ ((p57 : Option Addr) = none) → (
                                                            I39 p57 H56))))))))) ∧ (¬ ((n45 : Int) = 7) → (
                                                            (0 : Int) ≤ n37 ∧ (n37 : Int) < (x1l : Int) ∧ ∃ b59 o60 : Nat, x1 = some (⟨b59, o60, none⟩ : Addr) ∧ (
                                                            ∃ n61 : Int, hcell H44 b59 (o60 + (Int.toNat n37) * 4) = some (.int .i64 n61) ∧ (
                                                            ∃ n62 : Int, hcell H44 b59 ((o60 + (Int.toNat n37) * 4) + 1) = some (.int .i64 n62) ∧ (
                                                            ∃ a63 : Option Addr, ∃ l64 : Nat, ∃ c65 : Nat, hcell H44 b59 (((o60 + (Int.toNat n37) * 4) + 1) + 1) = some (.slice a63 l64 c65) ∧ (
                                                            ∃ a66 : Option Addr, ∃ l67 : Nat, ∃ c68 : Nat, hcell H44 b59 ((((o60 + (Int.toNat n37) * 4) + 1) + 1) + 1) = some (.slice a66 l67 c68) ∧ (
                                                            Does Try.prog 12 [(.pointer p36)] H44 fun v69 H70 => ∃ n71 : Int, v69 = (.int .i64 n71) ∧ (
                                                            isL H70 b59 (o60 + (Int.toNat n37) * 4) [(.int .i64 n61), (.int .i64 n62), (.slice a63 l64 c65), (.slice a66 l67 c68)] ∧ (Does Try.prog 18 [(.agg #[(.int .i64 n61), (.int .i64 n62), (.slice a63 l64 c65), (.slice a66 l67 c68)]), (.int .i64 n71), (.int .i64 4)] H70 fun v72 H73 => ∃ a74 : Option Addr, ∃ l75 : Nat, ∃ c76 : Nat, ∃ a77 : Option Addr, ∃ l78 : Nat, ∃ c79 : Nat, v72 = (.tuple #[(.slice a74 l75 c76), (.slice a77 l78 c79)]) ∧ (
                                                            (Does Try.prog 19 [(.pointer p36), (.slice a74 l75 c76)] H73 fun v80 H81 => ∃ n82 : Int, v80 = (.int .i64 n82) ∧ (
                                                            ∃ I83 : Heap → Prop, (
                                                            ((((n82 : Int) ≠ 0) → (
                                                            ((((n82 : Int) ≠ 1) → (
                                                            ((((n82 : Int) ≠ 5) → (
                                                            R (.bool false) H81)) ∧ (¬ ((n82 : Int) ≠ 5) → (
                                                            Does Try.prog 9 [(.int .i64 (l75 : Int))] H81 fun v84 H85 => ∃ n86 : Int, v84 = (.int .i64 n86) ∧ (
                                                            ((((n86 : Int) ≤ (4 + n3)) → (
                                                            R (.bool false) H85)) ∧ (¬ ((n86 : Int) ≤ (4 + n3)) → (
                                                            I83 H85))))))))) ∧ (¬ ((n82 : Int) ≠ 1) → (
                                                            I83 H81))))) ∧ (¬ ((n82 : Int) ≠ 0) → (
                                                            I83 H81)))) ∧
                                                            ∀ H87 : Heap, I83 H87 → (
                                                            ∃ I88 : Int → Heap → Prop, ∃ μ89 : Int → Heap → Nat, (I88 0 H87) ∧
                                                            ∀ n90 : Int, ∀ H91 : Heap, I88 n90 H91 → (
                                                            ((((n90 : Int) < (l75 : Int)) → (
                                                            ((((n82 : Int) = 0) → (
                                                            (0 : Int) ≤ n90 ∧ (n90 : Int) < (l75 : Int) ∧ ∃ b92 o93 : Nat, a74 = some (⟨b92, o93, none⟩ : Addr) ∧ (
                                                            ∃ n94 : Int, hcell H91 b92 (o93 + (Int.toNat n90) * 2) = some (.int .i64 n94) ∧ (
                                                            (0 : Int) ≤ n90 ∧ (n90 : Int) < (l75 : Int) ∧ ∃ b95 o96 : Nat, a74 = some (⟨b95, o96, none⟩ : Addr) ∧ (
                                                            ∃ a97 : Option Addr, ∃ l98 : Nat, ∃ c99 : Nat, hcell H91 b95 ((o96 + (Int.toNat n90) * 2) + 1) = some (.slice a97 l98 c99) ∧ (
                                                            ∃ l100 : List UInt8, SRow H91 1 l98 (.slice a97 l98 c99) (List.map (fun (b : UInt8) => Value.int .u8 b.toNat) l100) ∧ (
                                                            (0 : Int) ≤ n94 ∧ (n94 : Int) < (l14 : Int) ∧ ∃ b101 o102 : Nat, a13 = some (⟨b101, o102, none⟩ : Addr) ∧ (
                                                            Cells H91 b101 (o102 + (Int.toNat n94)) 1 ∧ ∀ H103 : Heap, Puts H91 b101 (o102 + (Int.toNat n94)) [(.string (ByteArray.mk (List.toArray l100)))] H103 → (
                                                            ((In64 (n90 + 1)) ∧
                                                            (I88 (n90 + 1) H103) ∧ μ89 (n90 + 1) H103 < μ89 n90 H91)))))))))) ∧ (¬ ((n82 : Int) = 0) → (
                                                            I39 p36 H91))))) ∧ (¬ ((n90 : Int) < (l75 : Int)) → (
                                                            I39 p36 H91)))))))))))))))))))))))))))) ∧
                                                  ∀ p104 : Option Addr, ∀ H105 : Heap, I39 p104 H105 → (
                                                    ∃ I106 : Int → Heap → Prop, ∃ μ107 : Int → Heap → Nat, (I106 0 H105) ∧
                                                    ∀ n108 : Int, ∀ H109 : Heap, I106 n108 H109 → (
                                                      ((((n108 : Int) < (l14 : Int)) → (
                                                            Does Try.prog 20 [(.pointer p104), (.int .i64 n108)] H109 fun v110 H111 => ∃ a112 : Option Addr, ∃ l113 : Nat, ∃ c114 : Nat, ∃ n115 : Int, v110 = (.tuple #[(.slice a112 l113 c114), (.int .i64 n115)]) ∧ (
                                                            ((((n115 : Int) ≠ 0) → (
                                                            R (.bool false) H111)) ∧ (¬ ((n115 : Int) ≠ 0) → (
                                                            ∃ l116 : List UInt8, SRow H111 1 l113 (.slice a112 l113 c114) (List.map (fun (b : UInt8) => Value.int .u8 b.toNat) l116) ∧ (
                                                            (0 : Int) ≤ n108 ∧ (n108 : Int) < (l14 : Int) ∧ ∃ b117 o118 : Nat, a13 = some (⟨b117, o118, none⟩ : Addr) ∧ (
                                                            ∃ s119 : ByteArray, hcell H111 b117 (o118 + (Int.toNat n108)) = some (.string s119) ∧ (
                                                            (((((ByteArray.mk (List.toArray l116)) : ByteArray) ≠ s119) → (
                                                            R (.bool false) H111)) ∧ (¬ (((ByteArray.mk (List.toArray l116)) : ByteArray) ≠ s119) → (
                                                            (In64 (n108 + 1)) ∧
                                                            (I106 (n108 + 1) H111) ∧ μ107 (n108 + 1) H111 < μ107 n108 H109)))))))))))) ∧ (¬ ((n108 : Int) < (l14 : Int)) → (
                                                            (In64 (n37 + 1)) ∧
                                                            (I34 p104 (n37 + 1) H109) ∧ μ35 p104 (n37 + 1) H109 < μ35 p36 n37 H38))))))) ∧ (¬ ((n37 : Int) < 25) → (
                                                  R (.bool true) H38))))) ∧ (¬ ((n37 : Int) < (x1l : Int)) → (
                                            R (.bool true) H38)))))))))))))))))))))) := by kernel_rfl


/-- pentimento/pentimentolaw5.JournalEpochs -/
theorem vcl_epochs (x0 : Option Addr) (x0l : Nat) (x0c : Nat) (x1 : Option Addr) (x1l : Nat) (x1c : Nat) (H : Heap) (R : Value → Heap → Prop) : Walk Try.prog 5 [(999999, []), (15, [(9, (.slice none 0 0))])] [(.slice x0 x0l x0c), (.slice x1 x1l x1c)] H R = (
  Does Try.prog 11 [(.int .i64 30), (.int .i64 16)] H fun v1 H2 => ∃ p3 : Option Addr, ∃ p4 : Option Addr, v1 = (.tuple #[(.pointer p3), (.pointer p4)]) ∧ (
    Does Try.prog 10 [] H2 fun v5 H6 => ∃ t7 : Bool, v5 = (.bool t7) ∧ (
      (((t7 = false) → (
            R (.bool false) H6)) ∧ (¬ (t7 = false) → (
            ((((p3 : Option Addr) = none) → (
                  R (.bool false) H6)) ∧ (¬ ((p3 : Option Addr) = none) → (
                  ((((p4 : Option Addr) = none) → (
                        R (.bool false) H6)) ∧ (¬ ((p4 : Option Addr) = none) → (
                        ∃ I8 : Option Addr → Int → Heap → Prop, ∃ μ9 : Option Addr → Int → Heap → Nat, (I8 p3 0 H6) ∧
                        ∀ p10 : Option Addr, ∀ n11 : Int, ∀ H12 : Heap, I8 p10 n11 H12 → (
                          ((((n11 : Int) < (x0l : Int)) → (
                                ((((n11 : Int) < 10) → (
                                      ∃ I13 : Int → Heap → Prop, ∃ μ14 : Int → Heap → Nat, (I13 0 H12) ∧
                                      ∀ n15 : Int, ∀ H16 : Heap, I13 n15 H16 → (
                                        ((((n15 : Int) < 4) → (
                                              (0 : Int) ≤ n11 ∧ (n11 : Int) < (x0l : Int) ∧ ∃ b17 o18 : Nat, x0 = some (⟨b17, o18, none⟩ : Addr) ∧ (
                                                ∃ n19 : Int, hcell H16 b17 ((o18 + (Int.toNat n11) * 4) + 1) = some (.int .i64 n19) ∧ (
                                                  ∀ q20 : Int, q20 = IntKind.wrap .i64 (n19 + n15) → (
                                                    ∀ q21 : Int, q21 = IntKind.wrap .i64 (n11 * 7) → (
                                                      ∀ q22 : Int, q22 = IntKind.wrap .i64 (1 + q21) → (
                                                        ∀ q23 : Int, q23 = IntKind.wrap .i64 (q22 + n15) → (
                                                          Does Try.prog 12 [(.pointer p10)] H16 fun v24 H25 => ∃ n26 : Int, v24 = (.int .i64 n26) ∧ (
                                                            isL H25 b17 ((o18 + (Int.toNat n11) * 4) + 1) [(.int .i64 n19)] ∧ (Does Try.prog 8 [(.int .i64 q20), (.int .i64 n26)] H25 fun v27 H28 => ∃ n29 : Int, v27 = (.int .i64 n29) ∧ (
                                                            (Does Try.prog 13 [(.int .i64 q23)] H28 fun v30 H31 => ∃ a32 : Option Addr, ∃ l33 : Nat, ∃ c34 : Nat, v30 = (.slice a32 l33 c34) ∧ (
                                                            (∀ b35 : Nat, ∀ H36 : Heap, New H31 b35 [(.int .i64 n29), (.slice a32 l33 c34)] 48 H36 → (
                                                            (Does Try.prog 19 [(.pointer p10), (.slice (some (⟨b35, 0, none⟩ : Addr)) 1 1)] H36 fun v37 H38 => ∃ n39 : Int, v37 = (.int .i64 n39) ∧ (
                                                            (((((n39 : Int) ≠ 0) → (
                                                            R (.bool false) H38)) ∧ (¬ ((n39 : Int) ≠ 0) → (
                                                            ∀ q40 : Int, q40 = IntKind.wrap .i64 (n15 + 1) → (
                                                            (I13 q40 H38) ∧ μ14 q40 H38 < μ14 n15 H16)))))))))))))))))))))) ∧ (¬ ((n15 : Int) < 4) → (
                                              ∃ I41 : Option Addr → Nat → Nat → Heap → Prop, (
                                                ((((n11 : Int) < (x1l : Int)) → (
                                                      (0 : Int) ≤ n11 ∧ (n11 : Int) < (x1l : Int) ∧ ∃ b42 o43 : Nat, x1 = some (⟨b42, o43, none⟩ : Addr) ∧ (
                                                        ∃ a44 : Option Addr, ∃ l45 : Nat, ∃ c46 : Nat, hcell H16 b42 (o43 + (Int.toNat n11)) = some (.slice a44 l45 c46) ∧ (
                                                          I41 a44 l45 c46 H16)))) ∧ (¬ ((n11 : Int) < (x1l : Int)) → (
                                                      I41 none 0 0 H16)))) ∧
                                              ∀ a47 : Option Addr, ∀ l48 : Nat, ∀ c49 : Nat, ∀ H50 : Heap, I41 a47 l48 c49 H50 → (
                                                Does Try.prog 21 [(.pointer p4), (.slice a47 l48 c49)] H50 fun v51 H52 => v51 = (.tuple #[]) ∧ (
                                                  Does Try.prog 17 [(.pointer p4)] H52 fun v53 H54 => ∃ p55 : Option Addr, ∃ n56 : Int, v53 = (.tuple #[(.pointer p55), (.int .i64 n56)]) ∧ (
                                                    ((((n56 : Int) ≠ 0) → (
                                                          R (.bool false) H54)) ∧ (¬ ((n56 : Int) ≠ 0) → (
                                                          ((((p55 : Option Addr) = none) → (
                                                            R (.bool false) H54)) ∧ (¬ ((p55 : Option Addr) = none) → (
                                                            ∃ I57 : Option Addr → Nat → Nat → Int → Heap → Prop, ∃ μ58 : Option Addr → Nat → Nat → Int → Heap → Nat, (I57 none 0 0 0 H54) ∧
                                                            ∀ a59 : Option Addr, ∀ l60 : Nat, ∀ c61 : Nat, ∀ n62 : Int, ∀ H63 : Heap, I57 a59 l60 c61 n62 H63 → (
                                                            Does Try.prog 12 [(.pointer p55)] H63 fun v64 H65 => ∃ n66 : Int, v64 = (.int .i64 n66) ∧ (
                                                            ((((n62 : Int) < n66) → (
                                                            Does Try.prog 20 [(.pointer p55), (.int .i64 n62)] H65 fun v67 H68 => ∃ a69 : Option Addr, ∃ l70 : Nat, ∃ c71 : Nat, ∃ n72 : Int, v67 = (.tuple #[(.slice a69 l70 c71), (.int .i64 n72)]) ∧ (
                                                            ∃ l73 : List UInt8, SRow H68 1 l70 (.slice a69 l70 c71) (List.map (fun (b : UInt8) => Value.int .u8 b.toNat) l73) ∧ (
                                                            ∀ b74 : Nat, ∀ H75 : Heap, New H68 b74 [(.string (ByteArray.mk (List.toArray l73)))] 9 H75 → (
                                                            ∃ old76 new77 : List Value, SRow H75 1 l60 (.slice a59 l60 c61) old76 ∧ SRow H75 1 1 (.slice (some (⟨b74, 0, none⟩ : Addr)) 1 1) new77 ∧ (∀ u ∈ new77, Value.oneCell' u = true) ∧ (l60 + 1) * 16 ≤ 140737488355328 ∧ (l60 + 1 ≤ c61 → roomOf H75 a59 (l60 * 1) (1 * 1)) ∧ ∀ a78 : Option Addr, ∀ c79 : Nat, ∀ H80 : Heap, App H75 1 9 [(.string (ByteArray.mk #[]))] a59 l60 c61 old76 new77 1 a78 c79 H80 → (
                                                            ∀ q81 : Int, q81 = IntKind.wrap .i64 (n62 + 1) → (
                                                            (I57 a78 (l60 + 1) c79 q81 H80) ∧ μ58 a78 (l60 + 1) c79 q81 H80 < μ58 a59 l60 c61 n62 H63))))))) ∧ (¬ ((n62 : Int) < n66) → (
                                                            (0 : Int) ≤ n11 ∧ (n11 : Int) < (x0l : Int) ∧ ∃ b82 o83 : Nat, x0 = some (⟨b82, o83, none⟩ : Addr) ∧ (
                                                            ∃ n84 : Int, hcell H65 b82 ((o83 + (Int.toNat n11) * 4) + 1) = some (.int .i64 n84) ∧ (
                                                            ((3 : Int) ≠ 0) ∧
                                                            ∀ q85 : Int, q85 = IntKind.wrap .i64 (Int.tdiv n84 3) → (
                                                            Does Try.prog 12 [(.pointer p55)] H65 fun v86 H87 => ∃ n88 : Int, v86 = (.int .i64 n88) ∧ (
                                                            isL H87 b82 ((o83 + (Int.toNat n11) * 4) + 1) [(.int .i64 n84)] ∧ (Does Try.prog 8 [(.int .i64 q85), (.int .i64 n88)] H87 fun v89 H90 => ∃ n91 : Int, v89 = (.int .i64 n91) ∧ (
                                                            (∀ q92 : Int, q92 = IntKind.wrap .i64 (200 + n11) → (
                                                            Does Try.prog 13 [(.int .i64 q92)] H90 fun v93 H94 => ∃ a95 : Option Addr, ∃ l96 : Nat, ∃ c97 : Nat, v93 = (.slice a95 l96 c97) ∧ (
                                                            ∀ b98 : Nat, ∀ H99 : Heap, New H94 b98 [(.int .i64 n91), (.slice a95 l96 c97)] 48 H99 → (
                                                            Does Try.prog 19 [(.pointer p55), (.slice (some (⟨b98, 0, none⟩ : Addr)) 1 1)] H99 fun v100 H101 => ∃ n102 : Int, v100 = (.int .i64 n102) ∧ (
                                                            ((((n102 : Int) ≠ 0) → (
                                                            R (.bool false) H101)) ∧ (¬ ((n102 : Int) ≠ 0) → (
                                                            Does Try.prog 14 [(.pointer p55)] H101 fun v103 H104 => ∃ n105 : Int, v103 = (.int .i64 n105) ∧ (
                                                            ((((n105 : Int) ≠ 0) → (
                                                            R (.bool false) H104)) ∧ (¬ ((n105 : Int) ≠ 0) → (
                                                            ∃ l106 : List UInt8, SRow H104 1 l96 (.slice a95 l96 c97) (List.map (fun (b : UInt8) => Value.int .u8 b.toNat) l106) ∧ (
                                                            (0 : Int) ≤ n91 ∧ (n91 : Int) < (l60 : Int) ∧ ∃ b107 o108 : Nat, a59 = some (⟨b107, o108, none⟩ : Addr) ∧ (
                                                            Cells H104 b107 (o108 + (Int.toNat n91)) 1 ∧ ∀ H109 : Heap, Puts H104 b107 (o108 + (Int.toNat n91)) [(.string (ByteArray.mk (List.toArray l106)))] H109 → (
                                                            Does Try.prog 21 [(.pointer p4), (.slice none 0 0)] H109 fun v110 H111 => v110 = (.tuple #[]) ∧ (
                                                            Does Try.prog 17 [(.pointer p4)] H111 fun v112 H113 => ∃ p114 : Option Addr, ∃ n115 : Int, v112 = (.tuple #[(.pointer p114), (.int .i64 n115)]) ∧ (
                                                            ((((n115 : Int) ≠ 0) → (
                                                            R (.bool false) H113)) ∧ (¬ ((n115 : Int) ≠ 0) → (
                                                            ((((p114 : Option Addr) = none) → (
                                                            R (.bool false) H113)) ∧ (¬ ((p114 : Option Addr) = none) → (
                                                            ∃ I116 : Int → Heap → Prop, ∃ μ117 : Int → Heap → Nat, (I116 0 H113) ∧
                                                            ∀ n118 : Int, ∀ H119 : Heap, I116 n118 H119 → (
                                                            Does Try.prog 12 [(.pointer p114)] H119 fun v120 H121 => ∃ n122 : Int, v120 = (.int .i64 n122) ∧ (
                                                            ((((n118 : Int) < n122) → (
                                                            Does Try.prog 20 [(.pointer p114), (.int .i64 n118)] H121 fun v123 H124 => ∃ a125 : Option Addr, ∃ l126 : Nat, ∃ c127 : Nat, ∃ n128 : Int, v123 = (.tuple #[(.slice a125 l126 c127), (.int .i64 n128)]) ∧ (
                                                            ((((n128 : Int) ≠ 0) → (
                                                            R (.bool false) H124)) ∧ (¬ ((n128 : Int) ≠ 0) → (
                                                            ∃ l129 : List UInt8, SRow H124 1 l126 (.slice a125 l126 c127) (List.map (fun (b : UInt8) => Value.int .u8 b.toNat) l129) ∧ (
                                                            (0 : Int) ≤ n118 ∧ (n118 : Int) < (l60 : Int) ∧ ∃ b130 o131 : Nat, a59 = some (⟨b130, o131, none⟩ : Addr) ∧ (
                                                            ∃ s132 : ByteArray, hcell H124 b130 (o131 + (Int.toNat n118)) = some (.string s132) ∧ (
                                                            (((((ByteArray.mk (List.toArray l129)) : ByteArray) ≠ s132) → (
                                                            R (.bool false) H124)) ∧ (¬ (((ByteArray.mk (List.toArray l129)) : ByteArray) ≠ s132) → (
                                                            ∀ q133 : Int, q133 = IntKind.wrap .i64 (n118 + 1) → (
                                                            (I116 q133 H124) ∧ μ117 q133 H124 < μ117 n118 H119))))))))))))) ∧ (¬ ((n118 : Int) < n122) → (
                                                            ∀ q134 : Int, q134 = IntKind.wrap .i64 (n11 + 1) → (
                                                            (I8 p114 q134 H121) ∧ μ9 p114 q134 H121 < μ9 p10 n11 H12))))))))))))))))))))))))))))))))))))))))))))))))))))))) ∧ (¬ ((n11 : Int) < 10) → (
                                      R (.bool true) H12))))) ∧ (¬ ((n11 : Int) < (x0l : Int)) → (
                                R (.bool true) H12)))))))))))))))) := by kernel_rfl


end Go.Proofs
end

section
open Go Go.Vc
namespace Go.Proofs

/-- A step, as it is read. -/
abbrev StepR : Rd := KAll [(1, KInt .i64), (1, KInt .i64), (1, KInts .i64), (1, KBytes)]
theorem step_at {H : Heap} {a : Option Addr} {len cap : Nat} (h : KSlice 4 StepR H [.slice a len cap]) {j : Nat} (hj : j < len) :
    ∃ b o what n, ∃ (pa : Option Addr) (la ca : Nat) (ats : List Int) (pm : Option Addr) (lm cm : Nat) (ms : List UInt8), a = some ⟨b, o, none⟩ ∧ hcell H b (o + j * 4) = some (.int .i64 what) ∧ hcell H b (o + j * 4 + 1) = some (.int .i64 n) ∧ hcell H b (o + j * 4 + 1 + 1) = some (.slice pa la ca) ∧ hcell H b (o + j * 4 + 1 + 1 + 1) = some (.slice pm lm cm) ∧
      SRow H 1 la (.slice pa la ca) (ints ats) ∧ la ≤ maxLen ∧ SRow H 1 lm (.slice pm lm cm) (bytesV ms) ∧ lm ≤ maxLen := by
  obtain ⟨a', len', cap', rows, e, h1, h2, h3, h4, h5⟩ := h
  simp only [List.cons.injEq, Value.slice.injEq, and_true] at e
  obtain ⟨rfl, rfl, rfl⟩ := e
  have hi : rows[j]? = some (rows[j]'(by omega)) := List.getElem?_eq_getElem (by omega)
  obtain ⟨b, o, rfl, hc⟩ := kslice_at h3 h4 (by decide) hi
  have hr := h5 _ (List.getElem_mem (by omega : j < rows.length))
  have hl := h3 _ (List.getElem_mem (by omega : j < rows.length))
  generalize rows[j]'(by omega) = r at *
  match r, hl with
  | [v0, v1, v2, v3], _ =>
    obtain ⟨_, ⟨x, e0, _⟩, _, ⟨n, e1, _⟩, _, ⟨pa, la, ca, ats, e2, g1, g2, g3, _⟩, _, ⟨pm, lm, cm, ms, e3, k1, k2, k3⟩, _⟩ := hr
    cases e0; cases e1; cases e2; cases e3
    exact ⟨b, o, x, n, pa, la, ca, ats, pm, lm, cm, ms, rfl, hc 0 _ rfl, hc 1 _ rfl, hc 2 _ rfl, hc 3 _ rfl, g3, g2, k3, k2⟩

def setW (ws : List Octs) (l : List Wr) : List Octs := l.foldl (fun ws w => ws.set w.1.toNat w.2) ws
theorem setW_len : ∀ (l : List Wr) (ws : List Octs), (setW ws l).length = ws.length
  | [], _ => rfl
  | w :: l, ws => by
    show (setW (ws.set w.1.toNat w.2) l).length = _
    rw [setW_len l, List.length_set]
theorem setW_get (n : Nat) : ∀ (l : List Wr) (ws : List Octs) (cur : Nat → Octs), (∀ w ∈ l, 0 ≤ w.1 ∧ w.1 < n) → ws.length = n → (∀ k, k < n → ws[k]? = some (cur k)) → ∀ k, k < n → (setW ws l)[k]? = some (overT cur l k)
  | [], ws, cur, _, _, h, k, hk => h k hk
  | w :: l, ws, cur, hw, hl, h, k, hk => by
    show (setW (ws.set w.1.toNat w.2) l)[k]? = _
    have hw0 := hw w (by simp)
    rw [show w :: l = [w] ++ l from rfl, over_app]
    refine setW_get n l _ _ (fun x hx => hw x (by simp [hx])) (by rw [List.length_set]; exact hl) (fun j hj => ?_) k hk
    have ho : overT cur [w] j = if (j : Int) = w.1 then w.2 else cur j := by
      unfold overT
      show ((tGet (tSet [] w.1 w.2) j).getD (cur j)) = _
      rw [tGet_set]
      split <;> rfl
    rw [ho]
    by_cases e : (j : Int) = w.1
    · rw [if_pos e, show w.1.toNat = j by omega, List.getElem?_set_self (by omega)]
    · rw [if_neg e, List.getElem?_set_ne (by omega)]; exact h j hj
theorem setW_snoc (ws : List Octs) (l : List Wr) (w : Wr) : setW ws (l ++ [w]) = (setW ws l).set w.1.toNat w.2 := by unfold setW; rw [List.foldl_append]; rfl

set_option maxHeartbeats 4000000 in
theorem jreads_law (H : Heap) (x0 : Int) (_ : (Lit.int .i64 x0).wf = true) (a : Option Addr) (len cap : Nat) (hs : KSlice 4 StepR H [.slice a len cap]) : Does Try.prog 4 [.int .i64 x0, .slice a len cap] H fun v H' => v = .bool true ∧ Ext [] H H' := by
  refine Fn_of_vc Try.mixed (vcl_reads _ _ _ _ _ _) ?_
  refine (pick_ok x0 20 H (by decide) (by decide)).mono ?_
  rintro _ _ ⟨rfl, rfl⟩
  have a0 := Int.emod_nonneg x0 (show (20 : Int) ≠ 0 by decide)
  have a1 := Int.emod_lt_of_pos x0 (show (0 : Int) < 20 by decide)
  obtain ⟨z, hz, hz4⟩ : ∃ z : Nat, 4 + x0 % 20 = z ∧ 4 ≤ z ∧ z < 24 := ⟨(4 + x0 % 20).toNat, by omega, by omega, by omega⟩
  refine ⟨_, rfl, ?_⟩
  rw [hz]
  refine ⟨⟨by omega, by omega⟩, ⟨by omega, by omega⟩, ?_⟩
  rw [show (z : Int) + 10 = ((z + 10 : Nat) : Int) by omega]
  refine (open0_ok H (n := z + 10) (z := z) (by omega) (by omega) (S := fun _ => True) trivial).mono ?_
  rintro _ H5 ⟨pj0, pd, F0, J0, D0, rfl, h5, hf0, hu0⟩
  refine ⟨_, _, rfl, (known_ok H5).mono ?_⟩
  rintro _ H9 ⟨rfl, hx9⟩
  have h9 := h5.more hx9
  have hN : z + 10 - 1 - z = 9 := by omega
  refine ⟨_, rfl, fun h => (by cases h), fun _ => ⟨fun h => (by cases h), fun _ => ⟨fun h => (by cases h), fun _ => ?_⟩⟩⟩
  refine ⟨fun a l c i H' => ∃ j : Nat, i = j ∧ j ≤ 9 ∧ j = l ∧ JL H H' F0 pj0 pd (z + 10) z 10000 J0 D0 (fun _ => zeros) (fun _ => True) ∧ StrRow H H' F0 a c (List.replicate j zeros), fun _ _ _ i _ => 9 - i.toNat, ⟨0, rfl, by omega, rfl, h9, StrRow.nil _ _ _⟩, ?_⟩
  rintro a13 _ c15 _ H17 ⟨j, rfl, hj, rfl, h17, hrow17⟩
  refine (h17.home).mono ?_
  rintro _ _ ⟨rfl, rfl⟩
  rw [hN]
  refine ⟨_, rfl, fun h1 => (block_ok 0 H17).mono ?_, fun h1 => ?_⟩
  · rintro _ H22 ⟨rfl, ho22, hx22⟩
    rw [blockB_zero] at ho22
    refine ⟨_, _, _, rfl, zeros, ho22.row _ _, fun b27 H28 hn28 => ?_⟩
    have hrow22 := hrow17.more hx22
    have h22 := h17.more hx22
    have := hrow22.push h22.jin.ext.size h22.lt (x := zeros) (e := 9) (e' := 9) (by simp; omega) (R := fun a31 c32 H33 => In64 ((j : Int) + 1) ∧ (∃ j' : Nat, (j : Int) + 1 = j' ∧ j' ≤ 9 ∧ j' = j + 1 ∧ JL H H33 F0 pj0 pd (z + 10) z 10000 J0 D0 (fun _ => zeros) (fun _ => True) ∧ StrRow H H33 F0 a31 c32 (List.replicate j' zeros)) ∧ 9 - ((j : Int) + 1).toNat < 9 - (j : Int).toNat) (fun a' c' H' g1 g2 => ⟨⟨by omega, by omega⟩, ⟨j + 1, by omega, by omega, rfl, h22.off g2 (fun k hk => ⟨(hrow22.2 k hk).1, (hrow22.2 k hk).2.2⟩), by rw [List.replicate_succ']; exact g1⟩, by omega⟩) b27 H28 hn28
    rw [List.length_replicate] at this
    exact this
  have hj9 : j = 9 := by omega
  subst hj9
  let St : Option Addr → Nat → Heap → Prop := fun p i H' => ∃ pj F J D cur ws, p = some ⟨pj, 0, none⟩ ∧ JL H H' F pj pd (z + 10) z (20000 + 20000 * i) J D cur (fun _ => True) ∧ D.fuse = -1 ∧ StrRow H H' F a13 c15 ws ∧ ws.length = 9 ∧ ∀ k, k < 9 → ws[k]? = some (cur k)
  refine ⟨fun p i H' => ∃ j : Nat, i = j ∧ j ≤ 25 ∧ St p j H', fun _ i _ => 25 - i.toNat, ⟨0, rfl, by omega, pj0, F0, J0, D0, _, _, rfl, h17.up (by omega) (by omega) (fun _ h => h), hf0, hrow17, by simp, fun k hk => by rw [List.getElem?_replicate, if_pos hk]⟩, ?_⟩
  rintro p36 _ H38 ⟨j, rfl, hj25, hst⟩
  have done : ∀ {p i H'}, St p i H' → Value.bool true = .bool true ∧ Ext [] H H' := fun ⟨_, _, _, _, _, _, _, h, _⟩ => ⟨rfl, h.jin.ext⟩
  refine ⟨fun h1 => ⟨fun h2 => ?_, fun h2 => done hst⟩, fun h1 => done hst⟩
  obtain ⟨pj, F, J, D, cur, ws, rfl, hjl, hfu, hrow, hwl, hws⟩ := hst
  obtain ⟨b, o, what, N, pa, la, ca, ats, pm, lm, cm, ms, ea, c0, c1, c2, c3, hat, hla, hms, hlm⟩ := step_at hs (j := j) (by omega)
  have hx38 := hjl.jin.ext
  refine ⟨fun p H' => St p (j + 1) H', ⟨by omega, h1, b, o, ea, what, by rw [Int.toNat_natCast]; exact hcell_ext c0 hx38 (by simp), (pick_ok what 8 H38 (by decide) (by decide)).mono ?_⟩, ?_⟩
  · rintro _ _ ⟨rfl, rfl⟩
    refine ⟨_, rfl, fun h5 => ?_, fun h5 => ⟨fun h6 => ?_, fun h6 => ⟨fun h7 => ?_, fun h7 => ?_⟩⟩⟩
    · -- Sync
      refine (hjl.sync (by omega) (S' := fun _ => True) trivial).mono ?_
      rintro _ H46 ⟨hx46, J', D', ⟨rfl, hjl', hf'⟩ | ⟨_, _, _, hne⟩⟩
      · exact ⟨_, rfl, fun h => absurd rfl h, fun _ => ⟨pj, _, J', D', cur, ws, rfl, hjl'.up (by omega) (by omega) (fun _ h => h), hf' hfu, hrow.step hx46, hwl, hws⟩⟩
      · exact absurd hfu hne
    · -- Checkpoint
      refine (hjl.checkpoint (by omega) (S' := fun _ => True) trivial).mono ?_
      rintro _ H50 ⟨hx50, J', D', ⟨rfl, hjl', hf', hu'⟩ | ⟨_, _, _, hne⟩⟩
      · refine ⟨_, rfl, fun h => absurd rfl h, fun _ => (jfree_ok hjl'.jin.jd hjl'.jin.jwf (by omega)).mono ?_⟩
        rintro _ _ ⟨rfl, rfl⟩
        refine ⟨_, rfl, fun h => absurd (by rw [hu', hjl'.live.lays.2.2.1]; omega) h, fun _ => ⟨pj, _, J', D', cur, ws, rfl, hjl'.up (by omega) (by omega) (fun _ h => h), hf' hfu, hrow.step hx50, hwl, hws⟩⟩
      · exact absurd hfu hne
    · -- Open
      have hsure : Sure (z + 10) z (20000 + 20000 * j) (laid D.kept D.pend) cur := by
        obtain ⟨e, s, T, f, base, hl, hc, _⟩ := hjl.live
        rw [hc]
        exact ⟨e, s, T, hl.sure.1⟩
      refine (hjl.jin.dv.open_ (by omega) ⟨rfl, rfl, hjl.live.lays.2.2.2.2.2.1⟩ hsure (S := fun _ => True) trivial).mono ?_
      rintro _ H56 ⟨hx56, ⟨pj', J', D', rfl, hjl', hf', _, _⟩ | ⟨_, _, _, hne, _⟩⟩
      · exact ⟨_, _, rfl, fun h => absurd rfl h, fun _ => ⟨fun h => (by cases h), fun _ => ⟨pj', _, J', D', cur, ws, rfl, hjl'.up (by omega) (by omega) (fun _ h => h), hf' hfu, hrow.step hx56, hwl, hws⟩⟩⟩
      · exact absurd hfu hne
    · -- Commit
      refine ⟨by omega, h1, b, o, ea, what, by rw [Int.toNat_natCast]; exact hcell_ext c0 hx38 (by simp), N, by rw [Int.toNat_natCast]; exact hcell_ext c1 hx38 (by simp), pa, la, ca, by rw [Int.toNat_natCast]; exact hcell_ext c2 hx38 (by simp), pm, lm, cm, by rw [Int.toNat_natCast]; exact hcell_ext c3 hx38 (by simp), (hjl.home).mono ?_⟩
      rintro _ _ ⟨rfl, rfl⟩
      rw [hN]
      have hmx : maxLen ≤ 9223372036854775807 := by unfold maxLen; omega
      refine ⟨_, rfl, ?_, (list_ok what N (hat.ext hx38 (by simp)) (by omega) 9 (by decide) 4 (by decide)).mono ?_⟩
      · rw [Int.toNat_natCast]
        exact ⟨hcell_ext c0 hx38 (by simp), hcell_ext c1 hx38 (by simp), hcell_ext c2 hx38 (by simp), hcell_ext c3 hx38 (by simp), trivial⟩
      rintro _ H73 ⟨a74, c76, a77, c79, rfl, htw, hx73⟩
      have hll : (listM N ats 9 4).length ≤ 4 := by
        have := listW_len N 9 (ats.take 4) 0 []
        have h4 : (ats.take 4).length ≤ 4 := by rw [List.length_take]; omega
        simp only [List.length_nil] at this
        unfold listM; omega
      generalize listM N ats 9 4 = l at *
      have hjl73 := hjl.more hx73
      have hrow73 := hrow.more hx73
      have hlt38 := hjl.lt
      have hk : KeptW (fun k => F k ∨ k ∈ blkOf a13) H73 a74 l := htw.kept (fun k hk => by
        rcases hk with hk | hk
        · exact hlt38 k hk
        · exact (hrow.2 k hk).2.1)
      have hkF : KeptW F H73 a74 l := fun H' hx => hk H' (hx.mono (fun k _ hk => .inl hk))
      refine ⟨_, _, _, _, _, _, rfl, (hjl73.commit (by omega) (S' := fun _ => True) (fun _ _ => trivial) trivial hkF (by omega) (c := c76)).mono ?_⟩
      rintro _ H81 ⟨hx81, e, J', D', rfl, _, ⟨_, rfl, hjl'⟩ | ⟨_, hbig, rfl, hjl'⟩ | ⟨hmay, _, rfl, hjl', hf'⟩ | ⟨_, _, _, _, hne⟩⟩
      · -- ErrArg
        have st : St (some ⟨pj, 0, none⟩) (j + 1) H81 := ⟨pj, _, J, D, cur, ws, rfl, hjl'.up (by omega) (by omega) (fun _ h => h), hfu, hrow73.step hx81, hwl, hws⟩
        refine ⟨_, rfl, fun H' => H81 = H', ⟨fun _ => ⟨fun h => absurd rfl h, fun _ => rfl⟩, fun _ => rfl⟩, ?_⟩
        rintro _ rfl
        exact ⟨fun _ H' => H81 = H', fun _ _ => 0, rfl, fun n90 H91 hh => by subst hh; exact ⟨fun _ => ⟨fun h => absurd h (by decide), fun _ => st⟩, fun _ => st⟩⟩
      · -- ErrBig
        have st : St (some ⟨pj, 0, none⟩) (j + 1) H81 := ⟨pj, _, J, D, cur, ws, rfl, hjl'.up (by omega) (by omega) (fun _ h => h), hfu, hrow73.step hx81, hwl, hws⟩
        refine ⟨_, rfl, fun H' => H81 = H', ⟨fun _ => ⟨fun _ => ⟨fun h => absurd rfl h, fun _ => (needs_ok l.length H81 (by omega)).mono ?_⟩, fun _ => rfl⟩, fun _ => rfl⟩, ?_⟩
        · rintro _ _ ⟨rfl, rfl⟩
          exact ⟨_, rfl, fun h => by omega, fun _ => rfl⟩
        · rintro _ rfl
          exact ⟨fun _ H' => H81 = H', fun _ _ => 0, rfl, fun n90 H91 hh => by subst hh; exact ⟨fun _ => ⟨fun h => absurd h (by decide), fun _ => st⟩, fun _ => st⟩⟩
      · -- OK
        refine ⟨_, rfl, fun H' => H81 = H', ⟨fun h => absurd rfl h, fun _ => rfl⟩, ?_⟩
        rintro _ rfl
        have hin : ∀ w ∈ l, 0 ≤ w.1 ∧ w.1 < (9 : Nat) := fun w hw => by have := hmay.2.1 w hw; omega
        generalize hF' : grow F H73 H81 = F' at *
        have hrow81 : StrRow H H81 F' a13 c15 ws := by rw [← hF']; exact hrow73.step hx81
        have hxx : ExtP (fun k => F k ∨ k ∈ blkOf a13) H73 H81 := hx81.mono (fun k _ hk => .inl hk)
        refine ⟨fun i H' => ∃ q : Nat, i = q ∧ q ≤ l.length ∧ JL H H' F' pj pd (z + 10) z (20000 + 20000 * j + 14100) J' D' (overT cur l) (fun _ => True) ∧ StrRow H H' F' a13 c15 (setW ws (l.take q)) ∧ ExtP (fun k => F k ∨ k ∈ blkOf a13) H73 H', fun i _ => l.length - i.toNat, ⟨0, rfl, by omega, hjl', hrow81, hxx⟩, ?_⟩
        rintro _ H91 ⟨q, rfl, hq, hjl91, hrow91, hx91⟩
        refine ⟨fun h8 => ⟨fun _ => ?_, fun h => absurd rfl h⟩, fun h8 => ?_⟩
        · have hi : l[q]? = some (l[q]'(by omega)) := List.getElem?_eq_getElem (by omega)
          obtain ⟨bb, oo, aa, cc, eaa, q0, q1, q2, _⟩ := (hk H91 hx91).wr hi
          have hmq := hin _ (List.getElem_mem (by omega : q < l.length))
          have htk : l.take (q + 1) = l.take q ++ [l[q]'(by omega)] := by rw [List.take_add_one, hi]; rfl
          generalize l[q]'(by omega) = w at *
          have hwl' : (setW ws (l.take q)).length = 9 := by rw [setW_len, hwl]
          obtain ⟨b101, e101, hcl, hput⟩ := hrow91.put (i := w.1.toNat) (by rw [hwl']; omega) w.2
          refine ⟨by omega, h8, bb, oo, eaa, _, by rw [Int.toNat_natCast]; exact q0, by omega, h8, bb, oo, eaa, aa, _, cc, by rw [Int.toNat_natCast]; exact q1, w.2, q2, hmq.1, by omega, b101, 0, e101, hcl, fun H103 hp => ?_⟩
          obtain ⟨g1, g2⟩ := hput H103 hp
          refine ⟨⟨by omega, by omega⟩, ⟨q + 1, by omega, by omega, hjl91.off g2 (fun k hk => ⟨(hrow91.2 k hk).1, (hrow91.2 k hk).2.2⟩), by rw [htk, setW_snoc]; exact g1, hx91.trans (g2.lift (fun k _ hk => .inr hk))⟩, by simp only []; omega⟩
        · have : q = l.length := by omega
          subst this
          rw [List.take_length] at hrow91
          exact ⟨pj, F', J', D', overT cur l, setW ws l, rfl, hjl91.up (by omega) (by omega) (fun _ h => h), hf' hfu, hrow91, by rw [setW_len, hwl], setW_get 9 l ws cur hin hwl hws⟩
      · exact absurd hfu hne
  · -- all home blocks
    rintro p104 H105 ⟨pj', F', J', D', cur', ws', rfl, hjl', hfu', hrow', hwl', hws'⟩
    refine ⟨fun i H' => ∃ q : Nat, i = q ∧ q ≤ 9 ∧ JL H H' F' pj' pd (z + 10) z (20000 + 20000 * (j + 1)) J' D' cur' (fun _ => True) ∧ StrRow H H' F' a13 c15 ws', fun i _ => 9 - i.toNat, ⟨0, rfl, by omega, hjl', hrow'⟩, ?_⟩
    rintro _ H109 ⟨q, rfl, hq, hjl109, hrow109⟩
    refine ⟨fun h8 => (hjl109.read (k := q) (by omega)).mono ?_, fun h8 => ⟨⟨by omega, by omega⟩, ⟨j + 1, by omega, by omega, pj', F', J', D', cur', ws', rfl, hjl109, hfu', hrow109, hwl', hws'⟩, by simp only []; omega⟩⟩
    rintro _ H111 ⟨a112, c114, rfl, ho, hf, hjl111, hx111⟩
    have hrow111 := hrow109.same hx111
    obtain ⟨bb, oo, eaa, hc⟩ := hrow111.get (hws' q (by omega))
    exact ⟨_, _, _, _, rfl, fun h => absurd rfl h, fun _ => ⟨cur' q, ho.row _ _, by omega, h8, bb, oo, eaa, _, by rw [Int.toNat_natCast]; exact hc, fun hne => absurd rfl hne, fun _ => ⟨⟨by omega, by omega⟩, ⟨q + 1, by omega, by omega, hjl111, hrow111⟩, by simp only []; omega⟩⟩⟩
end Go.Proofs
end

section
open Go Go.Vc
namespace Go.Proofs

theorem mask_at {H : Heap} {a : Option Addr} {len cap : Nat} (h : KSlice 1 KBytes H [.slice a len cap]) {j : Nat} (hj : j < len) :
    ∃ b o, ∃ (pa : Option Addr) (la ca : Nat) (ms : List UInt8), a = some ⟨b, o, none⟩ ∧ hcell H b (o + j) = some (.slice pa la ca) ∧ SRow H 1 la (.slice pa la ca) (bytesV ms) := by
  obtain ⟨a', len', cap', rows, e, h1, h2, h3, h4, h5⟩ := h
  simp only [List.cons.injEq, Value.slice.injEq, and_true] at e
  obtain ⟨rfl, rfl, rfl⟩ := e
  have hi : rows[j]? = some (rows[j]'(by omega)) := List.getElem?_eq_getElem (by omega)
  obtain ⟨b, o, rfl, hc⟩ := kslice_at h3 h4 (by decide) hi
  obtain ⟨pa, la, ca, ms, e2, g1, g2, g3⟩ := h5 _ (List.getElem_mem (by omega : j < rows.length))
  rw [e2] at hc
  have := hc 0 _ rfl
  rw [Nat.mul_one, Nat.add_zero] at this
  exact ⟨b, o, pa, la, ca, ms, rfl, this, g3⟩

theorem over_one (cur : Nat → Octs) (n : Nat) (x : Octs) (k : Nat) : overT cur [((n : Int), x)] k = if k = n then x else cur k := by
  unfold overT
  show ((tGet (tSet [] (n : Int) x) k).getD (cur k)) = _
  rw [tGet_set]
  by_cases e : k = n
  · subst e; rw [if_pos rfl, if_pos rfl]; rfl
  · rw [if_neg e, if_neg (by omega)]; rfl

set_option maxHeartbeats 4000000 in
theorem jepochs_law (H : Heap) (a : Option Addr) (len cap : Nat) (hs : KSlice 4 StepR H [.slice a len cap]) (am : Option Addr) (lm cm : Nat) (hm : KSlice 1 KBytes H [.slice am lm cm]) : Does Try.prog 5 [.slice a len cap, .slice am lm cm] H fun v H' => v = .bool true ∧ Ext [] H H' := by
  refine Fn_of_vc Try.mixed (vcl_epochs _ _ _ _ _ _ _ _) ?_
  refine (open0_ok H (n := 30) (z := 16) (by omega) (by omega) (S := fun _ => True) trivial).mono ?_
  rintro _ H2 ⟨pj0, pd, F0, J0, D0, rfl, h2, hf0, hu0⟩
  refine ⟨_, _, rfl, (known_ok H2).mono ?_⟩
  rintro _ H6 ⟨rfl, hx6⟩
  have h6 := h2.more hx6
  refine ⟨_, rfl, fun h => (by cases h), fun _ => ⟨fun h => (by cases h), fun _ => ⟨fun h => (by cases h), fun _ => ?_⟩⟩⟩
  let St : Option Addr → Nat → Heap → Prop := fun p i H' => ∃ pj F J D cur, p = some ⟨pj, 0, none⟩ ∧ JL H H' F pj pd 30 16 (20000 + 200000 * i) J D cur (fun _ => True) ∧ D.fuse = -1
  refine ⟨fun p i H' => ∃ j : Nat, i = j ∧ j ≤ 10 ∧ St p j H', fun _ i _ => 10 - i.toNat, ⟨0, rfl, by omega, pj0, F0, J0, D0, _, rfl, h6.up (by omega) (by omega) (fun _ h => h), hf0⟩, ?_⟩
  rintro p10 _ H12 ⟨j, rfl, hj10, hst⟩
  have done : ∀ {p i H'}, St p i H' → Value.bool true = .bool true ∧ Ext [] H H' := fun ⟨_, _, _, _, _, _, h, _⟩ => ⟨rfl, h.jin.ext⟩
  refine ⟨fun h1 => ⟨fun h2 => ?_, fun h2 => done hst⟩, fun h1 => done hst⟩
  obtain ⟨pj, F, J, D, cur, rfl, hjl, hfu⟩ := hst
  obtain ⟨b, o, what, N, pa, la, ca, ats, pm, lmm, cmm, ms, ea, c0, c1, c2, c3, hat, hla, hms, hlm⟩ := step_at hs (j := j) (by omega)
  have hN : 30 - 1 - 16 = 13 := by omega
  have hmay : ∀ {k c : Int}, 0 ≤ k → k < 13 → MayP [(k, blockB c)] (((30 : Nat) : Int) - 1 - ((16 : Nat) : Int)) := fun h0 h1 => may_one h0 (by omega)
  refine ⟨fun i H' => ∃ q : Nat, i = q ∧ q ≤ 4 ∧ ∃ F J D cur, JL H H' F pj pd 30 16 (20000 + 200000 * j + 14100 * q) J D cur (fun _ => True) ∧ D.fuse = -1, fun i _ => 4 - i.toNat, ⟨0, rfl, by omega, F, J, D, cur, hjl, hfu⟩, ?_⟩
  rintro _ H16 ⟨q, rfl, hq, F, J, D, cur, hjl, hfu⟩
  have hx16 := hjl.jin.ext
  refine ⟨fun h3 => ?_, fun h3 => ?_⟩
  · refine ⟨by omega, h1, b, o, ea, N, by rw [Int.toNat_natCast]; exact hcell_ext c1 hx16 (by simp), fun q20 _ q21 _ q22 _ q23 _ => (hjl.home).mono ?_⟩
    rintro _ _ ⟨rfl, rfl⟩
    refine ⟨_, rfl, ⟨by rw [Int.toNat_natCast]; exact hcell_ext c1 hx16 (by simp), trivial⟩, (pick_ok q20 ((30 - 1 - 16 : Nat) : Int) H16 (by decide) (by decide)).mono ?_⟩
    rintro _ _ ⟨rfl, rfl⟩
    have e0 := Int.emod_nonneg q20 (show ((30 - 1 - 16 : Nat) : Int) ≠ 0 by decide)
    have e1 := Int.emod_lt_of_pos q20 (show (0 : Int) < ((30 - 1 - 16 : Nat) : Int) by decide)
    generalize q20 % ((30 - 1 - 16 : Nat) : Int) = k at *
    refine ⟨_, rfl, (block_ok q23 H16).mono ?_⟩
    rintro _ H31 ⟨rfl, ho31, hx31⟩
    have h31 := hjl.more hx31
    refine ⟨_, _, _, rfl, fun b35 H36 hn36 => ?_⟩
    have hk := kept_one (k := k) hn36 h31.lt ho31 (fun h => by have := hjl.lt _ h; omega)
    refine ((h31.more hn36.ext).commit (by omega) (S' := fun _ => True) (fun _ _ => trivial) trivial hk (by simp) (c := 1)).mono ?_
    rintro _ H38 ⟨hx38, e, J', D', rfl, _, ⟨g1, _⟩ | ⟨_, g1, _⟩ | ⟨_, _, rfl, h38, hf38⟩ | ⟨_, _, _, _, g1⟩⟩
    · exact absurd (hmay e0 (by omega)) g1
    · exact absurd g1 (by simp only [List.length_cons, List.length_nil]; decide)
    · refine ⟨_, rfl, fun h => absurd rfl h, fun _ q40 hq40 => ?_⟩
      rw [wrap_of_in64 ⟨by omega, by omega⟩] at hq40
      exact ⟨⟨q + 1, by omega, by omega, _, J', D', _, h38.up (by omega) (by omega) (fun _ h => h), hf38 hfu⟩, by simp only []; omega⟩
    · exact absurd hfu g1
  have hq4 : q = 4 := by omega
  subst hq4
  refine ⟨fun a47 l48 c49 H' => H16 = H' ∧ ∃ ms : Octs, KeptB F H16 a47 l48 c49 ms, ⟨fun h4 => ?_, fun h4 => ⟨rfl, [], nil_kept _ _⟩⟩, ?_⟩
  · obtain ⟨bm, om, pa', la', ca', ms', em, cm0, hrm⟩ := mask_at hm (j := j) (by omega)
    exact ⟨by omega, h4, bm, om, em, pa', la', ca', by rw [Int.toNat_natCast]; exact hcell_ext cm0 hx16 (by simp), rfl, ms', KeptB.old hrm hx16 hjl.jin.low⟩
  rintro a47 l48 c49 _ ⟨rfl, ms', hkm⟩
  refine (hjl.jin.dv.crash (by omega) hkm).mono ?_
  rintro _ H52 ⟨rfl, hx52, hdv52, hat52, hf52⟩
  obtain ⟨hm1, _, hsure⟩ := Live.crash hjl.live ms'
  refine ⟨rfl, (hdv52.open_ (by omega) hat52 hsure (S := fun _ => True) trivial).mono ?_⟩
  rintro _ H54 ⟨hx54, ⟨pj2, J2, D2, rfl, h54, hf54, hu2, _⟩ | ⟨_, _, _, hne, _⟩⟩
  rotate_left
  · exact absurd hf52 hne
  refine ⟨_, _, rfl, fun h => absurd rfl h, fun _ => ⟨fun h => (by cases h), fun _ => ?_⟩⟩
  generalize grow _ H52 H54 = F2 at *
  have hfu2 := hf54 hf52
  refine ⟨fun a l c i H' => ∃ q : Nat, ∃ ws : List Octs, i = q ∧ q ≤ 13 ∧ q = l ∧ JL H H' F2 pj2 pd 30 16 (20000 + 200000 * j + 14100 * 4 + 5000) J2 D2 hm1 (fun _ => True) ∧ StrRow H H' F2 a c ws ∧ ws.length = q ∧ ∀ k, k < q → ws[k]? = some (hm1 k), fun _ _ _ i _ => 13 - i.toNat, ⟨0, [], rfl, by omega, rfl, h54, StrRow.nil _ _ _, rfl, fun k hk => by omega⟩, ?_⟩
  rintro a59 _ c61 _ H63 ⟨q, ws, rfl, hq, rfl, h63, hrow, hwl, hws⟩
  have hx63 := h63.jin.ext
  refine (h63.home).mono ?_
  rintro _ _ ⟨rfl, rfl⟩
  rw [hN]
  refine ⟨_, rfl, fun h4 => (h63.read (k := q) (by omega)).mono ?_, fun h4 => ?_⟩
  · rintro _ H68 ⟨a69, c71, rfl, ho68, hf68, h68, hx68⟩
    refine ⟨_, _, _, _, rfl, hm1 q, ho68.row _ _, fun b74 H75 hn75 => ?_⟩
    have hrow68 := hrow.same hx68
    have := hrow68.push h68.jin.ext.size h68.lt (x := hm1 q) (e := 9) (e' := 9) (by rw [hwl]; omega) (R := fun a78 c79 H80 => ∀ q81 : Int, q81 = IntKind.wrap .i64 ((q : Int) + 1) → (∃ q' : Nat, ∃ ws : List Octs, q81 = q' ∧ q' ≤ 13 ∧ q' = q + 1 ∧ JL H H80 F2 pj2 pd 30 16 (20000 + 200000 * j + 14100 * 4 + 5000) J2 D2 hm1 (fun _ => True) ∧ StrRow H H80 F2 a78 c79 ws ∧ ws.length = q' ∧ ∀ k, k < q' → ws[k]? = some (hm1 k)) ∧ 13 - q81.toNat < 13 - (q : Int).toNat) (fun a' c' H' g1 g2 q81 hq81 => by
      rw [wrap_of_in64 ⟨by omega, by omega⟩] at hq81
      refine ⟨⟨q + 1, _, by omega, by omega, rfl, h68.off g2 (fun k hk => ⟨(hrow68.2 k hk).1, (hrow68.2 k hk).2.2⟩), g1, by simp [hwl], fun k hk => ?_⟩, by omega⟩
      by_cases e : k = q
      · subst e; rw [List.getElem?_append_right (by omega), hwl]; simp
      · rw [List.getElem?_append_left (by omega)]; exact hws k (by omega)) b74 H75 hn75
    rw [hwl] at this
    exact this
  have hq13 : q = 13 := by omega
  subst hq13
  refine ⟨by omega, h1, b, o, ea, N, by rw [Int.toNat_natCast]; exact hcell_ext c1 hx63 (by simp), by decide, fun q85 _ => (h63.home).mono ?_⟩
  rintro _ _ ⟨rfl, rfl⟩
  refine ⟨_, rfl, ⟨by rw [Int.toNat_natCast]; exact hcell_ext c1 hx63 (by simp), trivial⟩, (pick_ok q85 ((30 - 1 - 16 : Nat) : Int) H63 (by decide) (by decide)).mono ?_⟩
  rintro _ _ ⟨rfl, rfl⟩
  have e0 := Int.emod_nonneg q85 (show ((30 - 1 - 16 : Nat) : Int) ≠ 0 by decide)
  have e1 := Int.emod_lt_of_pos q85 (show (0 : Int) < ((30 - 1 - 16 : Nat) : Int) by decide)
  obtain ⟨n, hn, hn13⟩ : ∃ n : Nat, q85 % ((30 - 1 - 16 : Nat) : Int) = n ∧ n < 13 := ⟨(q85 % ((30 - 1 - 16 : Nat) : Int)).toNat, by omega, by omega⟩
  rw [hn] at *
  refine ⟨_, rfl, fun q92 _ => (block_ok q92 H63).mono ?_⟩
  rintro _ H94 ⟨rfl, ho94, hx94⟩
  have h94 := h63.more hx94
  have hlt63 := h63.lt
  have hlt94 : H63.size < H94.size := ho94.lt _ (by simp [blkOf])
  refine ⟨_, _, _, rfl, fun b98 H99 hn99 => ?_⟩
  have hk := kept_one (k := (n : Int)) hn99 h94.lt ho94 (fun h => by have := hlt63 _ h; omega)
  have h99 := h94.more hn99.ext
  have hrow99 := (hrow.more hx94).more hn99.ext
  have ho99 := ho94.ext hn99.ext (by simp)
  refine (h99.commit (by omega) (S' := fun _ => True) (fun _ _ => trivial) trivial hk (by simp) (c := 1)).mono ?_
  rintro _ H101 ⟨hx101, e, J3, D3, rfl, _, ⟨g1, _⟩ | ⟨_, g1, _⟩ | ⟨_, _, rfl, h101, hf101⟩ | ⟨_, _, _, _, g1⟩⟩
  · exact absurd (hmay (by omega) (by omega)) g1
  · exact absurd g1 (by simp only [List.length_cons, List.length_nil]; decide)
  · have hrow101 := hrow99.step hx101
    have ho101 := ho99.extP hx101 (fun k hk hF => by simp only [blkOf, List.mem_singleton] at hk; subst hk; have := hlt63 _ hF; omega)
    have hoff101 : OffF (grow F2 H99 H101) H101 H63.size := OffF.grow ⟨by have := hn99.ext.size; omega, fun hF => by have := hlt63 _ hF; omega⟩ hx101.size
    generalize grow F2 H99 H101 = F3 at *
    refine ⟨_, rfl, fun h => absurd rfl h, fun _ => (h101.sync (by omega) (S' := fun x => x = overT hm1 [((n : Int), blockB q92)]) rfl).mono ?_⟩
    rintro _ H104 ⟨hx104, J4, D4, ⟨rfl, h104, hf104⟩ | ⟨_, _, _, hne⟩⟩
    rotate_left
    · exact absurd (hf101 hfu2) hne
    have ho104 := ho101.extP hx104 (fun k hk hF => by simp only [blkOf, List.mem_singleton] at hk; subst hk; exact hoff101.2 hF)
    have hrow104 := hrow101.step hx104
    generalize grow F3 H101 H104 = F4 at *
    obtain ⟨b107, e107, hcl, hput⟩ := hrow104.put (i := n) (by omega) (blockB q92)
    have hlb : (blockB q92).length = 128 := blockB_len _
    refine ⟨_, rfl, fun h => absurd rfl h, fun _ => ⟨blockB q92, ho104.row _ _, by omega, by omega, b107, 0, e107, by rw [Int.toNat_natCast]; exact hcl, fun H109 hp => ?_⟩⟩
    rw [Int.toNat_natCast] at hp
    obtain ⟨hrow109, hx109⟩ := hput H109 hp
    have h109 := h104.off hx109 (fun k hk => ⟨(hrow104.2 k hk).1, (hrow104.2 k hk).2.2⟩)
    refine (h109.jin.dv.crash (by omega) (nil_kept _ _)).mono ?_
    rintro _ H111 ⟨rfl, hx111, hdv111, hat111, hf111⟩
    obtain ⟨hm2, rfl, hsure2⟩ := Live.crash h109.live []
    have hrow111 := hrow109.step hx111
    generalize grow F4 H109 H111 = F5 at *
    refine ⟨rfl, (hdv111.open_ (by omega) hat111 hsure2 (S := fun _ => True) trivial).mono ?_⟩
    rintro _ H113 ⟨hx113, ⟨pj5, J5, D5, rfl, h113, hf113, hu5, _⟩ | ⟨_, _, _, hne, _⟩⟩
    rotate_left
    · exact absurd hf111 hne
    have hrow113 := hrow111.step hx113
    generalize grow F5 H111 H113 = F6 at *
    refine ⟨_, _, rfl, fun h => absurd rfl h, fun _ => ⟨fun h => (by cases h), fun _ => ?_⟩⟩
    have hws2 : ∀ k, k < 13 → (ws.set n (blockB q92))[k]? = some (overT hm1 [((n : Int), blockB q92)] k) := fun k hk => by
      rw [over_one]
      by_cases e : k = n
      · subst e; rw [if_pos rfl, List.getElem?_set_self (by omega)]
      · rw [if_neg e, List.getElem?_set_ne (fun h => e h.symm)]; exact hws k hk
    refine ⟨fun i H' => ∃ q : Nat, i = q ∧ q ≤ 13 ∧ JL H H' F6 pj5 pd 30 16 (20000 + 200000 * (j + 1)) J5 D5 (overT hm1 [((n : Int), blockB q92)]) (fun _ => True) ∧ StrRow H H' F6 a59 c61 (ws.set n (blockB q92)), fun i _ => 13 - i.toNat, ⟨0, rfl, by omega, h113.up (by omega) (by omega) (fun _ h => h), hrow113⟩, ?_⟩
    rintro _ H119 ⟨q, rfl, hq', h119, hrow119⟩
    refine (h119.home).mono ?_
    rintro _ _ ⟨rfl, rfl⟩
    refine ⟨_, rfl, fun h8 => (h119.read (k := q) (by omega)).mono ?_, fun h8 q134 hq134 => ?_⟩
    · rintro _ H124 ⟨a125, c127, rfl, ho, hf, h124, hx124⟩
      have hrow124 := hrow119.same hx124
      obtain ⟨bb, oo, eaa, hc⟩ := hrow124.get (hws2 q (by omega))
      refine ⟨_, _, _, _, rfl, fun h => absurd rfl h, fun _ => ⟨_, ho.row _ _, by omega, by omega, bb, oo, eaa, _, by rw [Int.toNat_natCast]; exact hc, fun hne => absurd rfl hne, fun _ q133 hq133 => ?_⟩⟩
      rw [wrap_of_in64 ⟨by omega, by omega⟩] at hq133
      exact ⟨⟨q + 1, by omega, by omega, h124, hrow124⟩, by simp only []; omega⟩
    · rw [wrap_of_in64 ⟨by omega, by omega⟩] at hq134
      exact ⟨⟨j + 1, by omega, by omega, pj5, F6, J5, D5, _, rfl, h119, hf113 hf111⟩, by simp only []; omega⟩
  · exact absurd hfu2 g1
end Go.Proofs
end

section
open Go Go.Vc
namespace Go.Proofs
set_option maxRecDepth 100000
/-- pentimento/pentimentolaw5.JournalPrefix -/
theorem vcl_prefix (x0 : Int) (x1 : Option Addr) (x1l : Nat) (x1c : Nat) (H : Heap) (R : Value → Heap → Prop) : Walk Try.prog 7 [(26, [(9, (.slice none 0 0))]), (37, [(7, (.slice none 0 0)), (9, (.slice none 0 0))]), (38, []), (43, []), (49, [(19, (.int .i64 0))])] [(.int .i64 x0), (.slice x1 x1l x1c)] H R = (
  Does Try.prog 8 [(.int .i64 x0), (.int .i64 10)] H fun v1 H2 => ∃ n3 : Int, v1 = (.int .i64 n3) ∧ (
    (In64 (4 + n3)) ∧
    (In64 ((4 + n3) + 12)) ∧
    Does Try.prog 11 [(.int .i64 ((4 + n3) + 12)), (.int .i64 (4 + n3))] H2 fun v4 H5 => ∃ p6 : Option Addr, ∃ p7 : Option Addr, v4 = (.tuple #[(.pointer p6), (.pointer p7)]) ∧ (
      Does Try.prog 10 [] H5 fun v8 H9 => ∃ t10 : Bool, v8 = (.bool t10) ∧ (
        (((t10 = false) → (
              R (.bool false) H9)) ∧ (¬ (t10 = false) → (
              ((((p6 : Option Addr) = none) → (
                    R (.bool false) H9)) ∧ (¬ ((p6 : Option Addr) = none) → (
                    ((((p7 : Option Addr) = none) → (
                          R (.bool false) H9)) ∧ (¬ ((p7 : Option Addr) = none) → (
                          ∃ I11 : Option Addr → Nat → Nat → Int → Heap → Prop, ∃ μ12 : Option Addr → Nat → Nat → Int → Heap → Nat, (I11 none 0 0 0 H9) ∧
                          ∀ a13 : Option Addr, ∀ l14 : Nat, ∀ c15 : Nat, ∀ n16 : Int, ∀ H17 : Heap, I11 a13 l14 c15 n16 H17 → (
                            Does Try.prog 12 [(.pointer p6)] H17 fun v18 H19 => ∃ n20 : Int, v18 = (.int .i64 n20) ∧ (
                              ((((n16 : Int) < n20) → (
                                    Does Try.prog 13 [(.int .i64 0)] H19 fun v21 H22 => ∃ a23 : Option Addr, ∃ l24 : Nat, ∃ c25 : Nat, v21 = (.slice a23 l24 c25) ∧ (
                                      ∃ l26 : List UInt8, SRow H22 1 l24 (.slice a23 l24 c25) (List.map (fun (b : UInt8) => Value.int .u8 b.toNat) l26) ∧ (
                                        ∀ b27 : Nat, ∀ H28 : Heap, New H22 b27 [(.string (ByteArray.mk (List.toArray l26)))] 9 H28 → (
                                          ∃ old29 new30 : List Value, SRow H28 1 l14 (.slice a13 l14 c15) old29 ∧ SRow H28 1 1 (.slice (some (⟨b27, 0, none⟩ : Addr)) 1 1) new30 ∧ (∀ u ∈ new30, Value.oneCell' u = true) ∧ (l14 + 1) * 16 ≤ 140737488355328 ∧ (l14 + 1 ≤ c15 → roomOf H28 a13 (l14 * 1) (1 * 1)) ∧ ∀ a31 : Option Addr, ∀ c32 : Nat, ∀ H33 : Heap, App H28 1 9 [(.string (ByteArray.mk #[]))] a13 l14 c15 old29 new30 1 a31 c32 H33 → (
                                            (In64 (n16 + 1)) ∧
                                            (I11 a31 (l14 + 1) c32 (n16 + 1) H33) ∧ μ12 a31 (l14 + 1) c32 (n16 + 1) H33 < μ12 a13 l14 c15 n16 H17)))))) ∧ (¬ ((n16 : Int) < n20) → (
                                    ∀ b34 : Nat, ∀ H35 : Heap, New H19 b34 [(.slice a13 l14 c15)] 31 H35 → (
                                      ∃ I36 : Option Addr → Option Addr → Nat → Nat → Option Addr → Nat → Nat → Int → Heap → Prop, ∃ μ37 : Option Addr → Option Addr → Nat → Nat → Option Addr → Nat → Nat → Int → Heap → Nat, (I36 p6 a13 l14 c15 (some (⟨b34, 0, none⟩ : Addr)) 1 1 0 H35) ∧
                                      ∀ p38 : Option Addr, ∀ a39 : Option Addr, ∀ l40 : Nat, ∀ c41 : Nat, ∀ a42 : Option Addr, ∀ l43 : Nat, ∀ c44 : Nat, ∀ n45 : Int, ∀ H46 : Heap, I36 p38 a39 l40 c41 a42 l43 c44 n45 H46 → (
                                        ((((n45 : Int) < (x1l : Int)) → (
                                              ((((n45 : Int) < 40) → (
                                                    (0 : Int) ≤ n45 ∧ (n45 : Int) < (x1l : Int) ∧ ∃ b47 o48 : Nat, x1 = some (⟨b47, o48, none⟩ : Addr) ∧ (
                                                      ∃ n49 : Int, hcell H46 b47 (o48 + (Int.toNat n45) * 4) = some (.int .i64 n49) ∧ (
                                                        ∃ n50 : Int, hcell H46 b47 ((o48 + (Int.toNat n45) * 4) + 1) = some (.int .i64 n50) ∧ (
                                                          ∃ a51 : Option Addr, ∃ l52 : Nat, ∃ c53 : Nat, hcell H46 b47 (((o48 + (Int.toNat n45) * 4) + 1) + 1) = some (.slice a51 l52 c53) ∧ (
                                                            ∃ a54 : Option Addr, ∃ l55 : Nat, ∃ c56 : Nat, hcell H46 b47 ((((o48 + (Int.toNat n45) * 4) + 1) + 1) + 1) = some (.slice a54 l55 c56) ∧ (
                                                            ∀ b57 : Nat, ∀ H58 : Heap, New H46 b57 [(.int .i64 0), (.int .i64 0), (.slice none 0 0), (.slice none 0 0)] 37 H58 → (
                                                            Cells H58 b57 0 4 ∧ ∀ H59 : Heap, Puts H58 b57 0 [(.int .i64 n49), (.int .i64 n50), (.slice a51 l52 c53), (.slice a54 l55 c56)] H59 → (
                                                            ∃ I60 : Option Addr → Nat → Nat → Option Addr → Nat → Nat → Heap → Prop, (
                                                            ∃ n61 : Int, hcell H59 b57 0 = some (.int .i64 n61) ∧ (
                                                            Does Try.prog 8 [(.int .i64 n61), (.int .i64 10)] H59 fun v62 H63 => ∃ n64 : Int, v62 = (.int .i64 n64) ∧ (
                                                            ((((n64 : Int) = 6) → (
                                                            Does Try.prog 14 [(.pointer p38)] H63 fun v65 H66 => ∃ n67 : Int, v65 = (.int .i64 n67) ∧ (
                                                            ((((n67 : Int) = 0) → (
                                                            ∀ b68 : Nat, ∀ H69 : Heap, New H66 b68 [(.slice a39 l40 c41)] 31 H69 → (
                                                            I60 a39 l40 c41 (some (⟨b68, 0, none⟩ : Addr)) 1 1 H69))) ∧ (¬ ((n67 : Int) = 0) → (
                                                            I60 a39 l40 c41 a42 l43 c44 H66)))))) ∧ (¬ ((n64 : Int) = 6) → (
                                                            ((((n64 : Int) = 7) → (
                                                            Does Try.prog 15 [(.pointer p38)] H63 fun v70 H71 => ∃ n72 : Int, v70 = (.int .i64 n72) ∧ (
                                                            ((((n72 : Int) = 0) → (
                                                            ∀ b73 : Nat, ∀ H74 : Heap, New H71 b73 [(.slice a39 l40 c41)] 31 H74 → (
                                                            I60 a39 l40 c41 (some (⟨b73, 0, none⟩ : Addr)) 1 1 H74))) ∧ (¬ ((n72 : Int) = 0) → (
                                                            I60 a39 l40 c41 a42 l43 c44 H71)))))) ∧ (¬ ((n64 : Int) = 7) → (
                                                            ((((n64 : Int) = 8) → (
                                                            ∃ n75 : Int, hcell H63 b57 (0 + 1) = some (.int .i64 n75) ∧ (
                                                            Does Try.prog 8 [(.int .i64 n75), (.int .i64 20)] H63 fun v76 H77 => ∃ n78 : Int, v76 = (.int .i64 n78) ∧ (
                                                            Does Try.prog 24 [(.pointer p7), (.int .i64 n78)] H77 fun v79 H80 => v79 = (.tuple #[]) ∧ (
                                                            I60 a39 l40 c41 a42 l43 c44 H80))))) ∧ (¬ ((n64 : Int) = 8) → (
                                                            ((((n64 : Int) = 9) → (
                                                            I60 a39 l40 c41 a42 l43 c44 H63)) ∧ (¬ ((n64 : Int) = 9) → (
                                                            ∃ n81 : Int, hcell H63 b57 0 = some (.int .i64 n81) ∧ (
                                                            ∃ n82 : Int, hcell H63 b57 (0 + 1) = some (.int .i64 n82) ∧ (
                                                            ∃ a83 : Option Addr, ∃ l84 : Nat, ∃ c85 : Nat, hcell H63 b57 ((0 + 1) + 1) = some (.slice a83 l84 c85) ∧ (
                                                            ∃ a86 : Option Addr, ∃ l87 : Nat, ∃ c88 : Nat, hcell H63 b57 (((0 + 1) + 1) + 1) = some (.slice a86 l87 c88) ∧ (
                                                            Does Try.prog 12 [(.pointer p38)] H63 fun v89 H90 => ∃ n91 : Int, v89 = (.int .i64 n91) ∧ (
                                                            isL H90 b57 0 [(.int .i64 n81), (.int .i64 n82), (.slice a83 l84 c85), (.slice a86 l87 c88)] ∧ (Does Try.prog 18 [(.agg #[(.int .i64 n81), (.int .i64 n82), (.slice a83 l84 c85), (.slice a86 l87 c88)]), (.int .i64 n91), (.int .i64 5)] H90 fun v92 H93 => ∃ a94 : Option Addr, ∃ l95 : Nat, ∃ c96 : Nat, ∃ a97 : Option Addr, ∃ l98 : Nat, ∃ c99 : Nat, v92 = (.tuple #[(.slice a94 l95 c96), (.slice a97 l98 c99)]) ∧ (
                                                            (∀ b100 : Nat, ∀ H101 : Heap, New H93 b100 [] 9 H101 → (
                                                            ∃ old102 new103 : List Value, SRow H101 1 0 (.slice (some (⟨b100, 0, none⟩ : Addr)) 0 0) old102 ∧ SRow H101 1 l40 (.slice a39 l40 c41) new103 ∧ (∀ u ∈ new103, Value.oneCell' u = true) ∧ (0 + l40) * 16 ≤ 140737488355328 ∧ (0 + l40 ≤ 0 → roomOf H101 (some (⟨b100, 0, none⟩ : Addr)) (0 * 1) (l40 * 1)) ∧ ∀ a104 : Option Addr, ∀ c105 : Nat, ∀ H106 : Heap, App H101 1 9 [(.string (ByteArray.mk #[]))] (some (⟨b100, 0, none⟩ : Addr)) 0 0 old102 new103 l40 a104 c105 H106 → (
                                                            ∃ I107 : Int → Heap → Prop, ∃ μ108 : Int → Heap → Nat, (I107 0 H106) ∧
                                                            ∀ n109 : Int, ∀ H110 : Heap, I107 n109 H110 → (
                                                            ((((n109 : Int) < (l95 : Int)) → (
                                                            (0 : Int) ≤ n109 ∧ (n109 : Int) < (l95 : Int) ∧ ∃ b111 o112 : Nat, a94 = some (⟨b111, o112, none⟩ : Addr) ∧ (
                                                            ∃ n113 : Int, hcell H110 b111 (o112 + (Int.toNat n109) * 2) = some (.int .i64 n113) ∧ (
                                                            ((((n113 : Int) < ((0 + l40) : Int)) → (
                                                            (0 : Int) ≤ n109 ∧ (n109 : Int) < (l95 : Int) ∧ ∃ b114 o115 : Nat, a94 = some (⟨b114, o115, none⟩ : Addr) ∧ (
                                                            ∃ n116 : Int, hcell H110 b114 (o115 + (Int.toNat n109) * 2) = some (.int .i64 n116) ∧ (
                                                            (0 : Int) ≤ n109 ∧ (n109 : Int) < (l95 : Int) ∧ ∃ b117 o118 : Nat, a94 = some (⟨b117, o118, none⟩ : Addr) ∧ (
                                                            ∃ a119 : Option Addr, ∃ l120 : Nat, ∃ c121 : Nat, hcell H110 b117 ((o118 + (Int.toNat n109) * 2) + 1) = some (.slice a119 l120 c121) ∧ (
                                                            ∃ l122 : List UInt8, SRow H110 1 l120 (.slice a119 l120 c121) (List.map (fun (b : UInt8) => Value.int .u8 b.toNat) l122) ∧ (
                                                            (0 : Int) ≤ n116 ∧ (n116 : Int) < ((0 + l40) : Int) ∧ ∃ b123 o124 : Nat, a104 = some (⟨b123, o124, none⟩ : Addr) ∧ (
                                                            Cells H110 b123 (o124 + (Int.toNat n116)) 1 ∧ ∀ H125 : Heap, Puts H110 b123 (o124 + (Int.toNat n116)) [(.string (ByteArray.mk (List.toArray l122)))] H125 → (
                                                            ((In64 (n109 + 1)) ∧
                                                            (I107 (n109 + 1) H125) ∧ μ108 (n109 + 1) H125 < μ108 n109 H110)))))))))) ∧ (¬ ((n113 : Int) < ((0 + l40) : Int)) → (
                                                            (In64 (n109 + 1)) ∧
                                                            (I107 (n109 + 1) H110) ∧ μ108 (n109 + 1) H110 < μ108 n109 H110))))))) ∧ (¬ ((n109 : Int) < (l95 : Int)) → (
                                                            Does Try.prog 19 [(.pointer p38), (.slice a94 l95 c96)] H110 fun v126 H127 => ∃ n128 : Int, v126 = (.int .i64 n128) ∧ (
                                                            ∃ I129 : Option Addr → Nat → Nat → Heap → Prop, (
                                                            ((((n128 : Int) = 0) → (
                                                            ∀ b130 : Nat, ∀ H131 : Heap, New H127 b130 [(.slice a104 (0 + l40) c105)] 31 H131 → (
                                                            ∃ old132 new133 : List Value, SRow H131 1 l43 (.slice a42 l43 c44) old132 ∧ SRow H131 1 1 (.slice (some (⟨b130, 0, none⟩ : Addr)) 1 1) new133 ∧ (∀ u ∈ new133, Value.oneCell' u = true) ∧ (l43 + 1) * 24 ≤ 140737488355328 ∧ (l43 + 1 ≤ c44 → roomOf H131 a42 (l43 * 1) (1 * 1)) ∧ ∀ a134 : Option Addr, ∀ c135 : Nat, ∀ H136 : Heap, App H131 1 31 [(.slice none 0 0)] a42 l43 c44 old132 new133 1 a134 c135 H136 → (
                                                            I129 a134 (l43 + 1) c135 H136)))) ∧ (¬ ((n128 : Int) = 0) → (
                                                            ((((n128 : Int) = 4) → (
                                                            ∀ b137 : Nat, ∀ H138 : Heap, New H127 b137 [(.slice a104 (0 + l40) c105)] 31 H138 → (
                                                            ∃ old139 new140 : List Value, SRow H138 1 l43 (.slice a42 l43 c44) old139 ∧ SRow H138 1 1 (.slice (some (⟨b137, 0, none⟩ : Addr)) 1 1) new140 ∧ (∀ u ∈ new140, Value.oneCell' u = true) ∧ (l43 + 1) * 24 ≤ 140737488355328 ∧ (l43 + 1 ≤ c44 → roomOf H138 a42 (l43 * 1) (1 * 1)) ∧ ∀ a141 : Option Addr, ∀ c142 : Nat, ∀ H143 : Heap, App H138 1 31 [(.slice none 0 0)] a42 l43 c44 old139 new140 1 a141 c142 H143 → (
                                                            I129 a141 (l43 + 1) c142 H143)))) ∧ (¬ ((n128 : Int) = 4) → (
                                                            I129 a42 l43 c44 H127))))))) ∧
                                                            ∀ a144 : Option Addr, ∀ l145 : Nat, ∀ c146 : Nat, ∀ H147 : Heap, I129 a144 l145 c146 H147 → (
                                                            ((((n128 : Int) = 0) → (
                                                            I60 a104 (0 + l40) c105 a144 l145 c146 H147)) ∧ (¬ ((n128 : Int) = 0) → (
                                                            I60 a39 l40 c41 a144 l145 c146 H147)))))))))))))))))))))))))))))))))) ∧
                                                            ∀ a148 : Option Addr, ∀ l149 : Nat, ∀ c150 : Nat, ∀ a151 : Option Addr, ∀ l152 : Nat, ∀ c153 : Nat, ∀ H154 : Heap, I60 a148 l149 c150 a151 l152 c153 H154 → (
                                                            ∃ I155 : Heap → Prop, (
                                                            Does Try.prog 26 [(.pointer p7)] H154 fun v156 H157 => ∃ t158 : Bool, v156 = (.bool t158) ∧ (
                                                            (((t158 = false) → (
                                                            ∃ n159 : Int, hcell H157 b57 0 = some (.int .i64 n159) ∧ (
                                                            Does Try.prog 8 [(.int .i64 n159), (.int .i64 10)] H157 fun v160 H161 => ∃ n162 : Int, v160 = (.int .i64 n162) ∧ (
                                                            ((((n162 : Int) ≠ 9) → (
                                                            (In64 (n45 + 1)) ∧
                                                            (I36 p38 a148 l149 c150 a151 l152 c153 (n45 + 1) H161) ∧ μ37 p38 a148 l149 c150 a151 l152 c153 (n45 + 1) H161 < μ37 p38 a39 l40 c41 a42 l43 c44 n45 H46)) ∧ (¬ ((n162 : Int) ≠ 9) → (
                                                            I155 H161))))))) ∧ (¬ (t158 = false) → (
                                                            I155 H157))))) ∧
                                                            ∀ H163 : Heap, I155 H163 → (
                                                            ∃ a164 : Option Addr, ∃ l165 : Nat, ∃ c166 : Nat, hcell H163 b57 (0 + 3) = some (.slice a164 l165 c166) ∧ (
                                                            Does Try.prog 21 [(.pointer p7), (.slice a164 l165 c166)] H163 fun v167 H168 => v167 = (.tuple #[]) ∧ (
                                                            ∃ I169 : Heap → Prop, (
                                                            ∃ n170 : Int, hcell H168 b57 (0 + 1) = some (.int .i64 n170) ∧ (
                                                            ((3 : Int) ≠ 0) ∧
                                                            ∀ q171 : Int, q171 = Int.tmod n170 3 → (
                                                            ((((q171 : Int) = 0) → (
                                                            ∃ n172 : Int, hcell H168 b57 (0 + 1) = some (.int .i64 n172) ∧ (
                                                            ((3 : Int) ≠ 0) ∧
                                                            ∀ q173 : Int, q173 = IntKind.wrap .i64 (Int.tdiv n172 3) → (
                                                            Does Try.prog 8 [(.int .i64 q173), (.int .i64 25)] H168 fun v174 H175 => ∃ n176 : Int, v174 = (.int .i64 n176) ∧ (
                                                            Does Try.prog 24 [(.pointer p7), (.int .i64 n176)] H175 fun v177 H178 => v177 = (.tuple #[]) ∧ (
                                                            Does Try.prog 17 [(.pointer p7)] H178 fun v179 H180 => ∃ p181 : Option Addr, ∃ n182 : Int, v179 = (.tuple #[(.pointer p181), (.int .i64 n182)]) ∧ (
                                                            ∃ a183 : Option Addr, ∃ l184 : Nat, ∃ c185 : Nat, hcell H180 b57 (0 + 3) = some (.slice a183 l184 c185) ∧ (
                                                            Does Try.prog 21 [(.pointer p7), (.slice a183 l184 c185)] H180 fun v186 H187 => v186 = (.tuple #[]) ∧ (
                                                            I169 H187))))))))) ∧ (¬ ((q171 : Int) = 0) → (
                                                            I169 H168)))))) ∧
                                                            ∀ H188 : Heap, I169 H188 → (
                                                            Does Try.prog 17 [(.pointer p7)] H188 fun v189 H190 => ∃ p191 : Option Addr, ∃ n192 : Int, v189 = (.tuple #[(.pointer p191), (.int .i64 n192)]) ∧ (
                                                            ((((n192 : Int) ≠ 0) → (
                                                            R (.bool false) H190)) ∧ (¬ ((n192 : Int) ≠ 0) → (
                                                            ((((p191 : Option Addr) = none) → (
                                                            R (.bool false) H190)) ∧ (¬ ((p191 : Option Addr) = none) → (
                                                            (In64 ((l152 : Int) - 1)) ∧
                                                            ∃ I193 : Int → Heap → Prop, (
                                                            ∃ I194 : Int → Heap → Prop, ∃ μ195 : Int → Heap → Nat, (I194 ((l152 : Int) - 1) H190) ∧
                                                            ∀ n196 : Int, ∀ H197 : Heap, I194 n196 H197 → (
                                                            ((((0 : Int) ≤ n196) → (
                                                            (0 : Int) ≤ n196 ∧ (n196 : Int) < (l152 : Int) ∧ ∃ b198 o199 : Nat, a151 = some (⟨b198, o199, none⟩ : Addr) ∧ (
                                                            ∃ a200 : Option Addr, ∃ l201 : Nat, ∃ c202 : Nat, hcell H197 b198 (o199 + (Int.toNat n196)) = some (.slice a200 l201 c202) ∧ (
                                                            Does Try.prog 27 [(.pointer p191), (.slice a200 l201 c202)] H197 fun v203 H204 => ∃ t205 : Bool, v203 = (.bool t205) ∧ (
                                                            (((t205 = false) → (
                                                            (In64 (n196 - 1)) ∧
                                                            (I194 (n196 - 1) H204) ∧ μ195 (n196 - 1) H204 < μ195 n196 H197)) ∧ (¬ (t205 = false) → (
                                                            I193 n196 H204)))))))) ∧ (¬ ((0 : Int) ≤ n196) → (
                                                            I193 n196 H197))))) ∧
                                                            ∀ n206 : Int, ∀ H207 : Heap, I193 n206 H207 → (
                                                            ((((n206 : Int) < 0) → (
                                                            R (.bool false) H207)) ∧ (¬ ((n206 : Int) < 0) → (
                                                            Does Try.prog 17 [(.pointer p7)] H207 fun v208 H209 => ∃ p210 : Option Addr, ∃ n211 : Int, v208 = (.tuple #[(.pointer p210), (.int .i64 n211)]) ∧ (
                                                            ((((n211 : Int) ≠ 0) → (
                                                            R (.bool false) H209)) ∧ (¬ ((n211 : Int) ≠ 0) → (
                                                            ((((p210 : Option Addr) = none) → (
                                                            R (.bool false) H209)) ∧ (¬ ((p210 : Option Addr) = none) → (
                                                            (0 : Int) ≤ n206 ∧ (n206 : Int) < (l152 : Int) ∧ ∃ b212 o213 : Nat, a151 = some (⟨b212, o213, none⟩ : Addr) ∧ (
                                                            ∃ a214 : Option Addr, ∃ l215 : Nat, ∃ c216 : Nat, hcell H209 b212 (o213 + (Int.toNat n206)) = some (.slice a214 l215 c216) ∧ (
                                                            Does Try.prog 27 [(.pointer p210), (.slice a214 l215 c216)] H209 fun v217 H218 => ∃ t219 : Bool, v217 = (.bool t219) ∧ (
                                                            (((t219 = false) → (
                                                            R (.bool false) H218)) ∧ (¬ (t219 = false) → (
                                                            (0 : Int) ≤ n206 ∧ (n206 : Int) < (l152 : Int) ∧ ∃ b220 o221 : Nat, a151 = some (⟨b220, o221, none⟩ : Addr) ∧ (
                                                            ∃ a222 : Option Addr, ∃ l223 : Nat, ∃ c224 : Nat, hcell H218 b220 (o221 + (Int.toNat n206)) = some (.slice a222 l223 c224) ∧ (
                                                            ∀ b225 : Nat, ∀ H226 : Heap, New H218 b225 [(.slice a222 l223 c224)] 31 H226 → (
                                                            (In64 (n45 + 1)) ∧
                                                            (I36 p210 a222 l223 c224 (some (⟨b225, 0, none⟩ : Addr)) 1 1 (n45 + 1) H226) ∧ μ37 p210 a222 l223 c224 (some (⟨b225, 0, none⟩ : Addr)) 1 1 (n45 + 1) H226 < μ37 p38 a39 l40 c41 a42 l43 c44 n45 H46))))))))))))))))))))))))))))))))))))))))) ∧ (¬ ((n45 : Int) < 40) → (
                                                    R (.bool true) H46))))) ∧ (¬ ((n45 : Int) < (x1l : Int)) → (
                                              R (.bool true) H46))))))))))))))))))))))) := by kernel_rfl


end Go.Proofs
end

section
open Go Go.Vc
namespace Go.Proofs

/-- A row of strings that is only read. -/
def StrV (H0 H : Heap) (F : Nat → Prop) (a : Option Addr) (c : Nat) (ws : List Octs) : Prop := SRow H 1 ws.length (.slice a ws.length c) (ws.map strV) ∧ ∀ k ∈ blkOf a, H0.size ≤ k ∧ OffF F H k
theorem StrRow.view {H0 H : Heap} {F : Nat → Prop} {a : Option Addr} {c : Nat} {ws : List Octs} (h : StrRow H0 H F a c ws) : StrV H0 H F a c ws := by
  obtain ⟨⟨vs, h1, h2, h3⟩, h4⟩ := h
  refine ⟨?_, h4⟩
  have hv : vs.flatten = ws.map strV := by
    have : vs = ws.map fun x => [strV x] := by
      apply List.ext_getElem?
      intro i
      by_cases hi : i < ws.length
      · obtain ⟨v, q1, q2, _⟩ := h3 i _ (List.getElem?_eq_getElem hi)
        rw [q1, List.getElem?_map, List.getElem?_eq_getElem hi]
        exact congrArg some q2
      · rw [List.getElem?_eq_none (by omega), List.getElem?_eq_none (by simp; omega)]
    rw [this, flatten_single]
  rw [hv] at h1
  exact h1.row _ _
section
variable {H0 H H' : Heap} {F : Nat → Prop} {a : Option Addr} {c : Nat} {ws : List Octs}
theorem StrV.more (h : StrV H0 H F a c ws) (hx : Ext [] H H') : StrV H0 H' F a c ws := ⟨h.1.ext hx (by simp), fun k hk => ⟨(h.2 k hk).1, (h.2 k hk).2.on hx.size⟩⟩
theorem StrV.step (h : StrV H0 H F a c ws) (hx : ExtP F H H') : StrV H0 H' (grow F H H') a c ws := ⟨h.1.extP hx (fun k hk => (h.2 k hk).2.2), fun k hk => ⟨(h.2 k hk).1, (h.2 k hk).2.grow hx.size⟩⟩
theorem StrV.same (h : StrV H0 H F a c ws) (hx : ExtP F H H') : StrV H0 H' F a c ws := ⟨h.1.extP hx (fun k hk => (h.2 k hk).2.2), fun k hk => ⟨(h.2 k hk).1, (h.2 k hk).2.on hx.size⟩⟩
theorem StrV.off {M : List Nat} (h : StrV H0 H F a c ws) (hx : Ext M H H') (hm : ∀ k ∈ blkOf a, k ∉ M) : StrV H0 H' F a c ws := ⟨h.1.ext hx hm, fun k hk => ⟨(h.2 k hk).1, (h.2 k hk).2.on hx.size⟩⟩
end

def strsE : Elem (List Octs) where
  sz := 1
  pos := by decide
  ok H v x := ∃ a c, v = [.slice a x.length c] ∧ SRow H 1 x.length (.slice a x.length c) (x.map strV) ∧ ∀ k, k ∈ blkOf a → k < H.size
  fp v := match v with | [.slice a _ _] => blkOf a | _ => []
  len := by rintro H v x ⟨a, c, rfl, _⟩; rfl
  one := by rintro H v x ⟨a, c, rfl, _⟩ u hu; simp only [List.mem_cons, List.not_mem_nil, or_false] at hu; subst hu; rfl
  lt := by rintro H v x ⟨a, c, rfl, _, h⟩; exact h
  ext := by rintro M H H' v x ⟨a, c, rfl, h1, h2⟩ he hm; exact ⟨a, c, rfl, h1.extP he hm, fun k hk => Nat.lt_of_lt_of_le (h2 k hk) he.size⟩

/-- A row of rows of strings. -/
def WasRow (H0 H : Heap) (F : Nat → Prop) (a : Option Addr) (c : Nat) (xs : List (List Octs)) : Prop :=
  ∃ G, Seq strsE H G a xs.length c xs ∧ (∀ k, G k → H0.size ≤ k ∧ OffF F H k ∧ k ∉ blkOf a) ∧ ∀ k ∈ blkOf a, H0.size ≤ k ∧ OffF F H k
section
variable {H0 H H' : Heap} {F : Nat → Prop} {a : Option Addr} {c : Nat} {xs : List (List Octs)}
theorem WasRow.more (h : WasRow H0 H F a c xs) (hx : Ext [] H H') : WasRow H0 H' F a c xs := by
  obtain ⟨G, h1, h2, h3⟩ := h
  exact ⟨G, h1.extP hx.toP (by simp) (by simp), fun k hk => ⟨(h2 k hk).1, (h2 k hk).2.1.on hx.size, (h2 k hk).2.2⟩, fun k hk => ⟨(h3 k hk).1, (h3 k hk).2.on hx.size⟩⟩
theorem WasRow.step (h : WasRow H0 H F a c xs) (hx : ExtP F H H') : WasRow H0 H' (grow F H H') a c xs := by
  obtain ⟨G, h1, h2, h3⟩ := h
  exact ⟨G, h1.extP hx (fun k hk => (h3 k hk).2.2) (fun k hk => (h2 k hk).2.1.2), fun k hk => ⟨(h2 k hk).1, (h2 k hk).2.1.grow hx.size, (h2 k hk).2.2⟩, fun k hk => ⟨(h3 k hk).1, (h3 k hk).2.grow hx.size⟩⟩
theorem WasRow.same (h : WasRow H0 H F a c xs) (hx : ExtP F H H') : WasRow H0 H' F a c xs := by
  obtain ⟨G, h1, h2, h3⟩ := h
  exact ⟨G, h1.extP hx (fun k hk => (h3 k hk).2.2) (fun k hk => (h2 k hk).2.1.2), fun k hk => ⟨(h2 k hk).1, (h2 k hk).2.1.on hx.size, (h2 k hk).2.2⟩, fun k hk => ⟨(h3 k hk).1, (h3 k hk).2.on hx.size⟩⟩
theorem WasRow.off {M : List Nat} (h : WasRow H0 H F a c xs) (hx : Ext M H H') (hm : ∀ k ∈ M, H.size ≤ k) : WasRow H0 H' F a c xs := by
  obtain ⟨G, h1, h2, h3⟩ := h
  exact ⟨G, h1.extP hx.toP (fun k hk hk' => by have := hm k hk'; have := (h3 k hk).2.1; omega) (fun k hk hk' => by have := hm k hk'; have := (h2 k hk).2.1.1; omega), fun k hk => ⟨(h2 k hk).1, (h2 k hk).2.1.on hx.size, (h2 k hk).2.2⟩, fun k hk => ⟨(h3 k hk).1, (h3 k hk).2.on hx.size⟩⟩
theorem WasRow.get (h : WasRow H0 H F a c xs) {i : Nat} {x : List Octs} (hx : xs[i]? = some x) : ∃ b o a' c', a = some ⟨b, o, none⟩ ∧ hcell H b (o + i) = some (.slice a' x.length c') ∧ StrV H0 H F a' c' x := by
  obtain ⟨G, h1, h2, h3⟩ := h
  obtain ⟨b, o, u, e, hc, ⟨a', c', eu, hr, hl⟩, hfp⟩ := h1.get1 rfl hx
  cases eu
  exact ⟨b, o, a', c', e, hc, hr, fun k hk => ⟨(h2 k (hfp k hk)).1, (h2 k (hfp k hk)).2.1⟩⟩
/-- A new row of one. -/
theorem WasRow.one {ws : List Octs} (h : StrV H0 H F a c ws) {b : Nat} {e : TypeId} (hn : New H b [.slice a ws.length c] e H') (h0 : H0.size ≤ H.size) (hF : ∀ k, F k → k < H.size) : WasRow H0 H' F (some ⟨b, 0, none⟩) 1 [ws] := by
  have hb := hn.eq
  have hsz := hn.size
  have ho := Own.of_new (size := 1) (len := 1) (cap := 1) hn.blk rfl (Nat.le_refl _) (by unfold maxLen; omega)
  refine ⟨fun k => k ∈ blkOf a, ⟨[[.slice a ws.length c]], (show Own H' 1 (some ⟨b, 0, none⟩) 1 1 [.slice a ws.length c] by simpa using ho), rfl, fun i x hi => ?_⟩, fun k hk => ⟨(h.2 k hk).1, (h.2 k hk).2.on hn.ext.size, ?_⟩, fun k hk => ?_⟩
  · cases i with
    | zero => cases hi; exact ⟨_, rfl, ⟨a, c, rfl, h.1.ext hn.ext (by simp), fun k hk => by have := (h.2 k hk).2.1; omega⟩, fun k hk => hk⟩
    | succ i => simp at hi
  · simp only [blkOf, List.mem_singleton]; have := (h.2 k hk).2.1; omega
  · simp only [blkOf, List.mem_singleton] at hk
    subst hk
    exact ⟨by omega, by omega, fun hF' => by have := hF _ hF'; omega⟩
/-- One row appended. -/
theorem WasRow.push (h : WasRow H0 H F a c xs) (h0 : H0.size ≤ H.size) (hF : ∀ k, F k → k < H.size) {a1 : Option Addr} {c1 : Nat} {ws : List Octs} (hv : StrV H0 H F a1 c1 ws) (hd : ∀ k ∈ blkOf a1, k ∉ blkOf a) {e e' : TypeId} (hw : (xs.length + 1) * 24 ≤ 140737488355328)
    {R : Option Addr → Nat → Heap → Prop} (k : ∀ a' c' H', WasRow H0 H' F a' c' (xs ++ [ws]) → Ext (blkOf a) H H' → (∀ i ∈ blkOf a', i ∈ blkOf a ∨ H.size ≤ i) → R a' c' H') (b : Nat) (H2 : Heap) (hn : New H b [.slice a1 ws.length c1] e H2) :
    ∃ old news : List Value, SRow H2 1 xs.length (.slice a xs.length c) old ∧ SRow H2 1 1 (.slice (some ⟨b, 0, none⟩) 1 1) news ∧ (∀ u ∈ news, Value.oneCell' u = true) ∧ (xs.length + 1) * 24 ≤ 140737488355328 ∧
      (xs.length + 1 ≤ c → roomOf H2 a (xs.length * 1) (1 * 1)) ∧ ∀ a' c' H', App H2 1 e' [.slice none 0 0] a xs.length c old news 1 a' c' H' → R a' c' H' := by
  obtain ⟨G, h1, h2, h3⟩ := h
  refine (h1.mono (G' := fun k => G k ∨ k ∈ blkOf a1) (fun k _ hk => .inl hk)).push (E := strsE) (fun k hk => ?_) (x := ws) (v := [.slice a1 ws.length c1]) ⟨a1, c1, rfl, hv.1, fun k hk => (hv.2 k hk).2.1⟩ (fun k hk => .inr hk) rfl hw (fun a' c' H' g1 g2 g3 => k a' c' H' ⟨_, by rw [List.length_append]; exact g1, fun i hi => ?_, fun i hi => ?_⟩ g2 g3) b H2 hn
  · rcases hk with hk | hk
    · exact (h2 k hk).2.2
    · exact hd k hk
  · have hi' : H0.size ≤ i ∧ OffF F H i ∧ i ∉ blkOf a := by
      rcases hi with hi | hi
      · exact h2 i hi
      · exact ⟨(hv.2 i hi).1, (hv.2 i hi).2, hd i hi⟩
    refine ⟨hi'.1, hi'.2.1.on g2.size, fun hm => ?_⟩
    rcases g3 i hm with h' | h'
    · exact hi'.2.2 h'
    · have := hi'.2.1.1; omega
  · have hs := g2.size
    have hlt := g1.lt i hi
    rcases g3 i hi with h' | h'
    · exact ⟨(h3 i h').1, (h3 i h').2.on hs⟩
    · exact ⟨by omega, hlt, fun hk => by have := hF i hk; omega⟩
end

def setC (ws : List Octs) (l : List Wr) : List Octs := l.foldl (fun (ws : List Octs) (w : Wr) => if w.1 < (ws.length : Int) then ws.set w.1.toNat w.2 else ws) ws
theorem setC_snoc (ws : List Octs) (l : List Wr) (w : Wr) : setC ws (l ++ [w]) = if w.1 < (setC ws l).length then (setC ws l).set w.1.toNat w.2 else setC ws l := by unfold setC; rw [List.foldl_append]; rfl
theorem setC_len : ∀ (l : List Wr) (ws : List Octs), (setC ws l).length = ws.length
  | [], _ => rfl
  | w :: l, ws => by
    show (setC (if w.1 < ws.length then ws.set w.1.toNat w.2 else ws) l).length = _
    rw [setC_len l]
    split <;> simp
theorem over_cons (cur : Nat → Octs) (w : Wr) (l : List Wr) : overT cur (w :: l) = overT (overT cur [w]) l := by rw [show w :: l = [w] ++ l from rfl, over_app]
theorem over_single (cur : Nat → Octs) (w : Wr) (j : Nat) : overT cur [w] j = if (j : Int) = w.1 then w.2 else cur j := by
  unfold overT
  show ((tGet (tSet [] w.1 w.2) j).getD (cur j)) = _
  rw [tGet_set]
  split <;> rfl
theorem setC_get (n : Nat) : ∀ (l : List Wr) (ws : List Octs) (cur : Nat → Octs), (∀ w ∈ l, 0 ≤ w.1) → ws.length = n → (∀ k, k < n → ws[k]? = some (cur k)) → ∀ k, k < n → (setC ws l)[k]? = some (overT cur l k)
  | [], ws, cur, _, _, h, k, hk => h k hk
  | w :: l, ws, cur, hw, hl, h, k, hk => by
    show (setC (if w.1 < ws.length then ws.set w.1.toNat w.2 else ws) l)[k]? = _
    have hw0 := hw w (by simp)
    rw [over_cons]
    refine setC_get n l _ _ (fun x hx => hw x (by simp [hx])) (by split <;> simp [hl]) (fun j hj => ?_) k hk
    rw [over_single]
    split
    · rename_i hlt
      by_cases e : (j : Int) = w.1
      · rw [if_pos e, show w.1.toNat = j by omega, List.getElem?_set_self (by omega)]
      · rw [if_neg e, List.getElem?_set_ne (by omega)]; exact h j hj
    · rename_i hge
      rw [if_neg (by omega)]; exact h j hj

/-- Home is one of these. -/
def OneOf (N : Nat) (xs : List (List Octs)) (hm : Nat → Octs) : Prop := ∃ x ∈ xs, ∀ k, k < N → x[k]? = some (hm k)
theorem OneOf.more {N : Nat} {xs ys : List (List Octs)} {hm : Nat → Octs} (h : OneOf N xs hm) : OneOf N (xs ++ ys) hm := by
  obtain ⟨x, h1, h2⟩ := h
  exact ⟨x, by simp [h1], h2⟩
theorem OneOf.last {N : Nat} {xs : List (List Octs)} {x : List Octs} {hm : Nat → Octs} (h : ∀ k, k < N → x[k]? = some (hm k)) : OneOf N (xs ++ [x]) hm := ⟨x, by simp, h⟩

/-- A new copy of a row of strings. -/
theorem copy_str {H0 H H2 H' : Heap} {F : Nat → Prop} {a : Option Addr} {c b : Nat} {ws : List Octs} {e e' : TypeId} {a' : Option Addr} {c' : Nat} (h : StrV H0 H F a c ws) (hn : New H b [] e H2) (h0 : H0.size ≤ H.size) (hF : ∀ k, F k → k < H.size)
    (happ : App H2 1 e' [.string (ByteArray.mk #[])] (some ⟨b, 0, none⟩) 0 0 [] (ws.map strV) ws.length a' c' H') : StrRow H0 H' F a' c' ws ∧ Ext [] H H' ∧ ∀ k ∈ blkOf a', H.size ≤ k := by
  have hb := hn.eq
  have hsz := hn.size
  have ho : Own H2 1 (some ⟨b, 0, none⟩) 0 0 [] := by simpa using Own.of_new (size := 1) (len := 0) (cap := 0) hn.blk rfl (Nat.le_refl _) (by unfold maxLen; omega)
  obtain ⟨g1, g2, g3⟩ := happ.own ho (ho.row 0 0) (by simp) rfl
  rw [Nat.zero_add, List.nil_append] at g1
  have hfr : ∀ k ∈ blkOf a', H.size ≤ k := fun k hk => by
    rcases g3 k hk with h' | h'
    · simp only [blkOf, List.mem_singleton] at h'; omega
    · omega
  refine ⟨⟨⟨ws.map fun x => [strV x], by rw [flatten_single]; exact g1, by simp, fun i x hi => ⟨[strV x], by rw [List.getElem?_map, hi]; rfl, rfl, by simp [strE]⟩⟩, fun k hk => ⟨by have := hfr k hk; omega, g1.lt k hk, fun hF' => by have := hF k hF'; have := hfr k hk; omega⟩⟩, ext_new hn.ext g2 (fun k hk => by simp only [blkOf, List.mem_singleton] at hk; omega), hfr⟩

/-- A local copy apart. -/
def Loc (H : Heap) (F : Nat → Prop) (b : Nat) (cs : List Value) : Prop := Blk H b cs ∧ OffF F H b
theorem Loc.more {H H' : Heap} {F : Nat → Prop} {b : Nat} {cs : List Value} (h : Loc H F b cs) (hx : Ext [] H H') : Loc H' F b cs := ⟨h.1.ext hx (by simp), h.2.on hx.size⟩
theorem Loc.off {H H' : Heap} {F : Nat → Prop} {b : Nat} {cs : List Value} {M : List Nat} (h : Loc H F b cs) (hx : Ext M H H') (hm : ∀ k ∈ M, H.size ≤ k ∨ k ≠ b) : Loc H' F b cs := ⟨h.1.ext hx (fun hk => by rcases hm b hk with h' | h'; have := h.2.1; omega; exact h' rfl), h.2.on hx.size⟩
theorem Loc.step {H H' : Heap} {F : Nat → Prop} {b : Nat} {cs : List Value} (h : Loc H F b cs) (hx : ExtP F H H') : Loc H' (grow F H H') b cs := ⟨h.1.extP hx h.2.2, h.2.grow hx.size⟩
theorem Loc.same {H H' : Heap} {F : Nat → Prop} {b : Nat} {cs : List Value} (h : Loc H F b cs) (hx : ExtP F H H') : Loc H' F b cs := ⟨h.1.extP hx h.2.2, h.2.on hx.size⟩
end Go.Proofs
end

section
open Go Go.Vc
namespace Go.Proofs

theorem JL.apart {H0 H H' : Heap} {F M : Nat → Prop} {pj pd n z B : Nat} {J : Jn} {D : Dev} {cur : Nat → Octs} {S : (Nat → Octs) → Prop} (h : JL H0 H F pj pd n z B J D cur S) (hx : ExtP M H H') (hm : ∀ k, M k → H0.size ≤ k ∧ ¬ F k) : JL H0 H' F pj pd n z B J D cur S :=
  ⟨⟨h.jin.jd.ext hx (fun k hk hk' => (hm k hk').2 hk), h.jin.wf, h.jin.jwf, h.jin.low, h.jin.ext.transP hx (fun k hk => (hm k hk).1)⟩, h.live⟩

theorem JD.fuse {H : Heap} {F : Nat → Prop} {pj pd : Nat} {J : Jn} {D : Dev} (h : JD H F pj pd J D) (k : Int) :
    Does Try.prog 24 [.pointer (some ⟨pd, 0, none⟩), .int .i64 k] H fun v H' => v = .tuple #[] ∧ JD H' F pj pd J { D with fuse := max k (-1) } ∧ ExtP F H H' := by
  obtain ⟨Fd, Fj, r, l, hd, hJ, hdis, hfd, hfj, hlt⟩ := h
  refine (dfuse_ok hd k).mono ?_
  rintro _ H' ⟨rfl, hd', hx⟩
  have hs := hx.size
  exact ⟨rfl, ⟨Fd, Fj, r, l, hd', hJ.extP hx (fun k hk hk' => hdis k hk' hk) (fun _ h => h) (fun k hk => by have := hJ.lt k hk; omega), hdis, hfd, hfj, fun k hk => by have := hlt k hk; omega⟩, hx.mono (fun k _ hk => hfd k hk)⟩

theorem JD.crash {H : Heap} {F : Nat → Prop} {pj pd : Nat} {J : Jn} {D : Dev} {n B : Nat} (h : JD H F pj pd J D) (hw : D.Wf n B) (hB : B ≤ 600000000) {a : Option Addr} {len cap : Nat} {ms : Octs} (hs : KeptB F H a len cap ms) :
    Does Try.prog 21 [.pointer (some ⟨pd, 0, none⟩), .slice a len cap] H fun v H' => v = .tuple #[] ∧ JD H' (grow F H H') pj pd J (crashD D ms) ∧ ExtP F H H' := by
  obtain ⟨Fd, Fj, r, l, hd, hJ, hdis, hfd, hfj, hlt⟩ := h
  refine (dcrash_ok hd hw (by omega) (fun H' hx => hs H' (hx.mono (fun k _ hk => hfd k hk)))).mono ?_
  rintro _ H' ⟨rfl, hd', hx⟩
  have hss := hx.size
  exact ⟨rfl, ⟨_, Fj, r, l, hd', hJ.extP hx (fun k hk hk' => hdis k hk' hk) (fun _ h => h) (fun k hk => by have := hJ.lt k hk; omega), fun k hk hk' => by
    rcases hk with hk | hk
    · exact hdis k hk hk'
    · have := hJ.lt k hk'; omega, grow_in hfd (Nat.le_refl _) (Nat.le_refl _), fun k hk => .inl (hfj k hk), grow_lt hlt hss⟩, hx.mono (fun k _ hk => hfd k hk)⟩

theorem LiveA.fuse {n z B : Nat} {J : Jn} {D : Dev} {cur : Nat → Octs} {S : (Nat → Octs) → Prop} (h : LiveA n z B J D cur S) (k : Int) : LiveA n z B J { D with fuse := k } cur S := by
  obtain ⟨e, s, T, f, base, h, hc, hS⟩ := h
  exact ⟨e, s, T, f, base, ⟨h.pers, h.dead, h.jdead, h.jh, h.used, h.taken, h.now⟩, hc, hS⟩

theorem JL.fuse {H0 H : Heap} {F : Nat → Prop} {pj pd n z B : Nat} {J : Jn} {D : Dev} {cur : Nat → Octs} {S : (Nat → Octs) → Prop} (h : JL H0 H F pj pd n z B J D cur S) {k : Int} (hk : k ≤ 1000000) :
    Does Try.prog 24 [.pointer (some ⟨pd, 0, none⟩), .int .i64 k] H fun v H' => v = .tuple #[] ∧ JL H0 H' F pj pd n z B J { D with fuse := max k (-1) } cur S ∧ ExtP F H H' := by
  refine (h.jin.jd.fuse k).mono ?_
  rintro _ H' ⟨rfl, hjd, hx⟩
  have hw := h.jin.wf
  exact ⟨rfl, ⟨h.jin.same hjd hx ⟨hw.len, hw.few, hw.size, hw.pin, hw.pfew, by simp only; omega, hw.works⟩ h.jin.jwf, h.live.fuse _⟩, hx⟩

theorem checkpoint_dead {n : Nat} {J : Jn} {D : Dev} (h : (checkpointM n J D).2.2 = 4) : (checkpointM n J D).2.1.dead = true := by
  unfold checkpointM at h ⊢
  split at h
  · rename_i h1; rw [if_pos h1]; exact h1
  · rename_i h1
    rw [if_neg h1]
    simp only at h ⊢
    rw [h]
    show (_ || decide ((4 : Int) = 4)) = true
    simp
theorem commit_dead {n : Nat} {l : List Wr} {J : Jn} {D : Dev} (h : (commitM n l J D).2.2 = 4) : (commitM n l J D).2.1.dead = true := by
  have hl : ∀ {J : Jn} {D : Dev}, (layE n l J D).2.2 = 4 → (layE n l J D).2.1.dead = true := fun {J D} h => by
    unfold layE at h ⊢
    simp only at h ⊢
    rw [h]
    show (_ || decide ((4 : Int) = 4)) = true
    simp
  unfold commitM at h ⊢
  by_cases h1 : mayB l (homeN n J.h.size) = false
  · rw [if_pos h1] at h; simp at h
  rw [if_neg h1] at h ⊢
  by_cases h2 : J.dead = true
  · rw [if_pos h2] at h ⊢; exact h2
  rw [if_neg h2] at h ⊢
  by_cases h3 : J.h.size < needsN l.length
  · rw [if_pos h3] at h; simp at h
  rw [if_neg h3] at h ⊢
  by_cases h4 : J.h.size - J.used < needsN l.length
  · rw [if_pos h4] at h ⊢
    by_cases h5 : (checkpointM n J D).2.2 ≠ 0
    · rw [if_pos h5] at h ⊢; exact checkpoint_dead h
    · rw [if_neg h5] at h ⊢; exact hl h
  · rw [if_neg h4] at h ⊢; exact hl h

theorem commit_fuse0 {n z B : Nat} {J : Jn} {D : Dev} {cur : Nat → Octs} {S : (Nat → Octs) → Prop} (h : LiveA n z B J D cur S) {l : List Wr} (hm : MayP l (n - 1 - z : Int)) (hfit : needsN l.length ≤ J.h.size - J.used) (hf : D.fuse = 0) : (commitM n l J D).2.2 = 4 := by
  have hly := h.lays
  obtain ⟨e, s, T, f, base, h, hc, hS⟩ := h
  have hj0 : 0 ≤ J.used := by rw [h.used]; omega
  have hz : J.h.size = z := hly.2.2.1
  have hcp := cnt_pos hm.1
  have hfl := hm.full
  have hnn := needs_nat l
  unfold commitM
  rw [hly.2.2.2.2.2.2.2, if_neg (by simp [mayB, hm]), if_neg (by simp [h.jdead]), if_neg (by omega), if_neg (by omega)]
  unfold layE layM
  obtain ⟨c, hcc⟩ : ∃ c, cntN l = c + 1 := ⟨cntN l - 1, by omega⟩
  have hb : ∃ r, laidB J.h l = jblk J.h l 0 :: r := by
    unfold laidB; rw [hcc, List.range_succ_eq_map]; exact ⟨_, rfl⟩
  obtain ⟨r, hr⟩ := hb
  have hw : (writeD D n (1 + J.used) (jblk J.h l 0)).2 = 4 := by
    unfold writeD
    rw [if_neg (by rw [jblk_len hfl (by omega)]; simp; omega)]
    have : wk D = ({ D with dead := true }, false) := by unfold wk; rw [if_pos (.inl hf)]
    rw [this]; rfl
  have : (layW n (laidB J.h l) J.used D).2.2 = 4 := by
    rw [hr, layW, if_pos (by rw [hw]; decide)]; exact hw
  simp only [this, ne_eq, show ¬ ((4 : Int) = 0) by decide, not_false_eq_true, if_true]

theorem wr_nil (F : Nat → Prop) (H : Heap) : KeptW F H none [] := fun _ _ => ⟨[], ⟨rfl, rfl⟩, rfl, by simp⟩

theorem open_zeros : openM 20 (newD 20) = (newD 20, none, 2) := by
  have h : readM 20 (newD 20) = (Hd.zero, 2) := by
    unfold readM
    rw [if_neg (by decide)]
    simp only
    rw [if_pos (.inr (.inr (by decide +kernel)))]
  unfold openM
  rw [h]; rfl

def sixW (j : Nat) : List Wr := (List.range j).map fun q : Nat => ((q : Int), blockB (q : Int))
theorem sixW_succ (j : Nat) : sixW (j + 1) = sixW j ++ [((j : Int), blockB j)] := by unfold sixW; rw [List.range_succ, List.map_append]; rfl
theorem sixW_len (j : Nat) : (sixW j).length = j := by simp [sixW]

set_option maxHeartbeats 4000000 in
theorem jknown_law (H : Heap) : Does Try.prog 6 [] H fun v H' => v = .bool true ∧ Ext [] H H' := by
  refine Fn_of_vc Try.mixed (vcl_jknown _ _) ?_
  refine (open0_ok H (n := 20) (z := 6) (by decide) (by decide) (S := fun _ => True) trivial).mono ?_
  rintro _ H2 ⟨pj, pd, F, J, D, rfl, h2, hf, hu⟩
  refine ⟨_, _, rfl, (dnew_ok 20 H2).mono ?_⟩
  rintro _ H6 ⟨hx6, ⟨h1, _⟩ | ⟨_, p7, rfl, hd6⟩⟩
  · omega
  have h6 := h2.more hx6
  have hD : (20 : Int).toNat = 20 := rfl
  rw [hD] at hd6
  refine ⟨_, _, rfl, (known_ok H6).mono ?_⟩
  rintro _ H10 ⟨rfl, hx10⟩
  have h10 := h6.more hx10
  have hd10 := hd6.ext hx10.toP (by simp)
  have hG : ∀ i, grow none_ H2 H6 i → H2.size ≤ i ∧ i < H6.size := fun i hi => grow_low i hi
  generalize grow none_ H2 H6 = G at *
  refine ⟨_, rfl, fun h => (by cases h), fun _ => ⟨fun h => (by cases h), fun _ => ⟨fun h => (by cases h), fun _ => ⟨fun h => (by cases h), fun _ => (open_nil H10).mono ?_⟩⟩⟩⟩
  rintro _ _ ⟨rfl, rfl⟩
  have hlt2 : ∀ k, F k → k < H2.size := h2.lt
  have hGF : ∀ k, G k → H.size ≤ k ∧ ¬ F k := fun k hk => ⟨by have := hG k hk; have := h2.jin.ext.size; omega, fun hF => by have := hG k hk; have := hlt2 k hF; omega⟩
  refine ⟨_, _, rfl, (open_ok hd10 (newWf (by decide)) (by decide) (by decide) (by decide)).mono ?_⟩
  rintro _ H17 ⟨hr17, hx17⟩
  have h17 := h10.apart hx17 hGF
  have hs6 := hx6.size
  have hs10 := hx10.size
  have hs17 := hx17.size
  have grown : ∀ {A B : Heap} {G : Nat → Prop}, (∀ k, G k → H.size ≤ k ∧ ¬ F k) → H2.size ≤ A.size → ∀ k, grow G A B k → H.size ≤ k ∧ ¬ F k := fun hg hs k hk => by
    rcases hk with hk | hk
    · exact hg k hk
    · exact ⟨by have := h2.jin.ext.size; omega, fun hF => by have := hlt2 k hF; omega⟩
  have hG17 := grown (A := H10) (B := H17) hGF (by omega)
  obtain ⟨e17, q1, q2, rfl, hd17⟩ : ∃ e, openM 20 (newD 20) = (newD 20, none, e) ∧ e = 2 ∧ _ = Value.tuple #[.pointer none, .int .i64 e] ∧ IsDev H17 (grow G H10 H17) p7 (newD 20) := by
    rcases hr17 with ⟨e, q1, q2, q3, q4⟩ | ⟨pj', J', q1, q2, q3⟩
    · have : e = 2 := by rw [open_zeros] at q1; simp only [Prod.mk.injEq] at q1; exact q1.2.2.symm
      subst this
      rw [open_zeros] at q4
      exact ⟨2, open_zeros, rfl, q3, q4⟩
    · rw [open_zeros] at q1
      simp only [Prod.mk.injEq] at q1
      exact absurd q1.2.1 (by simp)
  subst q2
  refine ⟨_, _, rfl, (format_nil 6 H17).mono ?_⟩
  rintro _ _ ⟨rfl, rfl⟩
  refine ⟨_, rfl, (format_ok hd17 (newWf (by decide)) (by decide) (by decide) 3).mono ?_⟩
  rintro _ H24 ⟨rfl, hd24, hx24⟩
  have h24 := h17.apart hx24 hG17
  have hs24 := hx24.size
  have hG24 := grown (A := H17) (B := H24) hG17 (by omega)
  have f3 : formatM 20 3 (newD 20) = (newD 20, 1) := by unfold formatM; rw [if_pos (by decide)]
  have f17 : formatM 20 17 (newD 20) = (newD 20, 1) := by unfold formatM; rw [if_pos (by decide)]
  rw [f3] at hd24 ⊢
  refine ⟨_, rfl, (format_ok hd24 (newWf (by decide)) (by decide) (by decide) 17).mono ?_⟩
  rintro _ H27 ⟨rfl, hd27, hx27⟩
  have h27 := h24.apart hx27 hG24
  rw [f17]
  have hmt : (fun _ : Nat → Octs => True) fun _ => zeros := trivial
  have bad : ∀ {l : List Wr}, ¬ MayP l (((20 : Nat) : Int) - 1 - ((6 : Nat) : Int)) → ∀ {A : Heap} {Fa : Nat → Prop} {Ba : Nat}, JL H A Fa pj pd 20 6 Ba J D (fun _ => zeros) (fun _ => True) → Ba ≤ 600000000 → l.length ≤ 1000000 → ∀ {a : Option Addr} {c : Nat}, KeptW Fa A a l →
      Does Try.prog 19 [.pointer (some ⟨pj, 0, none⟩), .slice a l.length c] A fun v A' => v = .int .i64 1 ∧ JL H A' (grow Fa A A') pj pd 20 6 (Ba + 14100) J D (fun _ => zeros) (fun _ => True) := by
    intro l hno A Fa Ba hj hB hl a c hk
    refine (hj.commit hB (S' := fun _ => True) (fun _ _ => trivial) trivial hk hl (c := c)).mono ?_
    rintro _ A' ⟨hxa, e, J', D', rfl, _, ⟨_, rfl, hj'⟩ | ⟨g1, _⟩ | ⟨g1, _⟩ | ⟨g1, _⟩⟩
    · exact ⟨rfl, hj'⟩
    · exact absurd g1 hno
    · exact absurd g1 hno
    · exact absurd g1 hno
  refine ⟨_, rfl, (bad (l := []) (fun h => h.1 rfl) h27 (by decide) (by simp) (wr_nil _ _)).mono ?_⟩
  rintro _ H30 ⟨rfl, h30⟩
  refine ⟨_, rfl, (block_ok 1 H30).mono ?_⟩
  rintro _ H33 ⟨rfl, ho33, hx33⟩
  refine ⟨_, _, _, rfl, fun b37 H38 hn38 => ?_⟩
  have h33 := h30.more hx33
  refine (bad (l := [(13, blockB 1)]) (fun h => absurd (h.2.1 (13, blockB 1) (by simp)).2.1 (by decide)) (h33.more hn38.ext) (by decide) (by simp) (c := 1) (kept_one hn38 h33.lt ho33 (fun h => by have := h30.lt _ h; omega))).mono ?_
  rintro _ H40 ⟨rfl, h40⟩
  refine ⟨_, rfl, (block_ok 1 H40).mono ?_⟩
  rintro _ H43 ⟨rfl, ho43, hx43⟩
  refine ⟨_, _, _, rfl, (block_ok 2 H43).mono ?_⟩
  rintro _ H48 ⟨rfl, ho48, hx48⟩
  refine ⟨_, _, _, rfl, fun b52 H53 hn53 => ?_⟩
  have h43 := h40.more hx43
  have h48 := h43.more hx48
  have hs43 := hx43.size
  have hk53 : KeptW _ H53 (some ⟨b52, 0, none⟩) [((1 : Int), blockB 1), (1, blockB 2)] := kept_new (vs := [[.int .i64 1, .slice (some ⟨H40.size, 0, none⟩) 128 128], [.int .i64 1, .slice (some ⟨H43.size, 0, none⟩) 128 128]]) hn53 h48.lt rfl fun i y hi => by
    match i with
    | 0 => cases hi; exact ⟨_, rfl, blk_ok (ho43.ext hx48 (by simp)), fun j hj => by simp only [writeE, blkOf, List.mem_singleton] at hj; subst hj; intro hF; have := h40.lt _ hF; omega⟩
    | 1 => cases hi; exact ⟨_, rfl, blk_ok ho48, fun j hj => by simp only [writeE, blkOf, List.mem_singleton] at hj; subst hj; intro hF; have := h40.lt _ hF; omega⟩
    | i + 2 => simp at hi
  refine (bad (l := [((1 : Int), blockB 1), (1, blockB 2)]) (fun h => by have := h.2.2; simp at this) (h48.more hn53.ext) (by decide) (by simp) (c := 2) hk53).mono ?_
  rintro _ H55 ⟨rfl, h55⟩
  refine ⟨_, rfl, fun b57 H58 hn58 => ?_⟩
  have hk58 : KeptW _ H58 (some ⟨b57, 0, none⟩) [((1 : Int), ([] : Octs))] := kept_new (vs := [[.int .i64 1, .slice none 0 0]]) hn58 h55.lt rfl fun i y hi => by
    match i with
    | 0 => cases hi; exact ⟨_, rfl, ⟨none, 0, 0, rfl, ⟨rfl, rfl⟩, by simp [blkOf]⟩, fun j hj => by simp [writeE, blkOf] at hj⟩
    | i + 1 => simp at hi
  refine (bad (l := [((1 : Int), ([] : Octs))]) (fun h => absurd (h.2.1 (1, ([] : Octs)) (by simp)).2.2 (by decide)) (h55.more hn58.ext) (by decide) (by simp) (c := 1) hk58).mono ?_
  rintro _ H60 ⟨rfl, h60⟩
  generalize hFF : grow _ H58 H60 = FF at h60
  refine ⟨_, rfl, fun a l c i H' => ∃ j : Nat, i = j ∧ j ≤ 6 ∧ j = l ∧ MySeq writeE H60.size H' a j c (sixW j) ∧ Ext [] H60 H', fun _ _ _ i _ => 6 - i.toNat, ⟨0, rfl, by omega, rfl, MySeq.nil _ _ _, Ext.refl _ _⟩, ?_⟩
  rintro a64 _ c66 _ H68 ⟨j, rfl, hj, rfl, hmy, hx68⟩
  have h68 := h60.more hx68
  refine ⟨fun h1 => (block_ok j H68).mono ?_, fun h1 => ?_⟩
  · rintro _ H70 ⟨rfl, ho70, hx70⟩
    have hs68 := hx68.size
    have hs70 := hx70.size
    have hlt70 : H68.size < H70.size := ho70.lt _ (by simp [blkOf])
    have hmy70 := hmy.ext hx70
    refine ⟨_, _, _, rfl, fun b74 H75 hn75 => ?_⟩
    obtain ⟨G', gs, gg, gl⟩ := hmy
    have hltm := gs.lt
    refine hmy70.push (x := ((j : Int), blockB j)) (blk_ok ho70) (fun k hk => ?_) (by omega) rfl (by omega) (fun a78 c79 H80 p1 _ p2 => ?_) b74 H75 hn75
    · simp only [writeE, blkOf, List.mem_singleton] at hk
      subst hk
      exact ⟨by omega, fun hm => by have := hltm _ hm; omega⟩
    · exact ⟨⟨by omega, by omega⟩, ⟨j + 1, by omega, by omega, rfl, by rw [sixW_succ]; exact p1, ext_new (hx68.trans hx70) p2 (fun k hk => gl k hk)⟩, by simp only []; omega⟩
  have : j = 6 := by omega
  subst this
  have hFlt : ∀ k, FF k → k < H60.size := h60.lt
  have hk6 : KeptW FF H68 a64 (sixW 6) := fun H' hx => hmy.kept hFlt H' hx
  have hk1 : KeptW FF H68 a64 [((0 : Int), blockB 0)] := hmy.kept1 hFlt (r := (sixW 6).drop 1) rfl
  have hm6 : MayP (sixW 6) (((20 : Nat) : Int) - 1 - ((6 : Nat) : Int)) := ⟨by decide, fun w hw => by
    unfold sixW at hw
    obtain ⟨q, hq, rfl⟩ := List.mem_map.1 hw
    rw [List.mem_range] at hq
    exact ⟨by simp only; omega, by simp only; omega, blockB_len _⟩, by decide⟩
  have hn6 : needsN (6 : Nat) = 7 := by decide
  refine (h68.commit (by decide) (S' := fun _ => True) (fun _ _ => trivial) trivial hk6 (by decide) (c := c66)).mono ?_
  rintro _ H82 ⟨hx82, e82, J82, D82, rfl, _, ⟨g1, _⟩ | ⟨_, _, rfl, h82⟩ | ⟨_, g2, _⟩ | ⟨_, _, _, _, g1⟩⟩
  · exact absurd hm6 g1
  · have hk82 := hk1.go hx82
    generalize grow FF H68 H82 = F82 at *
    refine ⟨_, rfl, (jread_ok h82.jin.jd h82.jin.wf h82.jin.jwf (by decide) (-1)).mono ?_⟩
    rintro _ H85 ⟨a86, c88, hjd85, hx85, rfl, _, _⟩
    have hr1 : jreadM 20 (-1) J D = (J, none, 1) := by unfold jreadM; rw [if_pos (.inl (by decide))]
    rw [hr1] at hjd85 ⊢
    have h85 : JL H H85 F82 pj pd 20 6 _ J D (fun _ => zeros) (fun _ => True) := ⟨h82.jin.same hjd85 hx85 h82.jin.wf h82.jin.jwf, h82.live⟩
    have hc66 : 6 ≤ c66 := by obtain ⟨G', gs, _⟩ := hmy; exact gs.cap.1
    have hcap : (1 : Int) ≤ (c66 : Int) := by omega
    refine ⟨_, _, _, _, rfl, by decide, hcap, ?_⟩
    have hk85 := hk82.on hx85
    have hm1 : MayP [((0 : Int), blockB 0)] (((20 : Nat) : Int) - 1 - ((6 : Nat) : Int)) := may_one (by decide) (by decide)
    have hz6 : J.h.size = 6 := h85.live.lays.2.2.1
    have huse := commit_used h85.live hm1 (by rw [hu, hz6]; decide)
    refine (h85.commit (by decide) (S' := fun _ => True) (fun _ _ => trivial) trivial hk85 (by simp) (c := c66)).mono ?_
    rintro _ H91 ⟨hx91, e91, J91, D91, rfl, hM91, ⟨g1, _⟩ | ⟨_, g1, _⟩ | ⟨_, _, rfl, h91, hf91⟩ | ⟨_, _, _, _, g1⟩⟩
    · exact absurd hm1 g1
    · exact absurd g1 (by decide)
    · have hk91 := hk85.go hx91
      generalize grow F82 H85 H91 = F91 at *
      have hu91 : J91.used = 2 := by rw [hM91] at huse; rw [huse rfl, hu]; decide
      have hz91 : J91.h.size = 6 := h91.live.lays.2.2.1
      refine ⟨_, rfl, (jfree_ok h91.jin.jd h91.jin.jwf (by decide)).mono ?_⟩
      rintro _ _ ⟨rfl, rfl⟩
      refine ⟨_, rfl, (h91.fuse (k := 0) (by decide)).mono ?_⟩
      rintro _ H97 ⟨rfl, h97, hx97⟩
      refine ⟨rfl, by decide, hcap, ?_⟩
      have hk97 := hk91.on hx97
      have h4 := commit_fuse0 h97.live hm1 (by rw [hu91, hz91]; decide) rfl
      refine (h97.commit (by decide) (S' := fun _ => True) (fun _ _ => trivial) trivial hk97 (by simp) (c := c66)).mono ?_
      rintro _ H99 ⟨hx99, e99, J99, D99, rfl, hM99, hcase⟩
      have hd99 := commit_dead h4
      rw [hM99] at h4 hd99
      simp only at h4 hd99
      subst h4
      rcases hcase with ⟨_, g1, _⟩ | ⟨_, _, g1, _⟩ | ⟨_, _, g1, _⟩ | ⟨_, _, h99, _, _⟩
      · exact absurd g1 (by decide)
      · exact absurd g1 (by decide)
      · exact absurd g1 (by decide)
      refine ⟨_, rfl, (h99.jd.crash h99.wf (by decide) (nil_kept _ _)).mono ?_⟩
      rintro _ H102 ⟨rfl, hjd102, hx102⟩
      have h102 := h99.step hjd102 hx102 (crashWf h99.wf _) h99.jwf
      refine ⟨rfl, (jread_ok h102.jd h102.wf h102.jwf (by decide) 1).mono ?_⟩
      rintro _ H104 ⟨a105, c107, hjd104, hx104, rfl, _, _⟩
      have hsz99 := h99.jwf.size
      have hr4 : jreadM 20 1 J99 (crashD D99 []) = (J99, none, 4) := by
        unfold jreadM
        have hz99 : J99.h.size = 6 := by
          have := commit_h (n := 20) (l := [((0 : Int), blockB 0)]) (J := J91) (D := { D91 with fuse := max 0 (-1) })
          rw [hM99] at this
          rw [this]; exact hz91
        rw [hz99, if_neg (by decide), if_pos hd99]
      rw [hr4] at hjd104 ⊢
      have h104 := h102.same hjd104 hx104 h102.wf h102.jwf
      have t : ∀ {p : Prop}, p → ¬ p → Value.bool false = .bool true ∧ Ext [] H H104 := fun hp hn => absurd hp hn
      refine ⟨_, _, _, _, rfl, fun _ => ⟨fun _ => ⟨fun _ => ⟨fun _ => ⟨fun _ => ⟨fun _ => ⟨fun _ => ⟨fun _ => ⟨fun _ => ⟨fun _ => ⟨fun _ => ⟨fun _ => ⟨fun _ => ⟨fun _ => ⟨fun _ => ?_, t rfl⟩, t rfl⟩, t (by rw [hz91, hu91]; decide)⟩, t rfl⟩, t rfl⟩, t rfl⟩, t rfl⟩, t rfl⟩, t rfl⟩, t rfl⟩, t rfl⟩, t rfl⟩, t rfl⟩, t rfl⟩, t rfl⟩
      refine (jdead_ok h104.jd).mono ?_
      rintro _ _ ⟨rfl, rfl⟩
      refine ⟨_, rfl, fun _ => (sync_ok h104.jd h104.wf (by decide)).mono ?_, fun h => by rw [hd99] at h; cases h⟩
      rintro _ H113 ⟨rfl, hjd113, hx113⟩
      have hsy : (syncM J99 (crashD D99 [])).2.2 = 4 := by unfold syncM; rw [if_pos hd99]
      rw [hsy]
      have hx113' : Ext [] H H113 := h104.ext.transP hx113 h104.low
      refine ⟨_, rfl, fun _ => (needs_ok 0 H113 (by decide)).mono ?_, fun h => absurd rfl h⟩
      rintro _ _ ⟨rfl, rfl⟩
      refine ⟨_, rfl, fun _ => (needs_ok (-5) H113 (by decide)).mono ?_, fun h => absurd (by decide) h⟩
      rintro _ _ ⟨rfl, rfl⟩
      exact ⟨_, rfl, congrArg _ (dec_bool ⟨fun _ => rfl, fun _ => by decide⟩), hx113'⟩
    · exact absurd hf g1
  · rw [sixW_len, hn6] at g2; exact absurd g2 (by decide)
  · exact absurd hf g1
end Go.Proofs
end

section
open Go Go.Vc
namespace Go.Proofs

/-- Whatever falls out: home is one of these. -/
def Falls (n z B N : Nat) (D : Dev) (xs : List (List Octs)) : Prop := ∀ ms, ∃ hm, OneOf N xs hm ∧ Sure n z B (crashL ms D.pend 0 D.kept) hm

set_option maxHeartbeats 8000000 in
theorem jprefix_law (H : Heap) (x0 : Int) (_ : (Lit.int .i64 x0).wf = true) (a : Option Addr) (len cap : Nat) (hs : KSlice 4 StepR H [.slice a len cap]) : Does Try.prog 7 [.int .i64 x0, .slice a len cap] H fun v H' => v = .bool true ∧ Ext [] H H' := by
  refine Fn_of_vc Try.mixed (vcl_prefix _ _ _ _ _ _) ?_
  refine (pick_ok x0 10 H (by decide) (by decide)).mono ?_
  rintro _ _ ⟨rfl, rfl⟩
  have a0 := Int.emod_nonneg x0 (show (10 : Int) ≠ 0 by decide)
  have a1 := Int.emod_lt_of_pos x0 (show (0 : Int) < 10 by decide)
  obtain ⟨z, hz, hz4⟩ : ∃ z : Nat, 4 + x0 % 10 = z ∧ 4 ≤ z ∧ z < 14 := ⟨(4 + x0 % 10).toNat, by omega, by omega, by omega⟩
  refine ⟨_, rfl, ?_⟩
  rw [hz]
  refine ⟨⟨by omega, by omega⟩, ⟨by omega, by omega⟩, ?_⟩
  rw [show (z : Int) + 12 = ((z + 12 : Nat) : Int) by omega]
  refine (open0_ok H (n := z + 12) (z := z) (by omega) (by omega) (S := OneOf 11 [List.replicate 11 zeros]) ⟨List.replicate 11 zeros, List.mem_singleton.2 rfl, fun k hk => by rw [List.getElem?_replicate, if_pos hk]⟩).mono ?_
  rintro _ H5 ⟨pj0, pd, F0, J0, D0, rfl, h5, hf0, hu0⟩
  refine ⟨_, _, rfl, (known_ok H5).mono ?_⟩
  rintro _ H9 ⟨rfl, hx9⟩
  have h9 := h5.more hx9
  have hN : z + 12 - 1 - z = 11 := by omega
  refine ⟨_, rfl, fun h => (by cases h), fun _ => ⟨fun h => (by cases h), fun _ => ⟨fun h => (by cases h), fun _ => ?_⟩⟩⟩
  refine ⟨fun a l c i H' => ∃ j : Nat, i = j ∧ j ≤ 11 ∧ j = l ∧ JL H H' F0 pj0 pd (z + 12) z 10000 J0 D0 (fun _ => zeros) (OneOf 11 [List.replicate 11 zeros]) ∧ StrRow H H' F0 a c (List.replicate j zeros), fun _ _ _ i _ => 11 - i.toNat, ⟨0, rfl, by omega, rfl, h9, StrRow.nil _ _ _⟩, ?_⟩
  rintro a13 _ c15 _ H17 ⟨j, rfl, hj, rfl, h17, hrow17⟩
  refine (h17.home).mono ?_
  rintro _ _ ⟨rfl, rfl⟩
  rw [hN]
  refine ⟨_, rfl, fun h1 => (block_ok 0 H17).mono ?_, fun h1 => ?_⟩
  · rintro _ H22 ⟨rfl, ho22, hx22⟩
    rw [blockB_zero] at ho22
    refine ⟨_, _, _, rfl, zeros, ho22.row _ _, fun b27 H28 hn28 => ?_⟩
    have hrow22 := hrow17.more hx22
    have h22 := h17.more hx22
    have := hrow22.push h22.jin.ext.size h22.lt (x := zeros) (e := 9) (e' := 9) (by simp; omega) (R := fun a31 c32 H33 => In64 ((j : Int) + 1) ∧ (∃ j' : Nat, (j : Int) + 1 = j' ∧ j' ≤ 11 ∧ j' = j + 1 ∧ JL H H33 F0 pj0 pd (z + 12) z 10000 J0 D0 (fun _ => zeros) (OneOf 11 [List.replicate 11 zeros]) ∧ StrRow H H33 F0 a31 c32 (List.replicate j' zeros)) ∧ 11 - ((j : Int) + 1).toNat < 11 - (j : Int).toNat) (fun a' c' H' g1 g2 => ⟨⟨by omega, by omega⟩, ⟨j + 1, by omega, by omega, rfl, h22.off g2 (fun k hk => ⟨(hrow22.2 k hk).1, (hrow22.2 k hk).2.2⟩), by rw [List.replicate_succ']; exact g1⟩, by omega⟩) b27 H28 hn28
    rw [List.length_replicate] at this
    exact this
  have hj11 : j = 11 := by omega
  subst hj11
  intro b34 H35 hn35
  have hnow17 : StrV H H17 F0 a13 c15 (List.replicate 11 zeros) := hrow17.view
  have hw35 : WasRow H H35 F0 (some ⟨b34, 0, none⟩) 1 [List.replicate 11 zeros] := WasRow.one hnow17 (by simpa using hn35) h17.jin.ext.size h17.lt
  let Rows : Heap → (Nat → Prop) → Option Addr → Nat → Nat → List Octs → Option Addr → Nat → Nat → List (List Octs) → Prop := fun H' F a39 l40 c41 ws a42 l43 c44 xs =>
    l40 = ws.length ∧ StrV H H' F a39 c41 ws ∧ ws.length = 11 ∧ l43 = xs.length ∧ WasRow H H' F a42 c44 xs ∧ (∀ x ∈ xs, x.length = 11) ∧ xs.length ≤ 1000000 ∧ ∀ k ∈ blkOf a39, k ∉ blkOf a42
  let St : Option Addr → Option Addr → Nat → Nat → Option Addr → Nat → Nat → Nat → Heap → Prop := fun p a39 l40 c41 a42 l43 c44 i H' =>
    ∃ pj F J D cur ws xs, p = some ⟨pj, 0, none⟩ ∧ JL H H' F pj pd (z + 12) z (20000 + 200000 * i) J D cur (OneOf 11 xs) ∧ Rows H' F a39 l40 c41 ws a42 l43 c44 xs ∧ (∀ k, k < 11 → ws[k]? = some (cur k)) ∧ xs.length ≤ 1 + i
  refine ⟨fun p a39 l40 c41 a42 l43 c44 i H' => ∃ j : Nat, i = j ∧ j ≤ 40 ∧ St p a39 l40 c41 a42 l43 c44 j H', fun _ _ _ _ _ _ _ i _ => 40 - i.toNat, ⟨0, rfl, by omega, pj0, F0, J0, D0, _, List.replicate 11 zeros, [List.replicate 11 zeros], rfl, (h17.more hn35.ext).up (by omega) (by omega) (fun _ h => h), ⟨by simp, hnow17.more hn35.ext, by simp, rfl, hw35, by simp, by simp, fun k hk hk' => by simp only [blkOf, List.mem_singleton] at hk'; have := (hnow17.2 k hk).2.1; have := hn35.eq; omega⟩, fun k hk => by rw [List.getElem?_replicate, if_pos hk], by simp⟩, ?_⟩
  rintro p38 a39 l40 c41 a42 l43 c44 _ H46 ⟨j, rfl, hj40, hst⟩
  have done : ∀ {p a39 l40 c41 a42 l43 c44 i H'}, St p a39 l40 c41 a42 l43 c44 i H' → Value.bool true = .bool true ∧ Ext [] H H' := fun ⟨_, _, _, _, _, _, _, _, h, _⟩ => ⟨rfl, h.jin.ext⟩
  refine ⟨fun h1 => ⟨fun h2 => ?_, fun h2 => done hst⟩, fun h1 => done hst⟩
  obtain ⟨pj, F, J, D, cur, ws, xs, rfl, hjl, ⟨rfl, hnow, hwl, rfl, hwas, hxl, hxf, hnw⟩, hws, hxj⟩ := hst
  obtain ⟨b, o, what, N, pa, la, ca, ats, pm, lm, cm, ms, ea, c0, c1, c2, c3, hat, hla, hms, hlm⟩ := step_at hs (j := j) (by omega)
  have hx46 := hjl.jin.ext
  refine ⟨by omega, h1, b, o, ea, what, by rw [Int.toNat_natCast]; exact hcell_ext c0 hx46 (by simp), N, by rw [Int.toNat_natCast]; exact hcell_ext c1 hx46 (by simp), pa, la, ca, by rw [Int.toNat_natCast]; exact hcell_ext c2 hx46 (by simp), pm, lm, cm, by rw [Int.toNat_natCast]; exact hcell_ext c3 hx46 (by simp), fun b57 H58 hn58 => ⟨hn58.blk.cells _ _ (by simp), fun H59 hp59 => ?_⟩⟩
  have e57 := hn58.eq
  have hs58 := hn58.size
  have hx59 : Ext [] H46 H59 := ext_new hn58.ext hp59.ext (by simp; omega)
  have hlt46 := hjl.lt
  have hcs59 : Loc H59 F b57 [.int .i64 what, .int .i64 N, .slice pa la ca, .slice pm lm cm] := ⟨by simpa [splice] using hp59.blk hn58.blk (by simp), by rw [hp59.size]; omega, fun hF => by have := hlt46 _ hF; omega⟩
  have h59 := hjl.more hx59
  have hnow59 := hnow.more hx59
  have hwas59 := hwas.more hx59
  have hX59 := h59.jin.ext
  have hb57 : b57 ∉ blkOf a42 := fun hk => by
    obtain ⟨G, _, _, g3⟩ := hwas
    have := (g3 _ hk).2.1; omega
  clear hn58 hp59 hnow hwas
  let St1 : Option Addr → Nat → Nat → Option Addr → Nat → Nat → Heap → Prop := fun a39 l40 c41 a42 l43 c44 H' =>
    ∃ F J D cur ws xs, Rows H' F a39 l40 c41 ws a42 l43 c44 xs ∧ Loc H' F b57 [.int .i64 what, .int .i64 N, .slice pa la ca, .slice pm lm cm] ∧ xs.length ≤ 2 + j ∧
      ((JL H H' F pj pd (z + 12) z (20000 + 200000 * j + 15000) J D cur (OneOf 11 xs) ∧ ∀ k, k < 11 → ws[k]? = some (cur k)) ∨ (JnIn H H' F pj pd J D (z + 12) (20000 + 200000 * j + 15000) ∧ D.dead = true ∧ Falls (z + 12) z (20000 + 200000 * j + 15000) 11 D xs))
  have fall : ∀ {D' : Dev} {B' : Nat} {ys : List (List Octs)}, Fell (z + 12) z B' D' (OneOf 11 ys) → B' ≤ 20000 + 200000 * j + 15000 → D'.dead = true ∧ Falls (z + 12) z (20000 + 200000 * j + 15000) 11 D' ys := fun h hB => ⟨h.1, fun ms => by
    obtain ⟨hm, g1, g2⟩ := h.2 ms
    exact ⟨hm, g1, g2.up hB (by omega)⟩⟩
  have hcurS : OneOf 11 [ws] cur := ⟨ws, by simp, hws⟩
  refine ⟨fun a39 l40 c41 a42 l43 c44 H' => St1 a39 l40 c41 a42 l43 c44 H', ⟨what, hcs59.1.cell 0, (pick_ok what 10 H59 (by decide) (by decide)).mono ?_⟩, ?_⟩
  · rintro _ _ ⟨rfl, rfl⟩
    refine ⟨_, rfl, fun g6 => ?_, fun g6 => ⟨fun g7 => ?_, fun g7 => ⟨fun g8 => ?_, fun g8 => ⟨fun g9 => ?_, fun g9 => ?_⟩⟩⟩⟩
    · -- Sync
      refine (h59.sync (by omega) (S' := OneOf 11 [ws]) hcurS).mono ?_
      rintro _ H66 ⟨hx66, J', D', ⟨rfl, hjl', _⟩ | ⟨rfl, hin, hfe, _⟩⟩
      · refine ⟨_, rfl, fun _ b68 H69 hn69 => ?_, fun h => absurd rfl h⟩
        have hnow66 := hnow59.step hx66
        exact ⟨_, J', D', cur, ws, [ws], ⟨rfl, hnow66.more hn69.ext, hwl, rfl, WasRow.one hnow66 hn69 hjl'.jin.ext.size hjl'.lt, by simp [hwl], by simp, fun k hk hk' => by simp only [blkOf, List.mem_singleton] at hk'; have := (hnow66.2 k hk).2.1; have := hn69.eq; omega⟩, (hcs59.step hx66).more hn69.ext, by simp; omega, .inl ⟨(hjl'.more hn69.ext).up (by omega) (by omega) (fun _ h => h), hws⟩⟩
      · refine ⟨_, rfl, fun h => absurd h (by decide), fun _ => ⟨_, J', D', cur, ws, xs, ⟨rfl, hnow59.step hx66, hwl, rfl, hwas59.step hx66, hxl, hxf, hnw⟩, hcs59.step hx66, by omega, .inr ⟨hin.up (by omega), fall hfe (by omega)⟩⟩⟩
    · -- Checkpoint
      refine (h59.checkpoint (by omega) (S' := OneOf 11 [ws]) hcurS).mono ?_
      rintro _ H66 ⟨hx66, J', D', ⟨rfl, hjl', _, _⟩ | ⟨rfl, hin, hfe, _⟩⟩
      · refine ⟨_, rfl, fun _ b68 H69 hn69 => ?_, fun h => absurd rfl h⟩
        have hnow66 := hnow59.step hx66
        exact ⟨_, J', D', cur, ws, [ws], ⟨rfl, hnow66.more hn69.ext, hwl, rfl, WasRow.one hnow66 hn69 hjl'.jin.ext.size hjl'.lt, by simp [hwl], by simp, fun k hk hk' => by simp only [blkOf, List.mem_singleton] at hk'; have := (hnow66.2 k hk).2.1; have := hn69.eq; omega⟩, (hcs59.step hx66).more hn69.ext, by simp; omega, .inl ⟨(hjl'.more hn69.ext).up (by omega) (by omega) (fun _ h => h), hws⟩⟩
      · refine ⟨_, rfl, fun h => absurd h (by decide), fun _ => ⟨_, J', D', cur, ws, xs, ⟨rfl, hnow59.step hx66, hwl, rfl, hwas59.step hx66, hxl, hxf, hnw⟩, hcs59.step hx66, by omega, .inr ⟨hin.up (by omega), fall hfe (by omega)⟩⟩⟩
    · -- Fuse
      refine ⟨N, hcs59.1.cell 1, (pick_ok N 20 H59 (by decide) (by decide)).mono ?_⟩
      rintro _ _ ⟨rfl, rfl⟩
      have q0 := Int.emod_nonneg N (show (20 : Int) ≠ 0 by decide)
      have q1 := Int.emod_lt_of_pos N (show (0 : Int) < 20 by decide)
      refine ⟨_, rfl, (h59.fuse (k := N % 20) (by omega)).mono ?_⟩
      rintro _ H80 ⟨rfl, hjl', hx80⟩
      exact ⟨rfl, F, J, _, cur, ws, xs, ⟨rfl, hnow59.same hx80, hwl, rfl, hwas59.same hx80, hxl, hxf, hnw⟩, hcs59.same hx80, by omega, .inl ⟨hjl'.up (by omega) (by omega) (fun _ h => h), hws⟩⟩
    · exact ⟨F, J, D, cur, ws, xs, ⟨rfl, hnow59, hwl, rfl, hwas59, hxl, hxf, hnw⟩, hcs59, by omega, .inl ⟨h59.up (by omega) (by omega) (fun _ h => h), hws⟩⟩
    · -- Commit
      refine ⟨what, hcs59.1.cell 0, N, hcs59.1.cell 1, pa, la, ca, hcs59.1.cell 2, pm, lm, cm, hcs59.1.cell 3, (h59.home).mono ?_⟩
      rintro _ _ ⟨rfl, rfl⟩
      rw [hN]
      have hmx : maxLen ≤ 9223372036854775807 := by unfold maxLen; omega
      refine ⟨_, rfl, ⟨hcs59.1.cell 0, hcs59.1.cell 1, hcs59.1.cell 2, hcs59.1.cell 3, trivial⟩, (list_ok what N (hat.ext hX59 (by simp)) (by omega) 11 (by decide) 5 (by decide)).mono ?_⟩
      rintro _ H93 ⟨a94, c96, a97, c99, rfl, htw, hx93⟩
      have hll : (listM N ats 11 5).length ≤ 5 := by
        have := listW_len N 11 (ats.take 5) 0 []
        have h4 : (ats.take 5).length ≤ 5 := by rw [List.length_take]; omega
        simp only [List.length_nil] at this
        unfold listM; omega
      have hnn : ∀ w ∈ listM N ats 11 5, 0 ≤ w.1 := listW_nn N (by decide) _ _ _ (by simp)
      generalize listM N ats 11 5 = l at *
      have h93 := h59.more hx93
      have hnow93 := hnow59.more hx93
      have hwas93 := hwas59.more hx93
      have hcs93 := hcs59.more hx93
      have hlt59 := h59.lt
      have hk93 : KeptW F H93 a94 l := htw.kept hlt59
      refine ⟨_, _, _, _, _, _, rfl, fun b100 H101 hn101 => ?_⟩
      have hs93 := hx93.size
      have hx101 := hn101.ext
      refine ⟨[], ws.map strV, ⟨rfl, .inr rfl, fun j u hj => by simp at hj⟩, (hnow93.1.ext hx101 (by simp)), fun u hu => ?_, by omega, fun hle => by omega, fun a104 c105 H106 happ => ?_⟩
      · obtain ⟨x, _, rfl⟩ := List.mem_map.1 hu
        rfl
      rw [Nat.zero_add]
      obtain ⟨hnext, hx106, hfr⟩ := copy_str hnow93 hn101 h93.jin.ext.size h93.lt happ
      have h106 := h93.more hx106
      have hnow106 := hnow93.more hx106
      have hwas106 := hwas93.more hx106
      have hcs106 := hcs93.more hx106
      have hk106 : KeptW (fun k => F k ∨ k ∈ blkOf a104) H106 a94 l := fun H' hx => by
        have hmy := (htw.my.1).ext hx106
        exact (htw.my.1.extP (M := fun k => F k ∨ H93.size ≤ k) (hx106.anyP.trans' hx (fun i hi => by
          rcases hi with hi | hi
          · exact .inr (.inl hi)
          · exact .inl (hfr i hi))) (fun k hk1 hk2 hk => by
            rcases hk with hk | hk
            · have := hlt59 k hk; omega
            · omega)).view
      refine ⟨fun i H' => ∃ q : Nat, i = q ∧ q ≤ l.length ∧ JL H H' F pj pd (z + 12) z (20000 + 200000 * j) J D cur (OneOf 11 xs) ∧ StrRow H H' F a104 c105 (setC ws (l.take q)) ∧ StrV H H' F a39 c41 ws ∧ WasRow H H' F a42 c44 xs ∧ Loc H' F b57 [.int .i64 what, .int .i64 N, .slice pa la ca, .slice pm lm cm] ∧ Ext (blkOf a104) H106 H', fun i _ => l.length - i.toNat, ⟨0, rfl, by omega, h106, hnext, hnow106, hwas106, hcs106, Ext.refl _ _⟩, ?_⟩
      rintro _ H110 ⟨q, rfl, hq, h110, hnext110, hnow110, hwas110, hcs110, hx110⟩
      have hl11 : (setC ws (l.take q)).length = 11 := by rw [setC_len, hwl]
      refine ⟨fun h8 => ?_, fun h8 => ?_⟩
      · have hi : l[q]? = some (l[q]'(by omega)) := List.getElem?_eq_getElem (by omega)
        obtain ⟨bb, oo, aa, cc, eaa, q0, q1, q2, _⟩ := (hk106 H110 (hx110.lift (fun k _ hk => .inr hk))).wr hi
        have hmq := hnn _ (List.getElem_mem (by omega : q < l.length))
        have htk : l.take (q + 1) = l.take q ++ [l[q]'(by omega)] := by rw [List.take_add_one, hi]; rfl
        generalize l[q]'(by omega) = w at *
        refine ⟨by omega, h8, bb, oo, eaa, w.1, by rw [Int.toNat_natCast]; exact q0, fun hlt => ?_, fun hge => ⟨⟨by omega, by omega⟩, ⟨q + 1, by omega, by omega, h110, by rw [htk, setC_snoc, if_neg (by omega)]; exact hnext110, hnow110, hwas110, hcs110, hx110⟩, by simp only []; omega⟩⟩
        obtain ⟨b101, e101, hcl, hput⟩ := hnext110.put (i := w.1.toNat) (by omega) w.2
        refine ⟨by omega, h8, bb, oo, eaa, w.1, by rw [Int.toNat_natCast]; exact q0, by omega, h8, bb, oo, eaa, aa, _, cc, by rw [Int.toNat_natCast]; exact q1, w.2, q2, hmq, by omega, b101, 0, e101, hcl, fun H103 hp => ?_⟩
        obtain ⟨g1, g2⟩ := hput H103 hp
        have hold : ∀ k ∈ blkOf a104, H93.size ≤ k := hfr
        have hs106 := hx106.size
        have hs110 := hx110.size
        refine ⟨⟨by omega, by omega⟩, ⟨q + 1, by omega, by omega, h110.off g2 (fun k hk => ⟨(hnext110.2 k hk).1, (hnext110.2 k hk).2.2⟩), by rw [htk, setC_snoc, if_pos (by omega)]; exact g1, ?_, ?_, ?_, hx110.trans g2⟩, by simp only []; omega⟩
        · exact (hnow93.off (M := blkOf a104) ((hx106.any.trans hx110).trans g2) (fun k hk hk' => by have := hold k hk'; have := (hnow93.2 k hk).2.1; omega))
        · exact hwas93.off (M := blkOf a104) ((hx106.any.trans hx110).trans g2) hold
        · exact hcs93.off (M := blkOf a104) ((hx106.any.trans hx110).trans g2) (fun k hk => .inl (hold k hk))
      · have hql : q = l.length := by omega
        subst hql
        rw [List.take_length] at hnext110 hl11
        have hget := setC_get 11 l ws cur hnn hwl hws
        have hk110 : KeptW F H110 a94 l := fun H' hx => hk106 H' ((hx110.lift (fun k _ hk => .inr hk)).trans (hx.mono (fun k _ hk => .inl hk)))
        refine (h110.commit (by omega) (S' := OneOf 11 (xs ++ [setC ws l])) (fun _ h => h.more) (OneOf.last hget) hk110 (by omega) (c := c96)).mono ?_
        rintro _ H127 ⟨hx127, e, J', D', rfl, _, hcase⟩
        have hnow127 := hnow110.step hx127
        have hwas127 := hwas110.step hx127
        have hnext127 := hnext110.view.step hx127
        have hcs127 := hcs110.step hx127
        have hdis : ∀ k ∈ blkOf a104, k ∉ blkOf a42 := fun k hk hk' => by
          obtain ⟨G, _, _, g3⟩ := hwas93
          have := hfr k hk
          have := (g3 k hk').2.1
          omega
        rcases hcase with ⟨_, rfl, hjl'⟩ | ⟨_, _, rfl, hjl'⟩ | ⟨_, _, rfl, hjl', _⟩ | ⟨_, rfl, hin, hfe, _⟩
        · refine ⟨_, rfl, fun a l c H' => H127 = H' ∧ a = a42 ∧ l = xs.length ∧ c = c44, ⟨fun h => absurd h (by decide), fun _ => ⟨fun h => absurd h (by decide), fun _ => ⟨rfl, rfl, rfl, rfl⟩⟩⟩, ?_⟩
          rintro _ _ _ _ ⟨rfl, rfl, rfl, rfl⟩
          exact ⟨fun h => absurd h (by decide), fun _ => ⟨_, J, D, cur, ws, xs, ⟨rfl, hnow127, hwl, rfl, hwas127, hxl, hxf, hnw⟩, hcs127, by omega, .inl ⟨hjl'.up (by omega) (by omega) (fun _ h => h), hws⟩⟩⟩
        · refine ⟨_, rfl, fun a l c H' => H127 = H' ∧ a = a42 ∧ l = xs.length ∧ c = c44, ⟨fun h => absurd h (by decide), fun _ => ⟨fun h => absurd h (by decide), fun _ => ⟨rfl, rfl, rfl, rfl⟩⟩⟩, ?_⟩
          rintro _ _ _ _ ⟨rfl, rfl, rfl, rfl⟩
          exact ⟨fun h => absurd h (by decide), fun _ => ⟨_, J, D, cur, ws, xs, ⟨rfl, hnow127, hwl, rfl, hwas127, hxl, hxf, hnw⟩, hcs127, by omega, .inl ⟨hjl'.up (by omega) (by omega) (fun _ h => h), hws⟩⟩⟩
        · have hlt127 := hjl'.lt
          generalize grow F H110 H127 = F' at *
          refine ⟨_, rfl, fun a l' c H' => l' = xs.length + 1 ∧ St1 a104 11 c105 a l' c H', ⟨fun _ b130 H131 hn131 => ?_, fun h => absurd rfl h⟩, ?_⟩
          · rw [show ws.length = (setC ws l).length by rw [hl11, hwl]] at hn131
            have := hwas127.push (e' := 31) hjl'.jin.ext.size hlt127 hnext127 hdis (by omega) (R := fun a134 c135 H136 => xs.length + 1 = xs.length + 1 ∧ St1 a104 11 c105 a134 (xs.length + 1) c135 H136) (fun a' c' H' g1 g2 g3 => ⟨rfl, F', J', D', _, setC ws l, xs ++ [setC ws l], ⟨hl11.symm, ?_, hl11, by simp, g1, ?_, by simp; omega, fun k hk hk' => (g3 k hk').elim (hdis k hk) (fun h => by have := (hnext127.2 k hk).2.1; omega)⟩, ?_, by simp; omega, .inl ⟨(hjl'.off g2 ?_).up (by omega) (by omega) (fun _ h => h), hget⟩⟩) b130 H131 hn131
            · exact this
            · exact hnext127.off g2 hdis
            · intro x hx
              rcases List.mem_append.1 hx with hx | hx
              · exact hxl x hx
              · simp only [List.mem_singleton] at hx; subst hx; exact hl11
            · refine hcs127.off g2 (fun k hk => .inr (fun e => hb57 (e ▸ hk)))
            · intro k hk
              obtain ⟨G, _, _, g3⟩ := hwas127
              exact ⟨(g3 k hk).1, (g3 k hk).2.2⟩
          · rintro a144 l145 c146 H147 ⟨rfl, hst1⟩
            rw [hwl]
            exact ⟨fun _ => hst1, fun h => absurd rfl h⟩
        · have hlt127 := hin.jd.lt
          generalize grow F H110 H127 = F' at *
          refine ⟨_, rfl, fun a l' c H' => l' = xs.length + 1 ∧ St1 a39 ws.length c41 a l' c H', ⟨fun h => absurd h (by decide), fun _ => ⟨fun _ b130 H131 hn131 => ?_, fun h => absurd rfl h⟩⟩, ?_⟩
          · rw [show ws.length = (setC ws l).length by rw [hl11, hwl]] at hn131
            have := hwas127.push (e' := 31) hin.ext.size hlt127 hnext127 hdis (by omega) (R := fun a134 c135 H136 => xs.length + 1 = xs.length + 1 ∧ St1 a39 ws.length c41 a134 (xs.length + 1) c135 H136) (fun a' c' H' g1 g2 g3 => ⟨rfl, F', J', D', cur, ws, xs ++ [setC ws l], ⟨rfl, ?_, hwl, by simp, g1, ?_, by simp; omega, fun k hk hk' => (g3 k hk').elim (hnw k hk) (fun h => by have := (hnow127.2 k hk).2.1; omega)⟩, ?_, by simp; omega, .inr ⟨(hin.off g2 ?_).up (by omega), fall hfe (by omega)⟩⟩) b130 H131 hn131
            · exact this
            · exact hnow127.off g2 hnw
            · intro x hx
              rcases List.mem_append.1 hx with hx | hx
              · exact hxl x hx
              · simp only [List.mem_singleton] at hx; subst hx; exact hl11
            · refine hcs127.off g2 (fun k hk => .inr (fun e => hb57 (e ▸ hk)))
            · intro k hk
              obtain ⟨G, _, _, g3⟩ := hwas127
              exact ⟨(g3 k hk).1, (g3 k hk).2.2⟩
          · rintro a144 l145 c146 H147 ⟨rfl, hst1⟩
            exact ⟨fun h => absurd h (by decide), fun _ => hst1⟩
  · rintro a148 l149 c150 a151 l152 c153 H154 ⟨F1, J1, D1, cur1, ws1, xs1, ⟨rfl, hnow1, hwl1, rfl, hwas1, hxl1, hxf1, hnw1⟩, hcs1, hxj1, hmode⟩
    clear hcs59 h59 hnow59 hwas59 hjl
    have hdev : DvIn H H154 F1 pd D1 (z + 12) (20000 + 200000 * j + 15000) ∧ Falls (z + 12) z (20000 + 200000 * j + 15000) 11 D1 xs1 := by
      rcases hmode with ⟨g1, _⟩ | ⟨g1, _, g2⟩
      · exact ⟨g1.jin.dv, fun ms => Live.crash g1.live ms⟩
      · exact ⟨g1.dv, g2⟩
    refine ⟨fun H' => H154 = H', (ddead_ok hdev.1.dev).mono ?_, ?_⟩
    · rintro _ _ ⟨rfl, rfl⟩
      refine ⟨_, rfl, fun hd => ?_, fun _ => rfl⟩
      refine ⟨what, hcs1.1.cell 0, (pick_ok what 10 H154 (by decide) (by decide)).mono ?_⟩
      rintro _ _ ⟨rfl, rfl⟩
      refine ⟨_, rfl, fun _ => ⟨⟨by omega, by omega⟩, ⟨j + 1, by omega, by omega, ?_⟩, by simp only []; omega⟩, fun _ => rfl⟩
      rcases hmode with ⟨g1, g2⟩ | ⟨_, g1, _⟩
      · exact ⟨pj, F1, J1, D1, cur1, ws1, xs1, rfl, g1.up (by omega) (by omega) (fun _ h => h), ⟨rfl, hnow1, hwl1, rfl, hwas1, hxl1, hxf1, hnw1⟩, g2, by omega⟩
      · rw [hd] at g1; cases g1
    rintro _ rfl
    clear hmode
    obtain ⟨hdv, hfalls⟩ := hdev
    refine ⟨pm, lm, cm, hcs1.1.cell 3, (hdv.crash (by omega) (KeptB.old hms hdv.ext hdv.low)).mono ?_⟩
    rintro _ H168 ⟨rfl, hx168, hdv168, hat168, hf168⟩
    obtain ⟨hm, hone, hsure⟩ := hfalls ms
    have hwas168 := hwas1.step hx168
    have hcs168 := hcs1.step hx168
    generalize grow F1 H154 H168 = F2 at *
    generalize crashD D1 ms = D2 at *
    generalize crashL ms D1.pend 0 D1.kept = X at *
    refine ⟨rfl, fun H' => ∃ F D K, DvIn H H' F pd D (z + 12) (20000 + 200000 * j + 30000) ∧ At D K [] ∧ D.fuse = -1 ∧ Sure (z + 12) z (20000 + 200000 * j + 30000) K hm ∧ WasRow H H' F a151 c153 xs1, ⟨N, hcs168.1.cell 1, by decide, fun q171 _ => ⟨fun _ => ?_, fun _ => ?_⟩⟩, ?_⟩
    · refine ⟨N, hcs168.1.cell 1, by decide, fun q173 _ => (pick_ok q173 25 H168 (by decide) (by decide)).mono ?_⟩
      rintro _ _ ⟨rfl, rfl⟩
      have q0 := Int.emod_nonneg q173 (show (25 : Int) ≠ 0 by decide)
      have q1 := Int.emod_lt_of_pos q173 (show (0 : Int) < 25 by decide)
      refine ⟨_, rfl, (hdv168.fuse (k := q173 % 25) (by omega)).mono ?_⟩
      rintro _ H178 ⟨rfl, hx178, hdv178⟩
      have hat178 : At { D2 with fuse := max (q173 % 25) (-1) } X [] := ⟨hat168.kept, hat168.pend, hat168.dead⟩
      have hwas178 := hwas168.same hx178
      have hcs178 := hcs168.same hx178
      refine ⟨rfl, (hdv178.open_ (by omega) hat178 hsure (S := fun x => x = hm) rfl).mono ?_⟩
      rintro _ H180 ⟨hx180, ⟨pj3, J3, D3, rfl, hjl3, _, _, hp3⟩ | ⟨D3, rfl, hdv3, _, _, hs3⟩⟩
      · have hwas180 := hwas178.step hx180
        have hcs180 := hcs178.step hx180
        refine ⟨_, _, rfl, pm, lm, cm, hcs180.1.cell 3, (hjl3.jin.dv.crash (by omega) (KeptB.old hms hjl3.jin.ext hjl3.jin.low)).mono ?_⟩
        rintro _ H187 ⟨rfl, hx187, hdv187, hat187, hf187⟩
        obtain ⟨hm', rfl, hsure'⟩ := Live.crash hjl3.live ms
        exact ⟨rfl, _, _, _, ⟨hdv187.dev, hdv187.wf.up (by omega), hdv187.low, hdv187.ext⟩, hat187, hf187, hsure'.up (by omega) (by omega), hwas180.step hx187⟩
      · have hwas180 := hwas178.step hx180
        have hcs180 := hcs178.step hx180
        refine ⟨_, _, rfl, pm, lm, cm, hcs180.1.cell 3, (hdv3.crash (by omega) (KeptB.old hms hdv3.ext hdv3.low)).mono ?_⟩
        rintro _ H187 ⟨rfl, hx187, hdv187, hat187, hf187⟩
        exact ⟨rfl, _, _, _, ⟨hdv187.dev, hdv187.wf.up (by omega), hdv187.low, hdv187.ext⟩, hat187, hf187, (hs3 rfl ms).up (by omega) (by omega), hwas180.step hx187⟩
    · exact ⟨F2, D2, X, ⟨hdv168.dev, hdv168.wf.up (by omega), hdv168.low, hdv168.ext⟩, hat168, hf168, hsure.up (by omega) (by omega), hwas168⟩
    rintro H188 ⟨F3, D3, K3, hdv188, hat188, hf188, hsure188, hwas188⟩
    refine (hdv188.open_ (by omega) hat188 hsure188 (S := fun _ => True) trivial).mono ?_
    rintro _ H190 ⟨hx190, ⟨pj4, J4, D4, rfl, hjl4, hf4, _, _⟩ | ⟨_, _, _, hne, _⟩⟩
    rotate_left
    · exact absurd hf188 hne
    have hwas190 := hwas188.step hx190
    generalize grow F3 H188 H190 = F4 at *
    have hf4' := hf4 hf188
    refine ⟨_, _, rfl, fun h => absurd rfl h, fun _ => ⟨fun h => (by cases h), fun _ => ⟨⟨by omega, by omega⟩, ?_⟩⟩⟩
    refine ⟨fun n206 H' => ∃ q : Nat, n206 = q ∧ ∃ x, xs1[q]? = some x ∧ (∀ k, k < 11 → x[k]? = some (hm k)) ∧ JL H H' F4 pj4 pd (z + 12) z (20000 + 200000 * j + 40000) J4 D4 hm (fun _ => True) ∧ WasRow H H' F4 a151 c153 xs1,
      ⟨fun n196 H' => (∃ q : Nat, n196 = (q : Int) - 1 ∧ q ≤ xs1.length ∧ ∀ i, q ≤ i → ∀ x, xs1[i]? = some x → ¬ ∀ k, k < 11 → x[k]? = some (hm k)) ∧ JL H H' F4 pj4 pd (z + 12) z (20000 + 200000 * j + 40000) J4 D4 hm (fun _ => True) ∧ WasRow H H' F4 a151 c153 xs1, fun n196 _ => (n196 + 1).toNat,
        ⟨⟨xs1.length, rfl, Nat.le_refl _, fun i hi x hx => by have := (List.getElem?_eq_some_iff.1 hx).1; omega⟩, hjl4.up (by omega) (by omega) (fun _ h => h), hwas190⟩, ?_⟩, ?_⟩
    · rintro _ H197 ⟨⟨q, rfl, hq, hno⟩, hjl197, hwas197⟩
      refine ⟨fun h0 => ?_, fun h0 => ?_⟩
      · obtain ⟨p, rfl⟩ : ∃ p, q = p + 1 := ⟨q - 1, by omega⟩
        have hx : xs1[p]? = some (xs1[p]'(by omega)) := List.getElem?_eq_getElem (by omega)
        obtain ⟨bb, oo, aa, cc, eaa, hc, hv⟩ := hwas197.get hx
        have hl11 := hxl1 _ (List.getElem_mem (by omega : p < xs1.length))
        generalize xs1[p]'(by omega) = x at *
        have hpn : (((p + 1 : Nat) : Int) - 1).toNat = p := by omega
        refine ⟨by omega, by omega, bb, oo, eaa, aa, _, cc, by rw [hpn]; exact hc, (holds_ok hjl197 hv.1 (fun k hk => (hv.2 k hk).2.2) (by omega)).mono ?_⟩
        rintro _ H204 ⟨t, rfl, ht, hjl204, hx204⟩
        rw [hl11] at ht
        refine ⟨t, rfl, fun hf => ⟨⟨by omega, by omega⟩, ⟨⟨p, by omega, by omega, fun i hi y hy => ?_⟩, hjl204, hwas197.same hx204⟩, by simp only []; omega⟩, fun hf => ⟨p, by omega, x, hx, ht.1 (by simpa using hf), hjl204, hwas197.same hx204⟩⟩
        by_cases e : i = p
        · subst e
          rw [hx] at hy
          cases hy
          intro hall
          rw [ht.2 hall] at hf
          cases hf
        · exact hno i (by omega) y hy
      · obtain ⟨x, hxm, hxk⟩ := hone
        obtain ⟨i, hi, rfl⟩ := List.mem_iff_getElem.1 hxm
        exact absurd hxk (hno i (by omega) _ (List.getElem?_eq_getElem hi))
    · rintro _ H207 ⟨q, rfl, x, hx, hxk, hjl207, hwas207⟩
      have hl11 := hxl1 _ (List.mem_of_getElem? hx)
      have hqlt := (List.getElem?_eq_some_iff.1 hx).1
      refine ⟨fun h => by omega, fun _ => ?_⟩
      have hsure5 : Sure (z + 12) z (20000 + 200000 * j + 40000) (laid D4.kept D4.pend) hm := by
        obtain ⟨e, s, T, f, base, hl, hc, _⟩ := hjl207.live
        rw [hc]
        exact ⟨e, s, T, hl.sure.1⟩
      refine (hjl207.jin.dv.open_ (by omega) ⟨rfl, rfl, hjl207.live.lays.2.2.2.2.2.1⟩ hsure5 (S := OneOf 11 [x]) ⟨x, List.mem_singleton.2 rfl, hxk⟩).mono ?_
      rintro _ H209 ⟨hx209, ⟨pj5, J5, D5, rfl, hjl5, _, _, _⟩ | ⟨_, _, _, hne, _⟩⟩
      rotate_left
      · exact absurd hf4' hne
      have hwas209 := hwas207.step hx209
      generalize grow F4 H207 H209 = F5 at *
      obtain ⟨bb, oo, aa, cc, eaa, hc, hv⟩ := hwas209.get hx
      refine ⟨_, _, rfl, fun h => absurd rfl h, fun _ => ⟨fun h => (by cases h), fun _ => ⟨by omega, by omega, bb, oo, eaa, aa, _, cc, by rw [Int.toNat_natCast]; exact hc, (holds_ok hjl5 hv.1 (fun k hk => (hv.2 k hk).2.2) (by omega)).mono ?_⟩⟩⟩
      rintro _ H218 ⟨t, rfl, ht, hjl218, hx218⟩
      rw [hl11] at ht
      have htt := ht.2 hxk
      subst htt
      have hwas218 := hwas209.same hx218
      obtain ⟨bb, oo, aa, cc, eaa, hc, hv⟩ := hwas218.get hx
      refine ⟨true, rfl, fun h => (by cases h), fun _ => ⟨by omega, by omega, bb, oo, eaa, aa, _, cc, by rw [Int.toNat_natCast]; exact hc, fun b225 H226 hn226 => ⟨⟨by omega, by omega⟩, ⟨j + 1, by omega, by omega, pj5, F5, J5, D5, hm, x, [x], rfl, (hjl218.more hn226.ext).up (by omega) (by omega) (fun _ h => h), ⟨rfl, hv.more hn226.ext, hl11, rfl, WasRow.one hv hn226 hjl218.jin.ext.size hjl218.lt, by simp [hl11], by simp, fun k hk hk' => ?_⟩, hxk, by simp⟩, by simp only []; omega⟩⟩⟩
      simp only [blkOf, List.mem_singleton] at hk'
      have := (hv.2 k hk).2.1
      have := hn226.eq
      omega
end Go.Proofs
end

namespace Go.Proofs.Ytmijngnbbpilmaa.journalPrefix
open Go.ChangeShapes Go.WideShapes Go.ChangeAt Go.RowKit
open Go.ChangeMaps (open_string shut_string)
set_option linter.unusedVariables false

theorem own : ownKnob Try.prog.godebug = none := by kernel_rfl
theorem laidOut : laidOutB Try.prog = true := by kernel_rfl

set_option maxRecDepth 100000 in
theorem lifted (os : Os) (started : os.Started) (H : Type) (enc : TypeId × Value → H) :
    ReturnsInHanded {} Try.checked os 7 .any (Rows.journalPrefixSpec.pre6 enc Try.prog Try.f7 Rows.journalPrefixRow.domain false) (Rows.journalPrefixSpec.post enc Try.prog Try.f7 false true false false) := by
  refine returnsInHanded_of_change (C := Try.checked) own started (by kernel_rfl) Try.func7
    (ChangeSpec.witness6 (enc := enc) (C := Try.checked) false ⟨#[], #[.int .i64 0, .slice none 0 0], []⟩ 8 (by kernel_rfl) (by kernel_rfl) (by kernel_rfl) (by kernel_rfl)) ?_
  intro W base args ds gs before hval0 hW hcnd _
  have hval : ∀ (j : Nat) t v, Try.f7.params[j]? = some t → args[j]? = some v → Value.okWide Try.prog W .any base t v := hval0
  have hW' := hW
  obtain ⟨p, q, hA0, hV, rfl, hfz, hnd⟩ := hW
  have hA : DataW.TrodAll enc Try.prog W 0 (fun _ => true) true Try.f7.params.toList args.toList ds p := hA0
  rw [Try.params7] at hA hval
  obtain ⟨v0, vs0, d0, ds0, p0, q0, hargs, rfl, rfl, h0, r0⟩ := trodAll_cons hA
  obtain ⟨v1, vs1, d1, ds1, p1, q1, rfl, rfl, rfl, h1, r1⟩ := trodAll_cons r0
  obtain ⟨rfl, rfl, rfl⟩ := trodAll_nil r1
  obtain rfl : args = #[v0, v1] := by cases args; simp_all
  obtain ⟨rfl, rfl⟩ := trodVars_none hV
  obtain ⟨a0, rfl, rfl, rfl, w0⟩ := open_int Try.underlying3 (hval 0 3 v0 rfl rfl) h0
  obtain ⟨a1, len1, cap1, rfl⟩ := okWide_slice Try.underlying26 (hval 1 26 v1 rfl rfl)
  have k1 := h1
  have lt1 : ∀ x ∈ p1, x.block < W.heap.size := by obtain ⟨m, hm⟩ := k1; exact DataW.trod_lt m _ _ _ hm
  have sp1 := Go.Vc.okWide_spot Try.underlying26 (hval 1 26 _ rfl rfl)
  have s1 : (Go.Vc.KSlice 4 (Go.Vc.KAll [(1, (Go.Vc.KInt .i64)), (1, (Go.Vc.KInt .i64)), (1, (Go.Vc.KInts .i64)), (1, Go.Vc.KBytes)])) W.heap [.slice a1 len1 cap1] := Go.Vc.Sound.of (Go.Vc.sound_slice Try.underlying26 (by kernel_rfl) (by decide) (Go.Vc.sound_struct Try.underlying37 (by kernel_rfl) (.cons (by kernel_rfl) (by kernel_rfl) (Go.Vc.sound_int Try.underlying3) (.cons (by kernel_rfl) (by kernel_rfl) (Go.Vc.sound_int Try.underlying3) (.cons (by kernel_rfl) (by kernel_rfl) (Go.Vc.sound_ints Try.underlying35 Try.underlying3 (by kernel_rfl)) (.cons (by kernel_rfl) (by kernel_rfl) (Go.Vc.sound_bytes Try.underlying33 Try.underlying5 (by kernel_rfl)) .nil)))))) h1
  clear hA0 hval0
  refine (Go.Vc.Does.below (Go.Proofs.jprefix_law W.heap a0 w0 a1 len1 cap1 s1)).mono fun e W' ⟨he, bel⟩ => ?_
  subst he
  exact ⟨_, rfl, _, _, _, [], _, [], hW', trodAll_mk1 (shut_bool Try.underlying4 _), (trodAll_cons_mk (shut_int Try.underlying3 w0) (trodAll_cons_mk (Below.trod laidOut (by kernel_rfl) (of_decide_eq_true (by kernel_rfl)) k1 bel lt1) trodAll_mk0)), rfl, bel.frame _, fun h => by cases h⟩

theorem over : Rows.journalPrefixRow.holds Try.pinned (OpenSpec.ofChange Rows.journalPrefixSpec) :=
  OpenClaim.holds_of_wide 7 Try.f7 rfl rfl rfl rfl rfl rfl rfl ⟨rfl, rfl, rfl, rfl, rfl⟩ rfl rfl rfl rfl rfl (by kernel_rfl) Try.func7 (by kernel_rfl)
    (of_decide_eq_true (by kernel_rfl)) (by unfold Func.isWrapper; first | (rw [if_pos (by decide +kernel)]; kernel_rfl) | (rw [if_neg (by decide +kernel)]; exact ⟨rfl, rfl⟩))
    (fun os started H enc _ => lifted os started H enc)

theorem proved : Rows.JournalPrefixSaid := over
#print axioms proved
end Go.Proofs.Ytmijngnbbpilmaa.journalPrefix

