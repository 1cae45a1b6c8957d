/-
  The law BitsRuns is true and changes nothing that was there, whatever the input. No condition.
-/
import Derived.Test.YthcmooaodofgoaaProg
import Derived.Test.YthcmooaodofgoaaVc
import Derived.Test.YthcmooaodofgoaaBits
import Derived.Test.YthcmooaodofgoaaRows
import Derived.WalkKit
import Derived.ProofKit
import Derived.OpenShut
import Derived.ShutString
import Derived.ChangeOld
import Derived.Below

section
open Go Go.Vc
namespace Go.Proofs
set_option maxRecDepth 100000
/-- pentimento/pentimentolaw6.BitsRuns -/
theorem vc_bruns (x0 : Int) (x1 : Option Addr) (x1l : Nat) (x1c : Nat) (H : Heap) (R : Value → Heap → Prop) : Walk Try.prog 3 [(9, [])] [(.int .i64 x0), (.slice x1 x1l x1c)] H R = (
  Does Try.prog 11 [(.int .i64 x0), (.int .i64 90)] H fun v1 H2 => ∃ n3 : Int, v1 = (.int .i64 n3) ∧ (
    Does Try.prog 12 [(.int .i64 n3)] H2 fun v4 H5 => ∃ p6 : Option Addr, v4 = (.pointer p6) ∧ (
      Does Try.prog 13 [] H5 fun v7 H8 => ∃ t9 : Bool, v7 = (.bool t9) ∧ (
        (((t9 = false) → (
              R (.bool false) H8)) ∧ (¬ (t9 = false) → (
              ((((p6 : Option Addr) = none) → (
                    R (.bool false) H8)) ∧ (¬ ((p6 : Option Addr) = none) → (
                    ∃ I10 : Heap → Prop, (
                      ∃ I11 : Int → Heap → Prop, ∃ μ12 : Int → Heap → Nat, (I11 0 H8) ∧
                      ∀ n13 : Int, ∀ H14 : Heap, I11 n13 H14 → (
                        ((((n13 : Int) < (x1l : Int)) → (
                              ((((n13 : Int) < 40) → (
                                    ((((0 : Int) < n3) → (
                                          (0 : Int) ≤ n13 ∧ (n13 : Int) < (x1l : Int) ∧ ∃ b15 o16 : Nat, x1 = some (⟨b15, o16, none⟩ : Addr) ∧ (
                                            ∃ n17 : Int, hcell H14 b15 (o16 + (Int.toNat n13)) = some (.int .i64 n17) ∧ (
                                              Does Try.prog 11 [(.int .i64 n17), (.int .i64 n3)] H14 fun v18 H19 => ∃ n20 : Int, v18 = (.int .i64 n20) ∧ (
                                                Does Try.prog 14 [(.pointer p6), (.int .i64 n20), (.bool true)] H19 fun v21 H22 => ∃ t23 : Bool, v21 = (.bool t23) ∧ (
                                                  (In64 (n13 + 1)) ∧
                                                  (I11 (n13 + 1) H22) ∧ μ12 (n13 + 1) H22 < μ12 n13 H14)))))) ∧ (¬ ((0 : Int) < n3) → (
                                          I10 H14))))) ∧ (¬ ((n13 : Int) < 40) → (
                                    I10 H14))))) ∧ (¬ ((n13 : Int) < (x1l : Int)) → (
                              I10 H14))))) ∧
                    ∀ H24 : Heap, I10 H24 → (
                      ∃ I25 : Int → Int → Int → Heap → Prop, ∃ μ26 : Int → Int → Int → Heap → Nat, (I25 0 0 0 H24) ∧
                      ∀ n27 : Int, ∀ n28 : Int, ∀ n29 : Int, ∀ H30 : Heap, I25 n27 n28 n29 H30 → (
                        ((((n29 : Int) ≤ n3) → (
                              Does Try.prog 15 [(.pointer p6), (.int .i64 n28)] H30 fun v31 H32 => ∃ n33 : Int, ∃ n34 : Int, v31 = (.tuple #[(.int .i64 n33), (.int .i64 n34)]) ∧ (
                                ∃ I35 : Int → Heap → Prop, ∃ μ36 : Int → Heap → Nat, (I35 n28 H32) ∧
                                ∀ n37 : Int, ∀ H38 : Heap, I35 n37 H38 → (
                                  ((((n37 : Int) < n33) → (
                                        Does Try.prog 16 [(.pointer p6), (.int .i64 n37)] H38 fun v39 H40 => ∃ t41 : Bool, v39 = (.bool t41) ∧ (
                                          (((t41 = false) → (
                                                R (.bool false) H40)) ∧ (¬ (t41 = false) → (
                                                (In64 (n37 + 1)) ∧
                                                (I35 (n37 + 1) H40) ∧ μ36 (n37 + 1) H40 < μ36 n37 H38)))))) ∧ (¬ ((n37 : Int) < n33) → (
                                        ((((n34 : Int) = 0) → (
                                              ((((n33 : Int) = n3) → (
                                                    Does Try.prog 17 [(.pointer p6)] H38 fun v42 H43 => ∃ n44 : Int, v42 = (.int .i64 n44) ∧ (
                                                      R (.bool (@decide ((n27 : Int) = n44) (Classical.propDecidable _))) H43))) ∧ (¬ ((n33 : Int) = n3) → (
                                                    R (.bool false) H38))))) ∧ (¬ ((n34 : Int) = 0) → (
                                              ∃ I45 : Int → Heap → Prop, ∃ μ46 : Int → Heap → Nat, (I45 n33 H38) ∧
                                              ∀ n47 : Int, ∀ H48 : Heap, I45 n47 H48 → (
                                                (In64 (n33 + n34)) ∧
                                                ((((n47 : Int) < (n33 + n34)) → (
                                                      Does Try.prog 16 [(.pointer p6), (.int .i64 n47)] H48 fun v49 H50 => ∃ t51 : Bool, v49 = (.bool t51) ∧ (
                                                        ((t51 = true → (
                                                            R (.bool false) H50)) ∧ (t51 = false → (
                                                            (In64 (n47 + 1)) ∧
                                                            (I45 (n47 + 1) H50) ∧ μ46 (n47 + 1) H50 < μ46 n47 H48)))))) ∧ (¬ ((n47 : Int) < (n33 + n34)) → (
                                                      (In64 (n33 + n34)) ∧
                                                      (((((n33 + n34) : Int) < n3) → (
                                                            (In64 (n33 + n34)) ∧
                                                            Does Try.prog 16 [(.pointer p6), (.int .i64 (n33 + n34))] H48 fun v52 H53 => ∃ t54 : Bool, v52 = (.bool t54) ∧ (
                                                            (((t54 = false) → (
                                                            R (.bool false) H53)) ∧ (¬ (t54 = false) → (
                                                            (In64 (n33 + n34)) ∧
                                                            ((((n3 : Int) < (n33 + n34)) → (
                                                            R (.bool false) H53)) ∧ (¬ ((n3 : Int) < (n33 + n34)) → (
                                                            (In64 (n27 + n34)) ∧
                                                            (In64 (n33 + n34)) ∧
                                                            (In64 (n29 + 1)) ∧
                                                            (I25 (n27 + n34) (n33 + n34) (n29 + 1) H53) ∧ μ26 (n27 + n34) (n33 + n34) (n29 + 1) H53 < μ26 n27 n28 n29 H30))))))))) ∧ (¬ (((n33 + n34) : Int) < n3) → (
                                                            (In64 (n33 + n34)) ∧
                                                            ((((n3 : Int) < (n33 + n34)) → (
                                                            R (.bool false) H48)) ∧ (¬ ((n3 : Int) < (n33 + n34)) → (
                                                            (In64 (n27 + n34)) ∧
                                                            (In64 (n33 + n34)) ∧
                                                            (In64 (n29 + 1)) ∧
                                                            (I25 (n27 + n34) (n33 + n34) (n29 + 1) H48) ∧ μ26 (n27 + n34) (n33 + n34) (n29 + 1) H48 < μ26 n27 n28 n29 H30)))))))))))))))))))) ∧ (¬ ((n29 : Int) ≤ n3) → (
                              R (.bool false) H30))))))))))))))) := by kernel_rfl


end Go.Proofs
end

section
open Go Go.Vc
namespace Go.Proofs

structure RunSpec (p : Nat → Bool) (n k s c : Nat) : Prop where
  from_ : k ≤ s
  on : ∀ i, k ≤ i → i < s → p i = true
  off : ∀ i, s ≤ i → i < s + c → p i = false
  fin : s + c ≤ n
  next : s + c < n → p (s + c) = true
  zero : c = 0 → s = n

theorem runF_spec (p : Nat → Bool) (n k : Nat) (hk : k ≤ n) : RunSpec p n k (runF p n k).1 (runF p n k).2 := by
  unfold runF
  simp only
  have h1 := skipTo_ge p (n - k) k
  have h2 := skipTo_all p (n - k) k
  have h3 := skipTo_not p (n - k) k
  generalize skipTo p (n - k) k = s at *
  split
  · exact ⟨hk, fun i hi hl => h2 i hi (by omega), fun i hi hl => by omega, Nat.le_refl _, fun h => by omega, fun _ => rfl⟩
  · have g1 := skipTo_ge (fun i => !p i) (n - s) s
    have g2 := skipTo_all (fun i => !p i) (n - s) s
    have g3 := skipTo_not (fun i => !p i) (n - s) s
    have g4 : skipTo (fun i => !p i) (n - s) s ≠ s := by
      have e : n - s = (n - s - 1) + 1 := by omega
      rw [e, skipTo, h3 (by omega)]
      have := (skipTo_ge (fun i => !p i) (n - s - 1) (s + 1)).1
      simp only [Bool.not_false]
      omega
    generalize skipTo (fun i => !p i) (n - s) s = t at *
    refine ⟨h1.1, h2, fun i hi hl => by simpa using g2 i hi (by simp only at hl; omega), by simp only; omega, fun h => ?_, fun h => by simp only at h; omega⟩
    have e : s + (t - s) = t := by omega
    simp only [e] at h ⊢
    simpa using g3 (by omega)

theorem cntF_on {p : Nat → Bool} {k : Nat} : ∀ {s : Nat}, k ≤ s → (∀ i, k ≤ i → i < s → p i = true) → cntF p s = cntF p k
  | 0, h, _ => by rw [Nat.le_zero.1 h]
  | s + 1, h, ho => by
    by_cases e : k = s + 1
    · rw [e]
    · rw [cntF, ho s (by omega) (by omega), cntF_on (by omega) (fun i h1 h2 => ho i h1 (by omega))]
      simp

theorem cntF_off {p : Nat → Bool} {s : Nat} : ∀ {c : Nat}, (∀ i, s ≤ i → i < s + c → p i = false) → cntF p (s + c) = cntF p s + c
  | 0, _ => rfl
  | c + 1, ho => by
    rw [← Nat.add_assoc, cntF, ho (s + c) (by omega) (by omega), cntF_off (fun i h1 h2 => ho i h1 (by omega))]
    simp
    omega

theorem bruns_ok {H : Heap} (n : Int) {a : Option Addr} {len cap : Nat} {zs : List Int} (hl : zs.length = len) (hm : len ≤ maxLen) (hs : SRow H 1 len (.slice a len cap) (zs.map fun n => .int .i64 n)) :
    Does Try.prog 3 [.int .i64 n, .slice a len cap] H fun v H' => v = .bool true ∧ Ext [] H H' := by
  refine Fn_of_vc Try.mixed (vc_bruns _ _ _ _ _ _) ?_
  have hml : len ≤ 9223372036854775807 := by unfold maxLen at hm; omega
  refine (pick_ok n 90 H (by decide) (by decide)).mono ?_
  rintro _ _ ⟨rfl, rfl⟩
  have p0 := Int.emod_nonneg n (show (90 : Int) ≠ 0 by decide)
  have p1 := Int.emod_lt_of_pos n (show (0 : Int) < 90 by decide)
  generalize n % 90 = k at *
  refine ⟨_, rfl, (new_ok k H (by omega)).mono ?_⟩
  rintro _ H2 ⟨pb, bb, rfl, h, hx, hp, hb⟩
  refine ⟨_, rfl, (known_ok H2).mono ?_⟩
  rintro _ H5 ⟨rfl, hx5⟩
  refine ⟨_, rfl, fun e => (by cases e), fun _ => ⟨fun e => (by cases e), fun _ => ?_⟩⟩
  have h5 := h.ext hx5 (by simp) (by simp)
  have hx5' := hx.trans hx5
  have hs5 := hs.ext hx5' (by simp)
  obtain ⟨n, rfl⟩ : ∃ n : Nat, k = n := ⟨k.toNat, by omega⟩
  simp only [Int.toNat_natCast] at h5
  let J : Heap → Prop := fun H' => Ext [] H H' ∧ ∃ xs, IsMap H' pb (some ⟨bb, 0, none⟩) ((n + 7) / 8) n xs
  have j5 : J H5 := ⟨hx5', _, h5⟩
  refine ⟨J, ⟨fun i H' => 0 ≤ i ∧ J H', fun i _ => 40 - i.toNat, ⟨by decide, j5⟩, ?_⟩, ?_⟩
  · rintro i H' ⟨hi0, hj⟩
    have hj' := hj
    obtain ⟨hxe, xs, hmp⟩ := hj'
    refine ⟨fun h1 => ⟨fun h2 => ⟨fun h3 => ?_, fun _ => hj⟩, fun _ => hj⟩, fun _ => hj⟩
    refine ⟨hi0, h1, ?_⟩
    have hsn := hs.ext hxe (by simp)
    obtain ⟨b, o, ha, hc⟩ := hsn.get (j := i.toNat) (u := .int .i64 (zs.getD i.toNat 0)) (by
      rw [List.getElem?_map, List.getElem?_eq_getElem (by omega)]
      simp [List.getD_eq_getElem?_getD, List.getElem?_eq_getElem (show i.toNat < zs.length by omega)])
    refine ⟨b, o, ha, _, hc, (pick_ok _ n _ h3 (by omega)).mono ?_⟩
    rintro _ _ ⟨rfl, rfl⟩
    refine ⟨_, rfl, (set_ok hmp _ true).mono ?_⟩
    have step : ∀ H22, J H22 → In64 (i + 1) ∧ (0 ≤ i + 1 ∧ J H22) ∧ 40 - (i + 1).toNat < 40 - i.toNat := fun H22 hj => ⟨⟨by omega, by omega⟩, ⟨by omega, hj⟩, by omega⟩
    rintro _ H22 (⟨rfl, rfl, _⟩ | ⟨rfl, _, _, _, h8, hx8⟩)
    · exact ⟨_, rfl, step _ hj⟩
    · refine ⟨_, rfl, step _ ⟨hxe.trans' hx8 ?_, _, h8⟩⟩
      intro i hi
      simp only [blkOf, List.mem_singleton] at hi
      omega
  · rintro H6 ⟨hx6, xs, hm6⟩
    have hsm := hm6.small
    have key : ∀ i : Nat, i < n → getB n xs (i : Int) = bit xs i := fun i hi => getB_nat _ _ _ hi
    refine ⟨fun f at' k H' => H6 = H' ∧ ∃ at_ j : Nat, at' = at_ ∧ k = j ∧ f = cntF (bit xs) at_ ∧ j ≤ at_ ∧ at_ ≤ n, fun _ _ k _ => n + 1 - k.toNat, ⟨rfl, 0, 0, rfl, rfl, rfl, Nat.le_refl _, Nat.zero_le _⟩, ?_⟩
    rintro _ _ _ _ ⟨rfl, at_, j, rfl, rfl, rfl, hj, hat⟩
    refine ⟨fun h1 => ?_, fun h1 => absurd h1 (by omega)⟩
    refine (run_ok hm6 at_ (by omega)).mono ?_
    rintro _ _ ⟨rfl, rfl⟩
    have hr := runF_spec (bit xs) n at_ hat
    simp only [Int.toNat_natCast]
    generalize (runF (bit xs) n at_).1 = s at *
    generalize (runF (bit xs) n at_).2 = c at *
    have r1 := hr.from_
    have r2 := hr.fin
    have r3 := hr.zero
    have r4 : cntF (bit xs) (s + c) = cntF (bit xs) at_ + c := by rw [cntF_off hr.off, cntF_on hr.from_ hr.on]
    have r5 := cntF_le (bit xs) (s + c)
    refine ⟨_, _, rfl, fun b H' => H6 = H' ∧ ∃ b' : Nat, b = b' ∧ at_ ≤ b' ∧ b' ≤ s, fun b _ => s - b.toNat, ⟨rfl, at_, rfl, Nat.le_refl _, r1⟩, ?_⟩
    rintro _ _ ⟨rfl, b, rfl, hb1, hb2⟩
    refine ⟨fun h2 => ?_, fun h2 => ⟨fun h3 => ⟨fun h4 => ?_, fun h4 => absurd (by omega) h4⟩, fun h3 => ?_⟩⟩
    · refine (get_ok hm6 b).mono ?_
      rintro _ _ ⟨rfl, rfl⟩
      rw [key b (by omega), hr.on b hb1 (by omega)]
      refine ⟨_, rfl, fun e => (by cases e), fun _ => ⟨⟨by omega, by omega⟩, ⟨rfl, b + 1, by omega, by omega, by omega⟩, by dsimp only; omega⟩⟩
    · refine (free_ok hm6).mono ?_
      rintro _ _ ⟨rfl, rfl⟩
      have e1 : c = 0 := by omega
      have e2 : s = n := by omega
      subst e1
      subst e2
      exact ⟨_, rfl, yes (by rw [show s = s + 0 from rfl, r4]; simp), hx6⟩
    · refine ⟨fun b H' => H6 = H' ∧ ∃ b' : Nat, b = b' ∧ s ≤ b' ∧ b' ≤ s + c, fun b _ => s + c - b.toNat, ⟨rfl, s, rfl, Nat.le_refl _, by omega⟩, ?_⟩
      rintro _ _ ⟨rfl, b, rfl, hb3, hb4⟩
      have i1 : In64 ((s : Int) + c) := ⟨by omega, by omega⟩
      have fin : In64 ((s : Int) + c) ∧ (((n : Int) < s + c → Value.bool false = Value.bool true ∧ Ext [] H H6) ∧ (¬ (n : Int) < s + c → In64 ((cntF (bit xs) at_ : Int) + c) ∧ In64 ((s : Int) + c) ∧ In64 ((j : Int) + 1) ∧
          (H6 = H6 ∧ ∃ at_1 j_1 : Nat, (s : Int) + c = at_1 ∧ (j : Int) + 1 = j_1 ∧ (cntF (bit xs) at_ : Int) + c = cntF (bit xs) at_1 ∧ j_1 ≤ at_1 ∧ at_1 ≤ n) ∧ n + 1 - ((j : Int) + 1).toNat < n + 1 - (j : Int).toNat)) := by
        refine ⟨i1, fun h4 => absurd h4 (by omega), fun _ => ⟨⟨by omega, by omega⟩, i1, ⟨by omega, by omega⟩, ⟨rfl, s + c, j + 1, by omega, by omega, by rw [r4]; omega, by omega, by omega⟩, by omega⟩⟩
      refine ⟨i1, fun h4 => ?_, fun h4 => ⟨i1, fun h5 => ⟨i1, ?_⟩, fun _ => fin⟩⟩
      · refine (get_ok hm6 b).mono ?_
        rintro _ _ ⟨rfl, rfl⟩
        rw [key b (by omega), hr.off b hb3 (by omega)]
        refine ⟨_, rfl, fun e => (by cases e), fun _ => ⟨⟨by omega, by omega⟩, ⟨rfl, b + 1, by omega, by omega, by omega⟩, by dsimp only; omega⟩⟩
      · refine (get_ok hm6 (s + c)).mono ?_
        rintro _ _ ⟨rfl, rfl⟩
        have := key (s + c) (by omega)
        rw [show ((s + c : Nat) : Int) = (s : Int) + c by omega] at this
        rw [this, hr.next (by omega)]
        exact ⟨_, rfl, fun e => (by cases e), fun _ => fin⟩

end Go.Proofs

open Go Go.Vc in
theorem Go.Proofs.bruns_law (H : Heap) (n : Int) (_ : (Lit.int .i64 n).wf = true) (a : Option Addr) (len cap : Nat) (zs : List Int) (hl : zs.length = len) (hm : len ≤ maxLen) (hs : SRow H 1 len (.slice a len cap) (zs.map fun n => .int .i64 n)) (_ : ∀ n ∈ zs, (Lit.int .i64 n).wf = true) :
    Does Try.prog 3 [.int .i64 n, .slice a len cap] H fun v H' => v = .bool true ∧ Ext [] H H' := bruns_ok n hl hm hs
end

namespace Go.Proofs.Ythcmooaodofgoaa.bitsRuns
open Go.ChangeShapes Go.WideShapes Go.ChangeAt Go.RowKit
open Go.ChangeMaps (open_string shut_string)
set_option linter.unusedVariables false

theorem own : ownKnob Try.prog.godebug = none := by kernel_rfl
theorem laidOut : laidOutB Try.prog = true := by kernel_rfl

set_option maxRecDepth 100000 in
theorem lifted (os : Os) (started : os.Started) (H : Type) (enc : TypeId × Value → H) :
    ReturnsInHanded {} Try.checked os 3 .any (Rows.bitsRunsSpec.pre6 enc Try.prog Try.f3 Rows.bitsRunsRow.domain false) (Rows.bitsRunsSpec.post enc Try.prog Try.f3 false true false false) := by
  refine returnsInHanded_of_change (C := Try.checked) own started (by kernel_rfl) Try.func3
    (ChangeSpec.witness6 (enc := enc) (C := Try.checked) false ⟨#[], #[.int .i64 0, .slice none 0 0], []⟩ 8 (by kernel_rfl) (by kernel_rfl) (by kernel_rfl) (by kernel_rfl)) ?_
  intro W base args ds gs before hval0 hW hcnd _
  have hval : ∀ (j : Nat) t v, Try.f3.params[j]? = some t → args[j]? = some v → Value.okWide Try.prog W .any base t v := hval0
  have hW' := hW
  obtain ⟨p, q, hA0, hV, rfl, hfz, hnd⟩ := hW
  have hA : DataW.TrodAll enc Try.prog W 0 (fun _ => true) true Try.f3.params.toList args.toList ds p := hA0
  rw [Try.params3] at hA hval
  obtain ⟨v0, vs0, d0, ds0, p0, q0, hargs, rfl, rfl, h0, r0⟩ := trodAll_cons hA
  obtain ⟨v1, vs1, d1, ds1, p1, q1, rfl, rfl, rfl, h1, r1⟩ := trodAll_cons r0
  obtain ⟨rfl, rfl, rfl⟩ := trodAll_nil r1
  obtain rfl : args = #[v0, v1] := by cases args; simp_all
  obtain ⟨rfl, rfl⟩ := trodVars_none hV
  obtain ⟨a0, rfl, rfl, rfl, w0⟩ := open_int Try.underlying3 (hval 0 3 v0 rfl rfl) h0
  obtain ⟨a1, len1, cap1, rfl⟩ := okWide_slice Try.underlying22 (hval 1 22 v1 rfl rfl)
  have k1 := h1
  have lt1 : ∀ x ∈ p1, x.block < W.heap.size := by obtain ⟨m, hm⟩ := k1; exact DataW.trod_lt m _ _ _ hm
  have sp1 := Go.Vc.okWide_spot Try.underlying22 (hval 1 22 _ rfl rfl)
  obtain ⟨z1, l1, m1, s1, w1⟩ := Go.Vc.arg_ints Try.underlying22 Try.underlying3 (by kernel_rfl) sp1 h1
  clear hA0 hval0
  refine (Go.Vc.Does.below (Go.Proofs.bruns_law W.heap a0 w0 a1 len1 cap1 z1 l1 m1 s1 w1)).mono fun e W' ⟨he, bel⟩ => ?_
  subst he
  exact ⟨_, rfl, _, _, _, [], _, [], hW', trodAll_mk1 (shut_bool Try.underlying4 _), (trodAll_cons_mk (shut_int Try.underlying3 w0) (trodAll_cons_mk (Below.trod laidOut (by kernel_rfl) (of_decide_eq_true (by kernel_rfl)) k1 bel lt1) trodAll_mk0)), rfl, bel.frame _, fun h => by cases h⟩

theorem over : Rows.bitsRunsRow.holds Try.pinned (OpenSpec.ofChange Rows.bitsRunsSpec) :=
  OpenClaim.holds_of_wide 3 Try.f3 rfl rfl rfl rfl rfl rfl rfl ⟨rfl, rfl, rfl, rfl, rfl⟩ rfl rfl rfl rfl rfl (by kernel_rfl) Try.func3 (by kernel_rfl)
    (of_decide_eq_true (by kernel_rfl)) (by unfold Func.isWrapper; first | (rw [if_pos (by decide +kernel)]; kernel_rfl) | (rw [if_neg (by decide +kernel)]; exact ⟨rfl, rfl⟩))
    (fun os started H enc _ => lifted os started H enc)

theorem proved : Rows.BitsRunsSaid := over
#print axioms proved
end Go.Proofs.Ythcmooaodofgoaa.bitsRuns

