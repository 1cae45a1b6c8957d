/-
  The law BitsLoads is true and changes nothing that was there, whatever the input. No condition.
-/
import Derived.Test.YthcmooaodofgoaaProg
import Derived.Test.YthcmooaodofgoaaVc
import Derived.Test.YthcmooaodofgoaaBitsRef
import Derived.Test.YthcmooaodofgoaaRows
import Derived.WalkKit
import Derived.ProofKit
import Derived.OpenShut
import Derived.ShutString
import Derived.ChangeOld
import Derived.Below

section
open Go Go.Vc
namespace Go.Proofs
set_option maxRecDepth 100000
/-- pentimento/pentimentolaw6.BitsLoads -/
theorem vc_bloads (x0 : Option Addr) (x0l : Nat) (x0c : Nat) (x1 : Int) (x2 : Int) (H : Heap) (R : Value → Heap → Prop) : Walk Try.prog 6 [(999999, []), (4, [(1, (.int .i64 0))]), (6, [(1, (.int .i64 0))])] [(.slice x0 x0l x0c), (.int .i64 x1), (.int .i64 x2)] H R = (
  Does Try.prog 11 [(.int .i64 x1), (.int .i64 12)] H fun v1 H2 => ∃ n3 : Int, v1 = (.int .i64 n3) ∧ (
    ∀ q4 : Int, q4 = IntKind.wrap .i64 (8 * (x0l : Int)) → (
      ∀ q5 : Int, q5 = IntKind.wrap .i64 (n3 + q4) → (
        ∀ q6 : Int, q6 = IntKind.wrap .i64 (q5 - 10) → (
          ∃ I7 : Int → Heap → Prop, (
            ((5 : Int) ≠ 0) ∧
            ∀ q8 : Int, q8 = Int.tmod x2 5 → (
              ((((q8 : Int) = 0) → (
                    I7 x2 H2)) ∧ (¬ ((q8 : Int) = 0) → (
                    I7 q6 H2))))) ∧
          ∀ n9 : Int, ∀ H10 : Heap, I7 n9 H10 → (
            ∃ I11 : Int → Heap → Prop, (
              ((((100000 : Int) < n9) → (
                    ((100000 : Int) ≠ 0) ∧
                    ∀ q12 : Int, q12 = Int.tmod n9 100000 → (
                      I11 q12 H10))) ∧ (¬ ((100000 : Int) < n9) → (
                    ((((n9 : Int) < (-100000)) → (
                          ((100000 : Int) ≠ 0) ∧
                          ∀ q13 : Int, q13 = Int.tmod n9 100000 → (
                            I11 q13 H10))) ∧ (¬ ((n9 : Int) < (-100000)) → (
                          I11 n9 H10))))))) ∧
            ∀ n14 : Int, ∀ H15 : Heap, I11 n14 H15 → (
              Does Try.prog 19 [(.slice x0 x0l x0c), (.int .i64 n14)] H15 fun v16 H17 => ∃ p18 : Option Addr, ∃ n19 : Int, v16 = (.tuple #[(.pointer p18), (.int .i64 n19)]) ∧ (
                Does Try.prog 26 [(.slice x0 x0l x0c), (.int .i64 n14)] H17 fun v20 H21 => ∃ p22 : Option Addr, ∃ t23 : Bool, v20 = (.tuple #[(.pointer p22), (.bool t23)]) ∧ (
                  (((¬ (((n19 : Int) = 0) ↔ (t23 = true))) → (
                        R (.bool false) H21)) ∧ (¬ (¬ (((n19 : Int) = 0) ↔ (t23 = true))) → (
                        ((((n19 : Int) ≠ 0) → (
                              ((((n19 : Int) ≠ 2) → (
                                    R (.bool false) H21)) ∧ (¬ ((n19 : Int) ≠ 2) → (
                                    Does Try.prog 13 [] H21 fun v24 H25 => ∃ t26 : Bool, v24 = (.bool t26) ∧ (
                                      (((t26 = true → (
                                              (((t23 = false) → (
                                                    R (.bool true) H25)) ∧ (¬ (t23 = false) → (
                                                    (((¬ ((p18 : Option Addr) = none)) → (
                                                          Does Try.prog 18 [(.pointer p18)] H25 fun v27 H28 => ∃ a29 : Option Addr, ∃ l30 : Nat, ∃ c31 : Nat, v27 = (.slice a29 l30 c31) ∧ (
                                                            (∃ l32 : List UInt8, SRow H28 1 l30 (.slice a29 l30 c31) (List.map (fun (b : UInt8) => Value.int .u8 b.toNat) l32) ∧ (
                                                            Does Try.prog 22 [(.pointer p22)] H28 fun v33 H34 => ∃ a35 : Option Addr, ∃ l36 : Nat, ∃ c37 : Nat, v33 = (.slice a35 l36 c37) ∧ (
                                                            SRow H34 1 l30 (.slice a29 l30 c31) (List.map (fun (b : UInt8) => Value.int .u8 b.toNat) l32) ∧ (∃ l38 : List UInt8, SRow H34 1 l36 (.slice a35 l36 c37) (List.map (fun (b : UInt8) => Value.int .u8 b.toNat) l38) ∧ (
                                                            (((((ByteArray.mk (List.toArray l32)) : ByteArray) = (ByteArray.mk (List.toArray l38))) → (
                                                            ∃ b39 o40 : Nat, p22 = some (⟨b39, o40, none⟩ : Addr) ∧ (
                                                            ∃ a41 : Option Addr, ∃ l42 : Nat, ∃ c43 : Nat, hcell H34 b39 o40 = some (.slice a41 l42 c43) ∧ (
                                                            Does Try.prog 20 [(.pointer p18)] H34 fun v44 H45 => ∃ n46 : Int, v44 = (.int .i64 n46) ∧ (
                                                            isL H45 b39 o40 [(.slice a41 l42 c43)] ∧ (R (.bool (@decide ((n46 : Int) = (l42 : Int)) (Classical.propDecidable _))) H45)))))) ∧ (¬ (((ByteArray.mk (List.toArray l32)) : ByteArray) = (ByteArray.mk (List.toArray l38))) → (
                                                            R (.bool false) H34))))))))))) ∧ (¬ (¬ ((p18 : Option Addr) = none)) → (
                                                          R (.bool false) H25)))))))) ∧ (t26 = false → (
                                              R (.bool false) H25)))))))))) ∧ (¬ ((n19 : Int) ≠ 0) → (
                              Does Try.prog 13 [] H21 fun v47 H48 => ∃ t49 : Bool, v47 = (.bool t49) ∧ (
                                (((t49 = true → (
                                        (((t23 = false) → (
                                              R (.bool true) H48)) ∧ (¬ (t23 = false) → (
                                              (((¬ ((p18 : Option Addr) = none)) → (
                                                    Does Try.prog 18 [(.pointer p18)] H48 fun v50 H51 => ∃ a52 : Option Addr, ∃ l53 : Nat, ∃ c54 : Nat, v50 = (.slice a52 l53 c54) ∧ (
                                                      (∃ l55 : List UInt8, SRow H51 1 l53 (.slice a52 l53 c54) (List.map (fun (b : UInt8) => Value.int .u8 b.toNat) l55) ∧ (
                                                          Does Try.prog 22 [(.pointer p22)] H51 fun v56 H57 => ∃ a58 : Option Addr, ∃ l59 : Nat, ∃ c60 : Nat, v56 = (.slice a58 l59 c60) ∧ (
                                                            SRow H57 1 l53 (.slice a52 l53 c54) (List.map (fun (b : UInt8) => Value.int .u8 b.toNat) l55) ∧ (∃ l61 : List UInt8, SRow H57 1 l59 (.slice a58 l59 c60) (List.map (fun (b : UInt8) => Value.int .u8 b.toNat) l61) ∧ (
                                                            (((((ByteArray.mk (List.toArray l55)) : ByteArray) = (ByteArray.mk (List.toArray l61))) → (
                                                            ∃ b62 o63 : Nat, p22 = some (⟨b62, o63, none⟩ : Addr) ∧ (
                                                            ∃ a64 : Option Addr, ∃ l65 : Nat, ∃ c66 : Nat, hcell H57 b62 o63 = some (.slice a64 l65 c66) ∧ (
                                                            Does Try.prog 20 [(.pointer p18)] H57 fun v67 H68 => ∃ n69 : Int, v67 = (.int .i64 n69) ∧ (
                                                            isL H68 b62 o63 [(.slice a64 l65 c66)] ∧ (R (.bool (@decide ((n69 : Int) = (l65 : Int)) (Classical.propDecidable _))) H68)))))) ∧ (¬ (((ByteArray.mk (List.toArray l55)) : ByteArray) = (ByteArray.mk (List.toArray l61))) → (
                                                            R (.bool false) H57))))))))))) ∧ (¬ (¬ ((p18 : Option Addr) = none)) → (
                                                    R (.bool false) H48)))))))) ∧ (t49 = false → (
                                        R (.bool false) H48)))))))))))))))))))) := by kernel_rfl


end Go.Proofs
end

section
open Go Go.Vc
namespace Go.Proofs

theorem tmod_lt {x c : Int} (hc : 0 < c) : Int.tmod x c < c ∧ -c < Int.tmod x c := ⟨Int.tmod_lt_of_pos x hc, Int.lt_tmod_of_pos x hc⟩

theorem bloads_law (H : Heap) (a : Option Addr) (len cap : Nat) (xs : List UInt8) (_ : xs.length = len) (_ : len ≤ maxLen) (h : SRow H 1 len (.slice a len cap) (bytesV xs)) (n : Int) (_ : (Lit.int .i64 n).wf = true) (near : Int) (_ : (Lit.int .i64 near).wf = true) :
    Does Try.prog 6 [.slice a len cap, .int .i64 n, .int .i64 near] H fun v H' => v = .bool true ∧ Ext [] H H' := by
  refine Fn_of_vc Try.mixed (vc_bloads _ _ _ _ _ _ _) ?_
  refine (pick_ok n 12 H (by decide) (by decide)).mono ?_
  rintro _ _ ⟨rfl, rfl⟩
  have p0 := Int.emod_nonneg n (show (12 : Int) ≠ 0 by decide)
  have p1 := Int.emod_lt_of_pos n (show (0 : Int) < 12 by decide)
  generalize n % 12 = k at *
  refine ⟨_, rfl, ?_⟩
  rintro q0 - q1 - q2 -
  refine ⟨fun _ H' => H = H', ⟨by decide, fun q _ => ⟨fun _ => rfl, fun _ => rfl⟩⟩, ?_⟩
  rintro n _ rfl
  refine ⟨fun n H' => H = H' ∧ n ≤ 1000000000000, ⟨fun h1 => ⟨by decide, ?_⟩, fun h1 => ⟨fun h2 => ⟨by decide, ?_⟩, fun h2 => ⟨rfl, by omega⟩⟩⟩, ?_⟩
  · rintro q rfl
    have := tmod_lt (x := n) (show (0 : Int) < 100000 by decide)
    exact ⟨rfl, by omega⟩
  · rintro q rfl
    have := tmod_lt (x := n) (show (0 : Int) < 100000 by decide)
    exact ⟨rfl, by omega⟩
  rintro n _ ⟨rfl, hn⟩
  refine (load_ok h n hn).mono ?_
  rintro _ H14 ⟨hl, hx14⟩
  have h14 := h.ext hx14 (by simp)
  have fin : ∀ H22, Ext [] H H22 → Value.bool true = Value.bool true ∧ Ext [] H H22 := fun _ hx => ⟨rfl, hx⟩
  have hne : ∀ {x : Addr}, ¬ ((some x : Option Addr) = none) := by intro x e; cases e
  rcases hl with ⟨hno, rfl⟩ | ⟨hyes, pb, ma, mc, rfl, hmap, _, _⟩
  · refine ⟨_, _, rfl, (rload_ok h14 n hn).mono ?_⟩
    rintro _ H18 ⟨hr, hx18⟩
    have hr' : ∃ p, ‹Value› = .tuple #[.pointer p, .bool false] := by
      rcases hr with ⟨_, rfl⟩ | ⟨hl, pb, _, _, _, rfl, _⟩
      · exact ⟨_, rfl⟩
      · refine ⟨some ⟨pb, 0, none⟩, ?_⟩
        have : ¬ lastB xs n.toNat := fun hq => hno ⟨hl, hq⟩
        simp [this]
    obtain ⟨p, rfl⟩ := hr'
    refine ⟨_, _, rfl, fun h1 => absurd (by simp) h1, fun _ => ⟨fun _ => ⟨fun h1 => absurd rfl h1, fun _ => ?_⟩, fun h1 => absurd (by decide) h1⟩⟩
    refine (known_ok H18).mono ?_
    rintro _ H22 ⟨rfl, hx22⟩
    exact ⟨_, rfl, fun _ => ⟨fun _ => fin _ (hx14.trans (hx18.trans hx22)), fun h1 => absurd rfl h1⟩, fun h1 => (by cases h1)⟩
  · refine ⟨_, _, rfl, (rload_ok h14 n hn).mono ?_⟩
    rintro _ H18 ⟨⟨hl, _⟩ | ⟨hl, qb, ra, rc, bs, rfl, href, hbl, hbit⟩, hx18⟩
    · exact absurd hyes.1 hl
    have hd : decide (lastB xs n.toNat) = true := decide_eq_true hyes.2
    rw [hd]
    refine ⟨_, _, rfl, fun h1 => absurd (by simp) h1, fun _ => ⟨fun h1 => absurd rfl h1, fun _ => ?_⟩⟩
    refine (known_ok H18).mono ?_
    rintro _ H22 ⟨rfl, hx22⟩
    have hm22 := hmap.ext (hx18.trans hx22) (by simp) (by simp)
    refine ⟨_, rfl, fun _ => ⟨fun h1 => (by cases h1), fun _ => ⟨fun _ => ?_, fun h1 => absurd hne h1⟩⟩, fun h1 => (by cases h1)⟩
    refine (bytes_ok hm22).mono ?_
    rintro _ H25 ⟨a5, c5, rfl, ho5, hx25, _⟩
    have hr25 := href.ext (hx22.trans hx25) (by simp) (by simp)
    refine ⟨_, _, _, rfl, xs, ho5.row _ _, (rbytes_ok hr25).mono ?_⟩
    rintro _ H31 ⟨a6, ys, rfl, hby, ho6, hx31, _⟩
    have hr31 := hr25.ext hx31 (by simp) (by simp)
    have hm31 := hm22.ext (hx25.trans hx31) (by simp) (by simp)
    refine ⟨_, _, _, rfl, (ho5.ext hx31 (by simp)).row _ _, ys, ho6.row _ _, fun _ => ?_, fun h1 => ?_⟩
    · refine ⟨_, _, rfl, _, _, _, hr31.head.cell 0, (len_ok hm31).mono ?_⟩
      rintro _ _ ⟨rfl, rfl⟩
      refine ⟨_, rfl, ⟨hr31.head.cell 0, trivial⟩, yes (by omega), hx14.trans (hx18.trans (hx22.trans (hx25.trans hx31)))⟩
    · refine absurd ?_ h1
      congr 2
      refine bits_ext (by rw [hyes.1, hby.len, hbl]) fun j => ?_
      rw [hby.bits, hbit]
      by_cases hj : j < n.toNat
      · simp [hj]
      · rw [(lastB_iff hyes.1).1 hyes.2 j (by omega)]; simp [hj]

end Go.Proofs
end

namespace Go.Proofs.Ythcmooaodofgoaa.bitsLoads
open Go.ChangeShapes Go.WideShapes Go.ChangeAt Go.RowKit
open Go.ChangeMaps (open_string shut_string)
set_option linter.unusedVariables false

theorem own : ownKnob Try.prog.godebug = none := by kernel_rfl
theorem laidOut : laidOutB Try.prog = true := by kernel_rfl

set_option maxRecDepth 100000 in
theorem lifted (os : Os) (started : os.Started) (H : Type) (enc : TypeId × Value → H) :
    ReturnsInHanded {} Try.checked os 6 .any (Rows.bitsLoadsSpec.pre6 enc Try.prog Try.f6 Rows.bitsLoadsRow.domain false) (Rows.bitsLoadsSpec.post enc Try.prog Try.f6 false true false false) := by
  refine returnsInHanded_of_change (C := Try.checked) own started (by kernel_rfl) Try.func6
    (ChangeSpec.witness6 (enc := enc) (C := Try.checked) false ⟨#[], #[.slice none 0 0, .int .i64 0, .int .i64 0], []⟩ 8 (by kernel_rfl) (by kernel_rfl) (by kernel_rfl) (by kernel_rfl)) ?_
  intro W base args ds gs before hval0 hW hcnd _
  have hval : ∀ (j : Nat) t v, Try.f6.params[j]? = some t → args[j]? = some v → Value.okWide Try.prog W .any base t v := hval0
  have hW' := hW
  obtain ⟨p, q, hA0, hV, rfl, hfz, hnd⟩ := hW
  have hA : DataW.TrodAll enc Try.prog W 0 (fun _ => true) true Try.f6.params.toList args.toList ds p := hA0
  rw [Try.params6] at hA hval
  obtain ⟨v0, vs0, d0, ds0, p0, q0, hargs, rfl, rfl, h0, r0⟩ := trodAll_cons hA
  obtain ⟨v1, vs1, d1, ds1, p1, q1, rfl, rfl, rfl, h1, r1⟩ := trodAll_cons r0
  obtain ⟨v2, vs2, d2, ds2, p2, q2, rfl, rfl, rfl, h2, r2⟩ := trodAll_cons r1
  obtain ⟨rfl, rfl, rfl⟩ := trodAll_nil r2
  obtain rfl : args = #[v0, v1, v2] := by cases args; simp_all
  obtain ⟨rfl, rfl⟩ := trodVars_none hV
  obtain ⟨a0, len0, cap0, rfl⟩ := okWide_slice Try.underlying33 (hval 0 33 v0 rfl rfl)
  have k0 := h0
  have lt0 : ∀ x ∈ p0, x.block < W.heap.size := by obtain ⟨m, hm⟩ := k0; exact DataW.trod_lt m _ _ _ hm
  have sp0 := Go.Vc.okWide_spot Try.underlying33 (hval 0 33 _ rfl rfl)
  obtain ⟨z0, l0, m0, s0⟩ := Go.Vc.arg_bytes Try.underlying33 Try.underlying5 (by kernel_rfl) sp0 h0
  obtain ⟨a1, rfl, rfl, rfl, w1⟩ := open_int Try.underlying3 (hval 1 3 v1 rfl rfl) h1
  obtain ⟨a2, rfl, rfl, rfl, w2⟩ := open_int Try.underlying3 (hval 2 3 v2 rfl rfl) h2
  clear hA0 hval0
  refine (Go.Vc.Does.below (Go.Proofs.bloads_law W.heap a0 len0 cap0 z0 l0 m0 s0 a1 w1 a2 w2)).mono fun e W' ⟨he, bel⟩ => ?_
  subst he
  exact ⟨_, rfl, _, _, _, [], _, [], hW', trodAll_mk1 (shut_bool Try.underlying4 _), (trodAll_cons_mk (Below.trod laidOut (by kernel_rfl) (of_decide_eq_true (by kernel_rfl)) k0 bel lt0) (trodAll_cons_mk (shut_int Try.underlying3 w1) (trodAll_cons_mk (shut_int Try.underlying3 w2) trodAll_mk0))), rfl, bel.frame _, fun h => by cases h⟩

theorem over : Rows.bitsLoadsRow.holds Try.pinned (OpenSpec.ofChange Rows.bitsLoadsSpec) :=
  OpenClaim.holds_of_wide 6 Try.f6 rfl rfl rfl rfl rfl rfl rfl ⟨rfl, rfl, rfl, rfl, rfl⟩ rfl rfl rfl rfl rfl (by kernel_rfl) Try.func6 (by kernel_rfl)
    (of_decide_eq_true (by kernel_rfl)) (by unfold Func.isWrapper; first | (rw [if_pos (by decide +kernel)]; kernel_rfl) | (rw [if_neg (by decide +kernel)]; exact ⟨rfl, rfl⟩))
    (fun os started H enc _ => lifted os started H enc)

theorem proved : Rows.BitsLoadsSaid := over
#print axioms proved
end Go.Proofs.Ythcmooaodofgoaa.bitsLoads

