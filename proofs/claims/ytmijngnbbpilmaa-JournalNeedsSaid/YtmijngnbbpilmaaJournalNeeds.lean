/-
  The law JournalNeeds is true and changes nothing that was there, whatever the input. No condition.
-/
import Derived.Test.YtmijngnbbpilmaaJnC
import Derived.Test.YtmijngnbbpilmaaRows
import Derived.WalkKit
import Derived.ProofKit
import Derived.OpenShut
import Derived.ShutString
import Derived.ChangeOld
import Derived.Below
import Derived.Test.YtmijngnbbpilmaaVd

section
open Go Go.Vc
namespace Go.Proofs

theorem jneeds_law (H : Heap) (n : Int) (_ : (Lit.int .i64 n).wf = true) (m : Int) (_ : (Lit.int .i64 m).wf = true) : Does Try.prog 3 [.int .i64 n, .int .i64 m] H fun v H' => v = .bool true ∧ Ext [] H H' := by
  refine Fn_of_vc Try.mixed (vcl_jneeds _ _ _ _) ?_
  refine (pick_ok n 5000 H (by decide) (by decide)).mono ?_
  rintro _ _ ⟨rfl, rfl⟩
  have a0 := Int.emod_nonneg n (show (5000 : Int) ≠ 0 by decide)
  have a1 := Int.emod_lt_of_pos n (show (0 : Int) < 5000 by decide)
  generalize n % 5000 = n' at *
  refine ⟨_, rfl, (pick_ok m 5000 H (by decide) (by decide)).mono ?_⟩
  rintro _ _ ⟨rfl, rfl⟩
  have b0 := Int.emod_nonneg m (show (5000 : Int) ≠ 0 by decide)
  have b1 := Int.emod_lt_of_pos m (show (0 : Int) < 5000 by decide)
  generalize m % 5000 = m' at *
  refine ⟨_, rfl, (needs_ok n' H (by omega)).mono ?_⟩
  rintro _ _ ⟨rfl, rfl⟩
  refine ⟨_, rfl, ⟨by omega, by omega⟩, ⟨by omega, by omega⟩, (known_ok H).mono ?_⟩
  rintro _ H11 ⟨rfl, hx⟩
  have hk : (n' < 1 ∧ needsN n' = 0) ∨ (1 ≤ n' ∧ n' * 132 + 2 ≤ needsN n' * 116 ∧ needsN n' * 116 < n' * 132 + 2 + 116) := by
    unfold needsN
    split
    · exact .inl ⟨by assumption, rfl⟩
    · exact .inr ⟨by omega, by omega, by omega⟩
  have hm : m' < 1 ∧ needsN m' = 0 ∨ 1 ≤ m' ∧ m' * 132 + 2 ≤ needsN m' * 116 ∧ needsN m' * 116 < m' * 132 + 2 + 116 := by
    unfold needsN
    split
    · exact .inl ⟨by assumption, rfl⟩
    · exact .inr ⟨by omega, by omega, by omega⟩
  have last : ¬ m' < n' → Does Try.prog 9 [.int .i64 m'] H11 fun v13 H14 => ∃ n15 : Int, v13 = .int .i64 n15 ∧ (Value.bool (@decide (needsN n' ≤ n15) (Classical.propDecidable _)) = .bool true ∧ Ext [] H H14) := fun hmn => by
    refine (needs_ok m' H11 (by omega)).mono ?_
    rintro _ _ ⟨rfl, rfl⟩
    exact ⟨_, rfl, congrArg _ (dec_bool ⟨fun _ => rfl, fun _ => by omega⟩), hx⟩
  refine ⟨true, rfl, fun _ => ⟨fun h1 => ⟨fun h2 => ⟨fun _ => ⟨rfl, hx⟩, last⟩, fun h2 => by omega⟩, fun h1 => ⟨fun h2 => ⟨⟨by omega, by omega⟩, fun h3 => ⟨⟨by omega, by omega⟩, ⟨by omega, by omega⟩, fun h4 => ⟨fun _ => ⟨rfl, hx⟩, last⟩, fun h4 => by omega⟩, fun h3 => by omega⟩, fun h2 => by omega⟩⟩, fun h => by cases h⟩

theorem commit_used {n z B : Nat} {J : Jn} {D : Dev} {cur : Nat → Octs} {S : (Nat → Octs) → Prop} (h : LiveA n z B J D cur S) {l : List Wr} (hm : MayP l (n - 1 - z : Int)) (hfit : needsN l.length ≤ J.h.size - J.used) (h0 : (commitM n l J D).2.2 = 0) : (commitM n l J D).2.1.used = J.used + needsN l.length := by
  have hly := h.lays
  obtain ⟨e, s, T, f, base, h, hc, hS⟩ := h
  have hzn := hly.1
  have hj0 : 0 ≤ J.used := by rw [h.used]; omega
  unfold commitM at h0 ⊢
  rw [hly.2.2.2.2.2.2.2, if_neg (by simp [mayB, hm]), if_neg (by simp [h.jdead]), if_neg (by omega), if_neg (by omega)] at h0 ⊢
  unfold layE layM at h0 ⊢
  have hlb : ∀ b ∈ laidB J.h l, b.length = 128 := fun b hb => by
    unfold laidB at hb
    obtain ⟨k, hk, rfl⟩ := List.mem_map.1 hb
    exact jblk_len hm.full (by simpa using hk)
  have hz : J.h.size = z := hly.2.2.1
  rcases layW_cases (n := n) (laidB J.h l) J.used h.at_ hj0 (by rw [laidB_len]; have := needs_nat l; omega) hlb with ⟨g1, g2, g3, g4⟩ | ⟨g1, ⟨i, g2⟩, g3⟩
  · simp only [g1, ne_eq, not_true, if_false]
    show (layW n (laidB J.h l) J.used D).2.1 = _
    rw [g2, laidB_len, needs_nat]
  · simp only [g1, ne_eq, show ¬ ((4 : Int) = 0) by decide, not_false_eq_true, if_true] at h0

theorem lay_h {n : Nat} {l : List Wr} {J : Jn} {D : Dev} : (layE n l J D).2.1.h.size = J.h.size := by
  unfold layE layM
  simp only
  split <;> rfl
theorem commit_h {n : Nat} {l : List Wr} {J : Jn} {D : Dev} : (commitM n l J D).2.1.h.size = J.h.size := by
  have hk := checkpoint_h (n := n) (J := J) (D := D)
  unfold commitM
  split
  · rfl
  split
  · rfl
  split
  · rfl
  split
  · split
    · rw [hk]
    · rw [lay_h, hk]
  · exact lay_h

/-- The head of a row of writes. -/
theorem MySeq.kept1 {n0 : Nat} {H : Heap} {a : Option Addr} {n c : Nat} {xs : List Wr} {F : Nat → Prop} (h : MySeq writeE n0 H a n c xs) (hF : ∀ k, F k → k < n0) {x : Wr} {r : List Wr} (hx : xs = x :: r) : KeptW F H a [x] := by
  intro H' he
  obtain ⟨vs, h1, h2, h3⟩ := h.kept hF H' he
  subst hx
  obtain ⟨v, q1, q2⟩ := h3 0 x rfl
  cases vs with
  | nil => simp at h2
  | cons v' vs =>
    simp only [List.getElem?_cons_zero, Option.some.injEq] at q1
    subst q1
    have hv := writeE.len q2
    refine ⟨[v'], ?_, rfl, fun i y hy => ?_⟩
    · obtain ⟨g1, g2⟩ := h1
      refine ⟨by simp only [List.flatten_cons, List.flatten_nil, List.append_nil]; rw [hv]; rfl, ?_⟩
      cases a with
      | none =>
        have g2 : (v' :: vs).flatten = [] := g2
        rw [List.flatten_cons, List.append_eq_nil_iff] at g2
        rw [g2.1] at hv
        simp [writeE] at hv
      | some ad =>
        obtain ⟨g3, g4⟩ := g2
        refine ⟨.inr ?_, fun j u hj => g4 j u ?_⟩
        · rcases g3 with g3 | g3
          · rw [List.flatten_cons, List.append_eq_nil_iff] at g3
            rw [g3.1] at hv
            simp [writeE] at hv
          · exact g3
        · simp only [List.flatten_cons, List.flatten_nil, List.append_nil] at hj
          rw [List.flatten_cons, List.getElem?_append_left (List.getElem?_eq_some_iff.1 hj).1]
          exact hj
    · cases i with
      | zero => cases hy; exact ⟨_, rfl, q2⟩
      | succ i => simp at hy
end Go.Proofs
end

namespace Go.Proofs.Ytmijngnbbpilmaa.journalNeeds
open Go.ChangeShapes Go.WideShapes Go.ChangeAt Go.RowKit
open Go.ChangeMaps (open_string shut_string)
set_option linter.unusedVariables false

theorem own : ownKnob Try.prog.godebug = none := by kernel_rfl
theorem laidOut : laidOutB Try.prog = true := by kernel_rfl

set_option maxRecDepth 100000 in
theorem lifted (os : Os) (started : os.Started) (H : Type) (enc : TypeId × Value → H) :
    ReturnsInHanded {} Try.checked os 3 .any (Rows.journalNeedsSpec.pre6 enc Try.prog Try.f3 Rows.journalNeedsRow.domain false) (Rows.journalNeedsSpec.post enc Try.prog Try.f3 false true false false) := by
  refine returnsInHanded_of_change (C := Try.checked) own started (by kernel_rfl) Try.func3
    (ChangeSpec.witness6 (enc := enc) (C := Try.checked) false ⟨#[], #[.int .i64 0, .int .i64 0], []⟩ 8 (by kernel_rfl) (by kernel_rfl) (by kernel_rfl) (by kernel_rfl)) ?_
  intro W base args ds gs before hval0 hW hcnd _
  have hval : ∀ (j : Nat) t v, Try.f3.params[j]? = some t → args[j]? = some v → Value.okWide Try.prog W .any base t v := hval0
  have hW' := hW
  obtain ⟨p, q, hA0, hV, rfl, hfz, hnd⟩ := hW
  have hA : DataW.TrodAll enc Try.prog W 0 (fun _ => true) true Try.f3.params.toList args.toList ds p := hA0
  rw [Try.params3] at hA hval
  obtain ⟨v0, vs0, d0, ds0, p0, q0, hargs, rfl, rfl, h0, r0⟩ := trodAll_cons hA
  obtain ⟨v1, vs1, d1, ds1, p1, q1, rfl, rfl, rfl, h1, r1⟩ := trodAll_cons r0
  obtain ⟨rfl, rfl, rfl⟩ := trodAll_nil r1
  obtain rfl : args = #[v0, v1] := by cases args; simp_all
  obtain ⟨rfl, rfl⟩ := trodVars_none hV
  obtain ⟨a0, rfl, rfl, rfl, w0⟩ := open_int Try.underlying3 (hval 0 3 v0 rfl rfl) h0
  obtain ⟨a1, rfl, rfl, rfl, w1⟩ := open_int Try.underlying3 (hval 1 3 v1 rfl rfl) h1
  clear hA0 hval0
  refine (Go.Vc.Does.below (Go.Proofs.jneeds_law W.heap a0 w0 a1 w1)).mono fun e W' ⟨he, bel⟩ => ?_
  subst he
  exact ⟨_, rfl, _, _, _, [], _, [], hW', trodAll_mk1 (shut_bool Try.underlying4 _), (trodAll_cons_mk (shut_int Try.underlying3 w0) (trodAll_cons_mk (shut_int Try.underlying3 w1) trodAll_mk0)), rfl, bel.frame _, fun h => by cases h⟩

theorem over : Rows.journalNeedsRow.holds Try.pinned (OpenSpec.ofChange Rows.journalNeedsSpec) :=
  OpenClaim.holds_of_wide 3 Try.f3 rfl rfl rfl rfl rfl rfl rfl ⟨rfl, rfl, rfl, rfl, rfl⟩ rfl rfl rfl rfl rfl (by kernel_rfl) Try.func3 (by kernel_rfl)
    (of_decide_eq_true (by kernel_rfl)) (by unfold Func.isWrapper; first | (rw [if_pos (by decide +kernel)]; kernel_rfl) | (rw [if_neg (by decide +kernel)]; exact ⟨rfl, rfl⟩))
    (fun os started H enc _ => lifted os started H enc)

theorem proved : Rows.JournalNeedsSaid := over
#print axioms proved
end Go.Proofs.Ytmijngnbbpilmaa.journalNeeds

