/-
  A law of the device over the contracts. No condition.
-/
import Derived.Test.YtohkjloapfjjpaaDevLaw

section
open Go Go.Vc
namespace Go.Proofs

/-- The test of a bit of a mask. -/
theorem bit_test {H : Heap} {a : Option Addr} {len cap : Nat} {ms : Bytes} (h : SRow H 1 len (.slice a len cap) (bytesV ms)) (i : Nat) (hi : i ≤ 1000000000) {Yes No : Prop} (hy : mbit ms i = true → Yes) (hn : mbit ms i = false → No) :
    ((8 : Int) ≠ 0) ∧ ∀ q47 : Int, q47 = IntKind.wrap .i64 (Int.tdiv i 8) →
      ((((q47 : Int) < (len : Int)) →
        ((8 : Int) ≠ 0) ∧
        ∀ q48 : Int, q48 = IntKind.wrap .i64 (Int.tdiv i 8) →
        (0 : Int) ≤ q48 ∧ (q48 : Int) < (len : Int) ∧ ∃ b49 o50 : Nat, a = some (⟨b49, o50, none⟩ : Addr) ∧
        ∃ n51 : Int, hcell H b49 (o50 + (Int.toNat q48)) = some (.int .u8 n51) ∧
        ((8 : Int) ≠ 0) ∧
        ∀ q52 : Int, q52 = Int.tmod i 8 →
        ((0 : Int) ≤ q52) ∧
        ∀ q53 : Int, q53 = Int.fdiv n51 (2 ^ (min q52.toNat (IntKind.bits .u8))) →
        ∀ q54 : Int, q54 = bits .and .u8 q53 1 →
        ((((q54 : Int) = 1) → Yes) ∧ (¬ ((q54 : Int) = 1) → No))) ∧ (¬ ((q47 : Int) < (len : Int)) → No)) := by
  have hl : ms.length = len := by have := h.1; rw [bytesV_length] at this; omega
  refine ⟨by decide, fun q hq => ?_⟩
  rw [wrap_tdiv (by omega) (by decide) (by omega)] at hq
  refine ⟨fun h1 => ⟨by decide, fun q2 hq2 => ?_⟩, fun h1 => hn ?_⟩
  · rw [wrap_tdiv (by omega) (by decide) (by omega)] at hq2
    have e1 : q2.toNat = i / 8 := by omega
    obtain ⟨b, o, rfl, hc⟩ := h.get (bytesV_get ms (i / 8) (by omega))
    refine ⟨by omega, by omega, b, o, rfl, _, by rw [e1]; exact hc, by decide, fun q6 hq6 => ?_⟩
    rw [tmod_pos (by omega)] at hq6
    refine ⟨by omega, ?_⟩
    rintro _ rfl _ rfl
    rw [one_byte _ q6 (by omega) (by omega), show q6.toNat = i % 8 by omega]
    have e2 : mbit ms i = (ms.getD (i / 8) 0).toNat.testBit (i % 8) := by rw [mbit, decide_eq_true (by omega)]; simp
    exact ⟨fun h3 => hy (by rw [e2]; exact h3), fun h3 => hn (by rw [e2]; simpa using h3)⟩
  · rw [mbit, decide_eq_false (by omega)]; rfl

/-- What a crash would keep, or a flush. -/
def lays (ms : Bytes) (b : Bool) (D : Dev) : List Bytes := if b then D.now else crashL ms D.pend 0 D.kept

theorem lays_snoc (ms : Bytes) (b : Bool) (D : Dev) (w : Int × Bytes) (n : Int) : lays ms b { D with pend := D.pend ++ [w], works := n } = if b = true ∨ mbit ms D.pend.length = true then (lays ms b D).set w.1.toNat w.2 else lays ms b D := by
  unfold lays
  cases b
  · simp only [Bool.false_eq_true, if_false, false_or]
    rw [crashL_snoc, Nat.zero_add]
  · simp only [if_true, true_or, Dev.now]
    rw [laid_snoc]

/-- What the law follows. -/
structure Sub (H0 H : Heap) (F : Nat → Prop) (pd : Nat) (D : Dev) (B : Nat) (ms : Bytes) (b : Bool) (b8 : Nat) (want : List UInt8) : Prop where
  dev : DevIn H0 H F pd D 9 B
  fine : Fine D
  len : want.length = 9
  lays : lays ms b D = want.map blockB
  blk : Blk H b8 (bytesV want)
  out : ¬ F b8

theorem Sub.more {H0 H H' : Heap} {F : Nat → Prop} {pd : Nat} {D : Dev} {B : Nat} {ms : Bytes} {b : Bool} {b8 : Nat} {want : List UInt8} (h : Sub H0 H F pd D B ms b b8 want) (hx : Ext [] H H') : Sub H0 H' F pd D B ms b b8 want :=
  ⟨h.dev.more hx, h.fine, h.len, h.lays, h.blk.ext hx (by simp), h.out⟩

set_option maxHeartbeats 1000000 in
theorem dsubsets_law (H : Heap) (a : Option Addr) (len cap : Nat) (z : List (List Value)) (hl : z.length = len) (_ : len ≤ maxLen) (hs : SRow H 4 len (.slice a len cap) z.flatten) (hw : ∀ r ∈ z, CellsIn H [.c (.i .i64), .c (.i .i64), .c (.i .i64), .y] r)
    (n0 : Int) (_ : (Lit.int .i64 n0).wf = true) (am : Option Addr) (lm cm : Nat) (ms : List UInt8) (_ : ms.length = lm) (_ : lm ≤ maxLen) (hsm : SRow H 1 lm (.slice am lm cm) (bytesV ms)) :
    Does Try.prog 3 [.slice a len cap, .int .i64 n0, .slice am lm cm] H fun v H' => v = .bool true ∧ Ext [] H H' := by
  refine Fn_of_vc Try.mixed (vc_dsubsets _ _ _ _ _ _ _ _ _) ?_
  refine (dnew_ok 9 H).mono ?_
  rintro _ H2 ⟨hx2, ⟨h1, _⟩ | ⟨_, pd, rfl, hd2⟩⟩
  · omega
  have hn2 : ∀ {x : Addr}, ¬ ((some x : Option Addr) = none) := by intro x e; cases e
  have d2 : DevIn H H2 (grow none_ H H2) pd (newD 9) 9 0 := ⟨hd2, newWf (by decide), fun i hi => (grow_low i hi).1, hx2⟩
  refine ⟨_, _, rfl, (known4_ok H2).mono ?_⟩
  rintro _ H6 ⟨rfl, hx6⟩
  have d6 := d2.more hx6
  refine ⟨_, rfl, fun e => (by cases e), fun _ => ⟨fun e => absurd rfl e, fun _ => ⟨fun e => absurd e hn2, fun _ => ?_⟩⟩⟩
  intro b8 H9 hn9
  have e8 := hn9.eq
  have d9 := d6.more hn9.ext
  have h6s := d6.ext.size
  refine ⟨⟨by omega, by omega⟩, (pick_ok n0 (min (len : Int) 40 + 1) H9 (by omega) (by omega)).mono ?_⟩
  rintro _ _ ⟨rfl, rfl⟩
  have p0 := Int.emod_nonneg n0 (show (min (len : Int) 40 + 1) ≠ 0 by omega)
  have p1 := Int.emod_lt_of_pos n0 (show (0 : Int) < min (len : Int) 40 + 1 by omega)
  obtain ⟨f, hf⟩ : ∃ f : Nat, n0 % (min (len : Int) 40 + 1) = f := ⟨_, (Int.toNat_of_nonneg p0).symm⟩
  obtain ⟨n, hn⟩ : ∃ n : Nat, min (len : Int) 40 = n := ⟨min len 40, by omega⟩
  have hnl : n ≤ len ∧ n ≤ 40 ∧ f ≤ n := by omega
  rw [hf, hn]
  have j0 : Sub H H9 _ pd (newD 9) 0 ms (decide (f < n ∧ 0 ≤ f)) b8 (List.replicate 9 0) := ⟨d9, ⟨rfl, rfl⟩, rfl, by unfold lays; split <;> rfl, hn9.blk, fun hF => by
    have := d6.dev.lt _ hF
    omega⟩
  refine ⟨_, rfl, fun t i H' => ∃ j : Nat, i = j ∧ j ≤ n ∧ ∃ F D want, t = (D.pend.length : Int) ∧ Sub H H' F pd D (2 * j) ms (decide (f < n ∧ j ≤ f)) b8 want, fun _ i _ => n - i.toNat, ⟨0, rfl, Nat.zero_le _, _, _, _, rfl, j0⟩, ?_⟩
  rintro t _ H17 ⟨j, rfl, hj, F, D, want, rfl, hd⟩
  refine ⟨fun h1 => ?_, fun h1 => ?_⟩
  · have hj0 : (0 : Int) ≤ j := by omega
    refine ⟨fun t H' => ∃ F D want, t = (D.pend.length : Int) ∧ Sub H H' F pd D (2 * j + 1) ms (decide (f < n ∧ j < f)) b8 want, ⟨fun h2 => ?_, fun h2 => ⟨F, D, want, rfl, ?_⟩⟩, ?_⟩
    · have hfj : j = f := by omega
      refine (dflush_ok hd.dev.dev hd.dev.wf (by omega)).mono ?_
      rintro _ H20 ⟨rfl, hd20, hx20⟩
      have d20 := hd.dev.step hd20 hx20 (flushWf hd.dev.wf)
      rw [flush_good hd.fine.1 hd.fine.2] at d20 ⊢
      have e1 := hd.lays
      rw [decide_eq_true (by omega)] at e1
      refine ⟨_, rfl, fun e => absurd rfl e, fun _ => ⟨_, _, want, rfl, d20, hd.fine, hd.len, ?_, hd.blk.extP hx20 hd.out, not_grow hd.out hd.blk.lt⟩⟩
      rw [decide_eq_false (by omega)]
      exact e1
    · have e2 : decide (f < n ∧ j < f) = decide (f < n ∧ j ≤ f) := by
        have : (f < n ∧ j < f) ↔ (f < n ∧ j ≤ f) := by omega
        simp only [this]
      rw [e2]
      exact ⟨⟨hd.dev.dev, hd.dev.wf.up (by omega), hd.dev.low, hd.dev.ext⟩, hd.fine, hd.len, hd.lays, hd.blk, hd.out⟩
    · rintro _ H23 ⟨F, D, want, rfl, hd⟩
      have hpf := hd.dev.wf.pfew
      obtain ⟨b, o, x, y, zz, p, l, c, xs, rfl, c0, c1, c2, _, _, _, _⟩ := stepY_at hl hs hw j (by omega)
      refine ⟨hj0, by omega, b, o, rfl, y, hcell_ext c1 hd.dev.ext (by simp), (pick_ok y 9 H23 (by decide) (by decide)).mono ?_⟩
      rintro _ _ ⟨rfl, rfl⟩
      have p0 := Int.emod_nonneg y (show (9 : Int) ≠ 0 by decide)
      have p1 := Int.emod_lt_of_pos y (show (0 : Int) < 9 by decide)
      generalize y % 9 = k at *
      refine ⟨_, rfl, hj0, by omega, b, o, rfl, zz, hcell_ext c2 hd.dev.ext (by simp), (pick_ok zz 255 H23 (by decide) (by decide)).mono ?_⟩
      rintro _ _ ⟨rfl, rfl⟩
      refine ⟨_, rfl, ⟨by omega, by omega⟩, ?_⟩
      rintro _ rfl
      generalize 1 + zz % 255 = vv
      refine (block_wrap vv H23).mono ?_
      rintro _ H38 ⟨b37, rfl, ho37, hx38, hf37⟩
      have d38 := hd.more hx38
      refine ⟨_, _, _, rfl, (dwrite_ok d38.dev.dev d38.dev.wf (by omega) k (hd.dev.fresh ho37 (by simpa [blkOf] using hf37))).mono ?_⟩
      rintro _ H43 ⟨rfl, hd43, hx43⟩
      have d43 := d38.dev.step hd43 hx43 (writeWf d38.dev.wf _ _)
      rw [write_good (by omega) (blockB_length _) hd.fine.1 hd.fine.2] at d43 ⊢
      have hb43 := d38.blk.extP hx43 hd.out
      have hF43 := not_grow (H' := H43) hd.out d38.blk.lt
      have hl43 := lays_snoc ms (decide (f < n ∧ j < f)) D (k, blockB (UInt8.ofNat (vv % 256).toNat)) (D.works + 1)
      have hm43 : SRow H43 1 lm (.slice am lm cm) (bytesV ms) := hsm.ext d43.ext (by simp)
      refine ⟨_, rfl, fun e => absurd rfl e, fun _ => ⟨fun H' => ∃ want', Sub H H' (grow F H38 H43) pd { D with pend := D.pend ++ [(k, blockB (UInt8.ofNat (vv % 256).toNat))], works := D.works + 1 } (2 * j + 2) ms (decide (f < n ∧ j < f)) b8 want', ?_, ?_⟩⟩
      · have put : (decide (f < n ∧ j < f) = true ∨ mbit ms D.pend.length = true) → (0 : Int) ≤ k ∧ (k : Int) < (9 : Nat) ∧ (Cells H43 b8 (0 + (Int.toNat k)) 1 ∧ ∀ H46 : Heap, Puts H43 b8 (0 + (Int.toNat k)) [(.int .u8 (IntKind.wrap .u8 vv))] H46 →
            ∃ want', Sub H H46 (grow F H38 H43) pd { D with pend := D.pend ++ [(k, blockB (UInt8.ofNat (vv % 256).toNat))], works := D.works + 1 } (2 * j + 2) ms (decide (f < n ∧ j < f)) b8 want') := fun hc => by
          have hwl := hd.len
          refine ⟨p0, by omega, hb43.cells 1 _ (by rw [bytesV_length]; omega), fun H47 hp => ?_⟩
          have hb47 := hp.blk hb43 (by rw [bytesV_length, List.length_singleton]; omega)
          have hx47 := hp.ext
          rw [splice_one _ _ _ (by rw [bytesV_length]; omega), Nat.zero_add, u8_wrap, ← u8_of, ← bytesV_set] at hb47
          refine ⟨want.set k.toNat (UInt8.ofNat (vv % 256).toNat), ⟨d43.dev.ext hx47.toP (by intro i hi; simp only [List.mem_singleton]; rintro rfl; exact hF43 hi), d43.wf, d43.low, d43.ext.trans' hx47 (by intro i hi; simp only [List.mem_singleton] at hi; omega)⟩, hd.fine, by rw [List.length_set]; exact hwl, ?_, hb47, hF43⟩
          rw [hl43, if_pos hc, hd.lays, List.map_set]
        have nop : ¬ (decide (f < n ∧ j < f) = true ∨ mbit ms D.pend.length = true) →
            ∃ want', Sub H H43 (grow F H38 H43) pd { D with pend := D.pend ++ [(k, blockB (UInt8.ofNat (vv % 256).toNat))], works := D.works + 1 } (2 * j + 2) ms (decide (f < n ∧ j < f)) b8 want' := fun hc =>
          ⟨want, d43, hd.fine, hd.len, by rw [hl43, if_neg hc, hd.lays], hb43, hF43⟩
        refine ⟨fun h3 => ⟨fun h4 => put (.inl (by rw [decide_eq_true_eq]; omega)), fun h4 => ⟨fun h5 => by omega, fun h5 => ?_⟩⟩, fun h3 => ⟨fun h4 => ?_, fun h4 => by omega⟩⟩
        · have hne : decide (f < n ∧ j < f) = false := decide_eq_false (by omega)
          exact ⟨fun h6 => bit_test hm43 _ (by omega) (fun h => put (.inr h)) (fun h => nop (by rw [hne, h]; simp)), fun h6 => by omega⟩
        · have hne : decide (f < n ∧ j < f) = false := decide_eq_false (by omega)
          have no2 : ∀ {P No : Prop}, (¬ (decide (f < n ∧ j < f) = true ∨ mbit ms D.pend.length = true) → No) → mbit ms D.pend.length = false → (((n : Int) ≤ f → P) ∧ (¬ ((n : Int) ≤ f) → No)) := fun nop h => ⟨fun h6 => by omega, fun _ => nop (by rw [hne, h]; simp)⟩
          exact bit_test hm43 _ (by omega) (fun h => put (.inr h)) (fun h => no2 nop h)
      · rintro H48 ⟨want', hd'⟩
        exact ⟨⟨by omega, by omega⟩, ⟨by omega, by omega⟩, ⟨j + 1, by omega, by omega, grow F H38 H43, { D with pend := D.pend ++ [(k, blockB (UInt8.ofNat (vv % 256).toNat))], works := D.works + 1 }, want', by
          simp only [List.length_append, List.length_singleton]; omega, hd'⟩, by dsimp only; omega⟩
  · have hjn : j = n := by omega
    subst hjn
    have hml := hd.lays
    rw [decide_eq_false (by omega)] at hml
    refine (dcrash_ok hd.dev.dev hd.dev.wf (by omega) (KeptB.old hsm hd.dev.ext hd.dev.low)).mono ?_
    rintro _ H21 ⟨rfl, hd21, hx21⟩
    have d21 := hd.dev.step hd21 hx21 (crashWf hd.dev.wf ms)
    have b21 := hd.blk.extP hx21 hd.out
    have hnow : (crashD D ms).now = want.map blockB := hml
    have hde : (crashD D ms).dead = false := rfl
    generalize crashD D ms = D' at *
    have hwl := hd.len
    refine ⟨rfl, fun i H' => ∃ q : Nat, i = q ∧ q ≤ 9 ∧ Ext [] H21 H', fun i _ => 9 - i.toNat, ⟨0, rfl, by decide, Ext.refl _ _⟩, ?_⟩
    rintro _ H52 ⟨q, rfl, hq, hx52⟩
    have d52 := d21.more hx52
    refine ⟨fun h3 => (dread_ok d52.dev d52.wf q).mono ?_, fun h3 => ⟨rfl, d52.ext⟩⟩
    rintro _ H54 ⟨hx54, ⟨h4, _⟩ | ⟨_, h4, _⟩ | ⟨_, _, a55, c57, xs', e55, rfl, ho55, _⟩⟩
    · exact absurd (by omega) h4
    · rw [hde] at h4; cases h4
    have hwq : xs' = blockB (want.getD q 0) := by
      rw [hnow, Int.toNat_natCast, List.getElem?_map, List.getElem?_eq_getElem (by omega)] at e55
      simp only [Option.map_some, Option.some.injEq] at e55
      rw [← e55, List.getD_eq_getElem?_getD, List.getElem?_eq_getElem (by omega)]
      rfl
    have hb54 := b21.ext (hx52.trans hx54) (by simp)
    refine ⟨_, _, _, _, rfl, fun e => absurd rfl e, fun _ => ⟨xs', ho55.row _ _, by omega, by omega, _, ?_, (block_ok (want.getD q 0) H54).mono ?_⟩⟩
    · rw [hb54.cell, Nat.zero_add, Int.toNat_natCast]
      exact bytesV_get _ _ (by omega)
    · rintro _ H62 ⟨b63, rfl, ho63, hx62, _⟩
      refine ⟨_, _, _, rfl, (ho55.ext hx62 (by simp)).row _ _, blockB (want.getD q 0), ho63.row _ _, fun e => absurd (ba_inj.2 hwq) e, fun _ => ⟨⟨by omega, by omega⟩, ⟨q + 1, by omega, by omega, hx52.trans (hx54.trans hx62)⟩, by dsimp only; omega⟩⟩
end Go.Proofs
end

