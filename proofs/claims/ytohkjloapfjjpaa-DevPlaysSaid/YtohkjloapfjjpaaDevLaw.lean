/-
  Laws of the device over the contracts. No condition.
-/
import Derived.Test.YtohkjloapfjjpaaDev
import Derived.Test.YtohkjloapfjjpaaVc

section
open Go Go.Vc
namespace Go.Proofs

theorem u8_wrap (n : Int) : IntKind.wrap .u8 n = n % 256 := by
  simp only [IntKind.wrap, IntKind.bits, IntKind.signed]
  simp

/-- A byte's number and the byte. -/
theorem u8_of (n : Int) : ((UInt8.ofNat (n % 256).toNat).toNat : Int) = n % 256 := by
  rw [UInt8.toNat_ofNat', Nat.mod_eq_of_lt (by omega)]
  omega

theorem block_wrap (n : Int) (H : Heap) : Does Try.prog 18 [.int .u8 (IntKind.wrap .u8 n)] H fun v H' => ∃ b, v = .slice (some ⟨b, 0, none⟩) 128 128 ∧ Own H' 1 (some ⟨b, 0, none⟩) 128 128 (bytesV (blockB (UInt8.ofNat (n % 256).toNat))) ∧ Ext [] H H' ∧ H.size ≤ b := by
  rw [u8_wrap]
  exact block_arg (n % 256) (by omega) (by omega) H

/-- A step's cells. -/
theorem stepY_at {H : Heap} {a : Option Addr} {len cap : Nat} {rows : List (List Value)} (hl : rows.length = len) (hs : SRow H 4 len (.slice a len cap) rows.flatten) (hw : ∀ r ∈ rows, CellsIn H [.c (.i .i64), .c (.i .i64), .c (.i .i64), .y] r) (i : Nat) (hi : i < len) :
    ∃ b o x y z p l c xs, a = some ⟨b, o, none⟩ ∧ hcell H b (o + i * 4) = some (.int .i64 x) ∧ hcell H b ((o + i * 4) + 1) = some (.int .i64 y) ∧ hcell H b ((o + i * 4) + 2) = some (.int .i64 z) ∧ hcell H b ((o + i * 4) + 3) = some (.slice p l c) ∧
      SRow H 1 l (.slice p l c) (bytesV xs) ∧ xs.length = l ∧ l ≤ maxLen := by
  have hr : rows[i]? = some (rows[i]'(by omega)) := List.getElem?_eq_getElem (by omega)
  have hc := hw _ (List.getElem_mem (show i < rows.length by omega))
  have hlen : ∀ r ∈ rows, r.length = 4 := fun r hr => (hw r hr).length
  generalize rows[i]'(by omega) = r at *
  have h0 := flatten_at (j := 0) hlen hr (by decide)
  have h1 := flatten_at (j := 1) hlen hr (by decide)
  have h2 := flatten_at (j := 2) hlen hr (by decide)
  have h3 := flatten_at (j := 3) hlen hr (by decide)
  match r, hc with
  | [.int k z0, .int k1 z1, .int k2 z2, v], hc =>
    obtain ⟨⟨rfl, _⟩, ⟨rfl, _⟩, ⟨rfl, _⟩, ⟨p, l, c, xs, rfl, q1, q2, q3⟩, _⟩ := hc
    obtain ⟨b, o, rfl, c0⟩ := hs.at (h0.trans rfl)
    obtain ⟨b1, o1, e1, c1⟩ := hs.at (h1.trans rfl)
    obtain ⟨b2, o2, e2, c2⟩ := hs.at (h2.trans rfl)
    obtain ⟨b3, o3, e3, c3⟩ := hs.at (h3.trans rfl)
    cases e1
    cases e2
    cases e3
    exact ⟨b, o, z0, z1, z2, p, l, c, xs, rfl, c0, c1, c2, c3, q3, q1, q2⟩

/-- A device that goes well. -/
def Fine (D : Dev) : Prop := D.fuse = -1 ∧ D.dead = false

theorem dreads_law (H : Heap) (a : Option Addr) (len cap : Nat) (z : List (List Value)) (hl : z.length = len) (_ : len ≤ maxLen) (hs : SRow H 4 len (.slice a len cap) z.flatten) (hw : ∀ r ∈ z, CellsIn H [.c (.i .i64), .c (.i .i64), .c (.i .i64), .y] r) :
    Does Try.prog 4 [.slice a len cap] H fun v H' => v = .bool true ∧ Ext [] H H' := by
  refine Fn_of_vc Try.mixed (vc_dreads _ _ _ _ _) ?_
  refine (dnew_ok 12 H).mono ?_
  rintro _ H2 ⟨hx2, ⟨h1, _⟩ | ⟨_, pd, rfl, hd2⟩⟩
  · omega
  have hn2 : ∀ {x : Addr}, ¬ ((some x : Option Addr) = none) := by intro x e; cases e
  have d2 : DevIn H H2 (grow none_ H H2) pd (newD 12) 12 0 := ⟨hd2, newWf (by decide), fun i hi => (grow_low i hi).1, hx2⟩
  refine ⟨_, _, rfl, (known4_ok H2).mono ?_⟩
  rintro _ H6 ⟨rfl, hx6⟩
  have d6 := d2.more hx6
  refine ⟨_, rfl, fun e => (by cases e), fun _ => ⟨fun e => absurd rfl e, fun _ => ⟨fun e => absurd e hn2, fun _ => ?_⟩⟩⟩
  intro b8 H9 hn9
  have e8 := hn9.eq
  have d9 := d6.more hn9.ext
  let J : Nat → Heap → Prop := fun j H' => ∃ F D want, DevIn H H' F pd D 12 j ∧ Fine D ∧ want.length = 12 ∧ D.now = want.map blockB ∧ Blk H' b8 (bytesV want) ∧ ¬ F b8
  have hb9 : b8 < H9.size := hn9.blk.lt
  have h6s := d6.ext.size
  have j0 : J 0 H9 := ⟨_, newD 12, List.replicate 12 0, d9, ⟨rfl, rfl⟩, rfl, rfl, hn9.blk, fun hF => by
    have := d6.dev.lt _ hF
    omega⟩
  refine ⟨fun i H' => ∃ j : Nat, i = j ∧ j ≤ len ∧ j ≤ 40 ∧ J j H', fun i _ => len - i.toNat, ⟨0, rfl, Nat.zero_le _, Nat.zero_le _, j0⟩, ?_⟩
  rintro _ H13 ⟨j, rfl, hj, hj40, F, D, want, hd, ⟨hf1, hf2⟩, hwl, hnow, hb8, hF8⟩
  refine ⟨fun h1 => ⟨fun h2 => ?_, fun h2 => ⟨rfl, hd.ext⟩⟩, fun h1 => ⟨rfl, hd.ext⟩⟩
  obtain ⟨b, o, x, y, zz, p, l, c, xs, rfl, c0, c1, c2, _, _, _, _⟩ := stepY_at hl hs hw j (by omega)
  have hj0 : (0 : Int) ≤ j := by omega
  refine ⟨hj0, h1, b, o, rfl, y, hcell_ext c1 hd.ext (by simp), (pick_ok y 12 H13 (by decide) (by decide)).mono ?_⟩
  rintro _ _ ⟨rfl, rfl⟩
  have p0 := Int.emod_nonneg y (show (12 : Int) ≠ 0 by decide)
  have p1 := Int.emod_lt_of_pos y (show (0 : Int) < 12 by decide)
  generalize y % 12 = k at *
  refine ⟨_, rfl, fun H' => J (j + 1) H', ⟨hj0, h1, b, o, rfl, x, hcell_ext c0 hd.ext (by simp), by decide, fun q _ => ⟨fun _ => ?_, fun _ => ?_⟩⟩, ?_⟩
  · refine (dflush_ok hd.dev hd.wf (by omega)).mono ?_
    rintro _ H26 ⟨rfl, hd26, hx26⟩
    have d26 := hd.step hd26 hx26 (flushWf hd.wf)
    rw [flush_good hf1 hf2] at d26 ⊢
    refine ⟨_, rfl, fun e => absurd rfl e, fun _ => (dpending_ok d26.dev).mono ?_⟩
    rintro _ _ ⟨rfl, rfl⟩
    refine ⟨_, rfl, fun e => absurd rfl e, fun _ => ⟨_, _, want, d26, ⟨hf1, hf2⟩, hwl, hnow, hb8.extP hx26 hF8, fun hF => ?_⟩⟩
    rcases hF with hF | hF
    · exact hF8 hF
    · have := hb8.lt; omega
  · refine ⟨hj0, h1, b, o, rfl, zz, hcell_ext c2 hd.ext (by simp), ?_⟩
    rintro _ rfl
    refine (block_wrap zz H13).mono ?_
    rintro _ H36 ⟨b37, rfl, ho37, hx36, hf37⟩
    have d36 := hd.more hx36
    refine ⟨_, _, _, rfl, (dwrite_ok d36.dev d36.wf (by omega) k (hd.fresh ho37 (by simpa [blkOf] using hf37))).mono ?_⟩
    rintro _ H41 ⟨rfl, hd41, hx41⟩
    have d41 := d36.step hd41 hx41 (writeWf d36.wf _ _)
    rw [write_good (by omega) (blockB_length _) hf1 hf2] at d41 ⊢
    have hb36 := hb8.ext hx36 (by simp)
    have hb41 := hb36.extP hx41 hF8
    have hF41 : ¬ grow F H36 H41 b8 := fun hF => by
      rcases hF with hF | hF
      · exact hF8 hF
      · have := hb36.lt; omega
    refine ⟨_, rfl, fun e => absurd rfl e, fun _ => ⟨hj0, h1, b, o, rfl, zz, hcell_ext c2 d41.ext (by simp), ?_⟩⟩
    rintro _ rfl
    refine ⟨p0, by omega, hb41.cells 1 _ (by rw [bytesV_length]; omega), fun H47 hp => ?_⟩
    have hb47 := hp.blk hb41 (by rw [bytesV_length, List.length_singleton]; omega)
    have hx47 := hp.ext
    rw [splice_one _ _ _ (by rw [bytesV_length]; omega), Nat.zero_add, u8_wrap, ← u8_of, ← bytesV_set] at hb47
    refine ⟨_, _, want.set k.toNat (UInt8.ofNat (zz % 256).toNat), ⟨d41.dev.ext hx47.toP (by intro i hi; simp only [List.mem_singleton]; rintro rfl; exact hF41 hi), d41.wf, d41.low, d41.ext.trans' hx47 (by intro i hi; simp only [List.mem_singleton] at hi; omega)⟩, ⟨hf1, hf2⟩, by rw [List.length_set]; exact hwl, ?_, hb47, hF41⟩
    show laid D.kept (D.pend ++ _) = _
    rw [laid_snoc, List.map_set, ← hnow]
    rfl
  · rintro H48 ⟨F', D', want', hd', hfine', hwl', hnow', hb8', hF8'⟩
    refine ⟨fun i H' => ∃ q : Nat, i = q ∧ q ≤ 12 ∧ Ext [] H48 H', fun i _ => 12 - i.toNat, ⟨0, rfl, by decide, Ext.refl _ _⟩, ?_⟩
    rintro _ H52 ⟨q, rfl, hq, hx52⟩
    have d52 := hd'.more hx52
    refine ⟨fun h3 => (dread_ok d52.dev d52.wf q).mono ?_, fun h3 => ⟨⟨by omega, by omega⟩, ⟨j + 1, by omega, by omega, by omega, F', D', want', d52, hfine', hwl', hnow', hb8'.ext hx52 (by simp), hF8'⟩, by dsimp only; omega⟩⟩
    rintro _ H54 ⟨hx54, ⟨h4, _⟩ | ⟨_, h4, _⟩ | ⟨_, _, a55, c57, xs', e55, rfl, ho55, _⟩⟩
    · exact absurd (by omega) h4
    · rw [hfine'.2] at h4; cases h4
    have hwq : xs' = blockB (want'.getD q 0) := by
      rw [hnow', Int.toNat_natCast, List.getElem?_map, List.getElem?_eq_getElem (by omega)] at e55
      simp only [Option.map_some, Option.some.injEq] at e55
      rw [← e55, List.getD_eq_getElem?_getD, List.getElem?_eq_getElem (by omega)]
      rfl
    have hb54 := hb8'.ext (hx52.trans hx54) (by simp)
    refine ⟨_, _, _, _, rfl, fun e => absurd rfl e, fun _ => ⟨xs', ho55.row _ _, by omega, by omega, _, ?_, (block_ok (want'.getD q 0) H54).mono ?_⟩⟩
    · rw [hb54.cell, Nat.zero_add, Int.toNat_natCast]
      exact bytesV_get _ _ (by omega)
    · rintro _ H62 ⟨b63, rfl, ho63, hx62, _⟩
      refine ⟨_, _, _, rfl, (ho55.ext hx62 (by simp)).row _ _, blockB (want'.getD q 0), ho63.row _ _, fun e => absurd (ba_inj.2 hwq) e, fun _ => ⟨⟨by omega, by omega⟩, ⟨q + 1, by omega, by omega, hx52.trans (hx54.trans hx62)⟩, by dsimp only; omega⟩⟩

end Go.Proofs
end

section
open Go Go.Vc
namespace Go.Proofs

theorem crashL_nil : ∀ (p : List (Int × Bytes)) (i : Nat) (kept : List Bytes), crashL [] p i kept = kept
  | [], _, _ => rfl
  | w :: r, i, kept => by
    rw [crashL, crashL_nil r]
    have : mbit [] i = false := by simp [mbit]
    rw [this]; rfl

theorem keptB_nil (F : Nat → Prop) (H : Heap) : KeptB F H none 0 0 [] := fun _ _ => ⟨rfl, rfl⟩

/-- A device whose fuse burns: 'i' works were tried since it was lit. -/
structure Burns (D : Dev) (n i : Nat) : Prop where
  fuse : D.fuse = ((n - min i n : Nat) : Int)
  dead : D.dead = decide (n < i)
  works : D.works = 2 + ((min i n : Nat) : Int)

theorem Burns.wk {D : Dev} {n i : Nat} (h : Burns D n i) : Burns (wk D).1 n (i + 1) ∧ (wk D).2 = decide (i < n) := by
  obtain ⟨h1, h2, h3⟩ := h
  unfold Proofs.wk
  by_cases hi : i < n
  · rw [if_neg (by
      rintro (h4 | h4)
      · omega
      · rw [h2] at h4; have := of_decide_eq_true h4; omega), if_pos (by omega)]
    refine ⟨⟨?_, ?_, ?_⟩, (decide_eq_true hi).symm⟩
    · simp only; omega
    · simp only; rw [h2, decide_eq_false (by omega), decide_eq_false (by omega)]
    · simp only; omega
  · rw [if_pos (.inl (by omega))]
    refine ⟨⟨?_, ?_, ?_⟩, (decide_eq_false hi).symm⟩
    · simp only; omega
    · simp only; rw [decide_eq_true (by omega)]
    · simp only; omega

/-- Block 0 stays. -/
def Zero (D : Dev) (b : Bytes) : Prop := D.kept[0]? = some b ∧ ∀ w ∈ D.pend, 1 ≤ w.1

theorem Zero.now {D : Dev} {b : Bytes} (h : Zero D b) : D.now[0]? = some b := by
  have := laid_none (k := 0) (by decide) D.pend D.kept (fun w hw => by have := h.2 w hw; omega)
  exact this.trans h.1

theorem Burns.flush {D : Dev} {n i : Nat} {b : Bytes} (h : Burns D n i) (hz : Zero D b) : Burns (flushD D).1 n (i + 1) ∧ Zero (flushD D).1 b ∧ (flushD D).2 = if i < n then 0 else 4 := by
  obtain ⟨h1, h2⟩ := h.wk
  have hk := wk_kept D
  unfold flushD
  rw [h2]
  by_cases hi : i < n
  · rw [if_pos (by simpa using hi), if_pos hi]
    exact ⟨⟨h1.fuse, h1.dead, h1.works⟩, ⟨hz.now, by simp⟩, rfl⟩
  · rw [if_neg (by simpa using hi), if_neg hi]
    exact ⟨h1, ⟨by rw [hk.1]; exact hz.1, by rw [hk.2]; exact hz.2⟩, rfl⟩

theorem Burns.write {D : Dev} {n i m : Nat} {b x : Bytes} {k : Int} (h : Burns D n i) (hz : Zero D b) (hk : 1 ≤ k ∧ k < m) (hx : x.length = 128) : Burns (writeD D m k x).1 n (i + 1) ∧ Zero (writeD D m k x).1 b ∧ (writeD D m k x).2 = if i < n then 0 else 4 := by
  obtain ⟨h1, h2⟩ := h.wk
  have hwk := wk_kept D
  unfold writeD
  rw [if_neg (by omega), h2]
  by_cases hi : i < n
  · rw [if_pos (by simpa using hi), if_pos hi]
    refine ⟨⟨h1.fuse, h1.dead, h1.works⟩, ⟨by simp only [hwk.1]; exact hz.1, fun w hw => ?_⟩, rfl⟩
    rcases List.mem_append.1 hw with hw | hw
    · exact hz.2 w hw
    · simp only [List.mem_singleton] at hw; subst hw; exact hk.1
  · rw [if_neg (by simpa using hi), if_neg hi]
    exact ⟨h1, ⟨by rw [hwk.1]; exact hz.1, by rw [hwk.2]; exact hz.2⟩, rfl⟩

theorem dfuses_law (H : Heap) (n0 : Int) (_ : (Lit.int .i64 n0).wf = true) (a : Option Addr) (len cap : Nat) (z : List Int) (hl : z.length = len) (_ : len ≤ maxLen) (hs : SRow H 1 len (.slice a len cap) (z.map fun n => .int .i64 n)) (_ : ∀ n ∈ z, (Lit.int .i64 n).wf = true) :
    Does Try.prog 6 [.int .i64 n0, .slice a len cap] H fun v H' => v = .bool true ∧ Ext [] H H' := by
  refine Fn_of_vc Try.mixed (vc_dfuses _ _ _ _ _ _) ?_
  refine (dnew_ok 10 H).mono ?_
  rintro _ H2 ⟨hx2, ⟨h1, _⟩ | ⟨_, pd, rfl, hd2⟩⟩
  · omega
  have hn2 : ∀ {x : Addr}, ¬ ((some x : Option Addr) = none) := by intro x e; cases e
  have d2 : DevIn H H2 (grow none_ H H2) pd (newD 10) 10 0 := ⟨hd2, newWf (by decide), fun i hi => (grow_low i hi).1, hx2⟩
  refine ⟨_, _, rfl, (known4_ok H2).mono ?_⟩
  rintro _ H6 ⟨rfl, hx6⟩
  have d6 := d2.more hx6
  refine ⟨_, rfl, fun e => (by cases e), fun _ => ⟨fun e => absurd rfl e, fun _ => ⟨fun e => absurd e hn2, fun _ => (block_arg 9 (by decide) (by decide) H6).mono ?_⟩⟩⟩
  rintro _ H9 ⟨b10, rfl, ho10, hx9, hf10⟩
  have d9 := d6.more hx9
  refine ⟨_, _, _, rfl, (dwrite_ok d9.dev d9.wf (by decide) 0 (d6.fresh ho10 (by simpa [blkOf] using hf10))).mono ?_⟩
  rintro _ H14 ⟨rfl, hd14, hx14⟩
  have d14 := d9.step hd14 hx14 (writeWf d9.wf _ _)
  rw [write_good (by decide) (blockB_length _) rfl rfl] at d14 ⊢
  refine ⟨_, rfl, fun e => absurd rfl e, fun _ => (dflush_ok d14.dev d14.wf (by decide)).mono ?_⟩
  rintro _ H17 ⟨rfl, hd17, hx17⟩
  have d17 := d14.step hd17 hx17 (flushWf d14.wf)
  rw [flush_good rfl rfl] at d17 ⊢
  refine ⟨_, rfl, fun e => absurd rfl e, fun _ => (pick_ok n0 12 H17 (by decide) (by decide)).mono ?_⟩
  rintro _ _ ⟨rfl, rfl⟩
  obtain ⟨n, hn⟩ : ∃ n : Nat, n0 % 12 = n := ⟨(n0 % 12).toNat, by omega⟩
  have hn12 : n < 12 := by omega
  rw [hn]
  refine ⟨_, rfl, (dfuse_ok d17.dev n).mono ?_⟩
  rintro _ H23 ⟨rfl, hd23, hx23⟩
  have hmax : max (n : Int) (-1) = n := by omega
  rw [hmax] at hd23
  have nine : blockB (UInt8.ofNat (9 : Int).toNat) = blockB 9 := rfl
  let J : Nat → Heap → Prop := fun i H' => ∃ F D B, DevIn H H' F pd D 10 B ∧ B ≤ 5 + i ∧ Burns D n i ∧ Zero D (blockB 9)
  have hwf23 : (⟨_, [], (n : Int), false, _⟩ : Dev).Wf 10 2 := ⟨d17.wf.len, d17.wf.few, d17.wf.size, d17.wf.pin, d17.wf.pfew, ⟨by simp only; omega, by simp only; omega⟩, d17.wf.works⟩
  have j0 : J 0 H23 := ⟨_, _, 2, ⟨hd23, hwf23, d17.low, d17.ext.transP hx23 d17.low⟩, by decide, ⟨by show (n : Int) = ((n - min 0 n : Nat) : Int); omega, by show false = decide (n < 0); simp, by show (0 : Int) + 1 + 1 = 2 + ((min 0 n : Nat) : Int); omega⟩, ⟨rfl, by simp⟩⟩
  refine ⟨rfl, fun H' => ∃ i : Nat, i ≤ 20 ∧ J i H', ⟨fun i H' => ∃ j : Nat, i = j ∧ j ≤ len ∧ j ≤ 20 ∧ J j H', fun i _ => len - i.toNat, ⟨0, rfl, Nat.zero_le _, Nat.zero_le _, j0⟩, ?_⟩, ?_⟩
  · rintro _ H28 ⟨i, rfl, hi, hi20, hJ⟩
    refine ⟨fun h1 => ⟨fun h2 => ?_, fun h2 => ⟨i, hi20, hJ⟩⟩, fun h1 => ⟨i, hi20, hJ⟩⟩
    obtain ⟨F, D, B, hd, hB, hbu, hz⟩ := hJ
    obtain ⟨x, hx⟩ : ∃ x, z[i]? = some x := ⟨_, List.getElem?_eq_getElem (by omega)⟩
    obtain ⟨b30, o31, rfl, hc⟩ := hs.get (j := i) (u := .int .i64 x) (by simp [hx])
    refine ⟨fun f H' => f = (if i < n then 0 else 4) ∧ J (i + 1) H', ⟨by omega, h1, b30, o31, rfl, x, hcell_ext hc hd.ext (by simp), (pick_ok x 3 H28 (by decide) (by decide)).mono ?_⟩, ?_⟩
    · rintro _ _ ⟨rfl, rfl⟩
      refine ⟨_, rfl, fun _ => (dflush_ok hd.dev hd.wf (by omega)).mono ?_, fun _ => ⟨by omega, h1, b30, o31, rfl, x, hcell_ext hc hd.ext (by simp), (pick_ok x 9 H28 (by decide) (by decide)).mono ?_⟩⟩
      · rintro _ H37 ⟨rfl, hd37, hx37⟩
        obtain ⟨q1, q2, q3⟩ := hbu.flush hz
        exact ⟨_, rfl, q3, _, _, B + 1, hd.step hd37 hx37 (flushWf hd.wf), by omega, q1, q2⟩
      · rintro _ _ ⟨rfl, rfl⟩
        refine ⟨_, rfl, ⟨by omega, by omega⟩, ?_⟩
        rintro _ rfl
        refine (block_wrap i H28).mono ?_
        rintro _ H47 ⟨b48, rfl, ho48, hx47, hf48⟩
        have d47 := hd.more hx47
        refine ⟨_, _, _, rfl, (dwrite_ok d47.dev d47.wf (by omega) (1 + x % 9) (hd.fresh ho48 (by simpa [blkOf] using hf48))).mono ?_⟩
        rintro _ H52 ⟨rfl, hd52, hx52⟩
        obtain ⟨q1, q2, q3⟩ := hbu.write (m := 10) (k := 1 + x % 9) hz (by omega) (blockB_length (UInt8.ofNat ((i : Int) % 256).toNat))
        exact ⟨_, rfl, q3, _, _, B + 1, d47.step hd52 hx52 (writeWf d47.wf _ _), by omega, q1, q2⟩
    · rintro _ H55 ⟨rfl, F', D', B', hd', hB', hbu', hz'⟩
      have hde := hbu'.dead
      have hwo := hbu'.works
      have key : ∀ {H2 : Heap}, Ext [] H55 H2 → J (i + 1) H2 := fun hx => ⟨F', D', B', hd'.more hx, hB', hbu', hz'⟩
      have last : Does Try.prog 28 [(.pointer (some ⟨pd, 0, none⟩))] H55 fun v56 H57 => ∃ t58 : Bool, v56 = (.bool t58) ∧ (
          (((¬ ((t58 = true) ↔ ((n : Int) ≤ (i : Int)))) → (
            Value.bool false = .bool true ∧ Ext [] H H57)) ∧ (¬ (¬ ((t58 = true) ↔ ((n : Int) ≤ (i : Int)))) → (
            Does Try.prog 29 [(.pointer (some ⟨pd, 0, none⟩))] H57 fun v59 H60 => ∃ n61 : Int, v59 = (.int .i64 n61) ∧ (
              (In64 ((i : Int) + 1)) ∧
              (In64 (2 + (min ((i : Int) + 1) n))) ∧
              ((((n61 : Int) ≠ (2 + (min ((i : Int) + 1) n))) → (
                Value.bool false = .bool true ∧ Ext [] H H60)) ∧ (¬ ((n61 : Int) ≠ (2 + (min ((i : Int) + 1) n))) → (
                (In64 ((i : Int) + 1)) ∧
                (∃ j : Nat, (i : Int) + 1 = j ∧ j ≤ len ∧ j ≤ 20 ∧ J j H60) ∧ len - ((i : Int) + 1).toNat < len - (i : Int).toNat)))))))) := by
        refine (ddead_ok hd'.dev).mono ?_
        rintro _ _ ⟨rfl, rfl⟩
        refine ⟨_, rfl, fun e => absurd ?_ e, fun _ => (dworks_ok hd'.dev).mono ?_⟩
        · rw [hde, decide_eq_true_eq]
          omega
        · rintro _ _ ⟨rfl, rfl⟩
          exact ⟨_, rfl, ⟨by omega, by omega⟩, ⟨by omega, by omega⟩, fun e => absurd (by omega) e, fun _ => ⟨⟨by omega, by omega⟩, ⟨i + 1, by omega, by omega, by omega, key (Ext.refl _ _)⟩, by omega⟩⟩
      refine ⟨fun e => absurd ?_ e, fun _ => ⟨fun _ => ⟨fun e => absurd e ?_, fun _ => last⟩, fun _ => last⟩⟩
      · by_cases hin : i < n
        · rw [if_pos hin]; omega
        · rw [if_neg hin]; omega
      · intro e
        rename_i h5
        split at h5 <;> simp_all
  · rintro H68 ⟨i, hi20, F, D, B, hd, hB, hbu, hz⟩
    refine (dcrash_ok hd.dev hd.wf (by omega) (keptB_nil F H68)).mono ?_
    rintro _ H70 ⟨rfl, hd70, hx70⟩
    have d70 := hd.step hd70 hx70 (crashWf hd.wf [])
    have ecr : crashD D [] = ⟨D.kept, [], -1, false, D.works⟩ := by unfold crashD; rw [crashL_nil]
    rw [ecr] at d70
    refine ⟨rfl, (dread_ok d70.dev d70.wf 0).mono ?_⟩
    rintro _ H72 ⟨hx72, ⟨h4, _⟩ | ⟨_, h4, _⟩ | ⟨_, _, a71, c73, xs, e71, rfl, ho71, _⟩⟩
    · exact absurd (by decide) h4
    · cases h4
    have d72 := d70.more hx72
    have exs : xs = blockB 9 := by
      have h5 : D.kept[0]? = some xs := e71
      rw [hz.1] at h5
      exact (Option.some.inj h5).symm
    refine ⟨_, _, _, _, rfl, fun _ => ⟨xs, ho71.row _ _, (block_arg 9 (by decide) (by decide) H72).mono ?_⟩, fun e => absurd rfl e⟩
    rintro _ H79 ⟨b80, rfl, ho80, hx79, _⟩
    have d79 := d72.more hx79
    refine ⟨_, _, _, rfl, (ho71.ext hx79 (by simp)).row _ _, _, ho80.row _ _, fun _ => (ddead_ok d79.dev).mono ?_, fun e => absurd (ba_inj.2 (by rw [exs]; exact nine.symm)) e⟩
    rintro _ _ ⟨rfl, rfl⟩
    refine ⟨_, rfl, fun _ => (dflush_ok d79.dev d79.wf (by omega)).mono ?_, fun e => absurd rfl e⟩
    rintro _ H88 ⟨rfl, hd88, hx88⟩
    refine ⟨_, rfl, yes ?_, d79.ext.transP hx88 d79.low⟩
    rw [flush_good rfl rfl]

end Go.Proofs
end

section
open Go Go.Vc
namespace Go.Proofs

theorem write_bad {D : Dev} {n : Nat} {k : Int} {b : Bytes} (h : ¬ (0 ≤ k ∧ k < n) ∨ b.length ≠ 128) : writeD D n k b = (D, 1) := by
  unfold writeD
  rw [if_pos h]

theorem new_byte {F : Nat → Prop} {H0 H H' : Heap} {pd b : Nat} {D : Dev} {n B : Nat} (hd : DevIn H0 H F pd D n B) {x : UInt8} (hn : New H b [.int .u8 x.toNat] 5 H') : KeptB F H' (some ⟨b, 0, none⟩) 1 1 [x] := hd.fresh (xs := [x]) (by
    have := Own.of_new (size := 1) (len := 1) (cap := 1) hn.blk rfl (Nat.le_refl _) (by unfold maxLen; omega)
    exact this) (by intro i hi; simp only [blkOf, List.mem_singleton] at hi; have := hn.eq; omega)

theorem not_grow {F : Nat → Prop} {H H' : Heap} {i : Nat} (h : ¬ F i) (hi : i < H.size) : ¬ grow F H H' i := fun hF => by
  rcases hF with hF | hF
  · exact h hF
  · have := hF.1; omega

theorem dknown_law (H : Heap) : Does Try.prog 7 [] H fun v H' => v = .bool true ∧ Ext [] H H' := by
  refine Fn_of_vc Try.mixed (vc_dknown _ _) ?_
  refine (dnew_ok 7 H).mono ?_
  rintro _ Ha ⟨hxa, ⟨_, rfl⟩ | ⟨h1, _⟩⟩
  rotate_left
  · omega
  refine ⟨_, _, rfl, (dnew_ok 4097 Ha).mono ?_⟩
  rintro _ Hb ⟨hxb, ⟨_, rfl⟩ | ⟨h1, _⟩⟩
  rotate_left
  · omega
  refine ⟨_, _, rfl, (dnew_ok 8 Hb).mono ?_⟩
  rintro _ H2 ⟨hx2, ⟨h1, _⟩ | ⟨_, pd, rfl, hd2⟩⟩
  · omega
  have hn2 : ∀ {x : Addr}, ¬ ((some x : Option Addr) = none) := by intro x e; cases e
  have hsz := (hxa.trans hxb).size
  have d2 : DevIn H H2 (grow none_ Hb H2) pd (newD 8) 8 0 := ⟨hd2, newWf (by decide), fun i hi => by have := (grow_low i hi).1; omega, (hxa.trans hxb).trans hx2⟩
  generalize grow none_ Hb H2 = F2 at d2
  refine ⟨_, _, rfl, (known4_ok H2).mono ?_⟩
  rintro _ H3 ⟨rfl, hx3⟩
  have d3 := d2.more hx3
  refine ⟨_, rfl, fun e => (by cases e), fun _ => ⟨fun e => absurd e hn2, fun _ => (block_arg 1 (by decide) (by decide) H3).mono ?_⟩⟩
  -- out of range
  rintro _ H4 ⟨b4, rfl, ho4, hx4, hf4⟩
  have d4 := d3.more hx4
  refine ⟨_, _, _, rfl, (dwrite_ok d4.dev d4.wf (by decide) 8 (d3.fresh ho4 (by simpa [blkOf] using hf4))).mono ?_⟩
  rintro _ H5 ⟨rfl, hd5, hx5⟩
  have d5 := d4.step hd5 hx5 (writeWf d4.wf _ _)
  rw [write_bad (.inl (by decide))] at d5 ⊢
  -- too short
  refine ⟨_, rfl, fun b6 H6 hn6 => ?_⟩
  have d6 := d5.more hn6.ext
  refine (dwrite_ok d6.dev d6.wf (by decide) 0 (new_byte d5 (x := 1) hn6)).mono ?_
  rintro _ H7 ⟨rfl, hd7, hx7⟩
  have d7 := d6.step hd7 hx7 (writeWf d6.wf _ _)
  rw [write_bad (.inr (by decide))] at d7 ⊢
  refine ⟨_, rfl, (dread_ok d7.dev d7.wf (-1)).mono ?_⟩
  rintro _ H8 ⟨hx8, ⟨_, rfl⟩ | ⟨h1, _⟩ | ⟨h1, _⟩⟩
  rotate_left
  · exact absurd h1.1 (by decide)
  · exact absurd h1.1 (by decide)
  have d8 := d7.more hx8
  -- three writes
  refine ⟨_, _, _, _, rfl, (block_arg 1 (by decide) (by decide) H8).mono ?_⟩
  rintro _ H9 ⟨b9, rfl, ho9, hx9, hf9⟩
  have d9 := d8.more hx9
  refine ⟨_, _, _, rfl, (dwrite_ok d9.dev d9.wf (by decide) 3 (d8.fresh ho9 (by simpa [blkOf] using hf9))).mono ?_⟩
  rintro _ H10 ⟨rfl, hd10, hx10⟩
  have d10 := d9.step hd10 hx10 (writeWf d9.wf _ _)
  rw [write_good (by decide) (blockB_length _) rfl rfl] at d10 ⊢
  refine ⟨_, rfl, (block_arg 2 (by decide) (by decide) H10).mono ?_⟩
  rintro _ H11 ⟨b11, rfl, ho11, hx11, hf11⟩
  have d11 := d10.more hx11
  refine ⟨_, _, _, rfl, (dwrite_ok d11.dev d11.wf (by decide) 3 (d10.fresh ho11 (by simpa [blkOf] using hf11))).mono ?_⟩
  rintro _ H12 ⟨rfl, hd12, hx12⟩
  have d12 := d11.step hd12 hx12 (writeWf d11.wf _ _)
  rw [write_good (by decide) (blockB_length _) rfl rfl] at d12 ⊢
  refine ⟨_, rfl, (block_arg 3 (by decide) (by decide) H12).mono ?_⟩
  rintro _ H13 ⟨b13, rfl, ho13, hx13, hf13⟩
  have d13 := d12.more hx13
  refine ⟨_, _, _, rfl, (dwrite_ok d13.dev d13.wf (by decide) 3 (d12.fresh ho13 (by simpa [blkOf] using hf13))).mono ?_⟩
  rintro _ H14 ⟨rfl, hd14, hx14⟩
  have d14 := d13.step hd14 hx14 (writeWf d13.wf _ _)
  rw [write_good (by decide) (blockB_length _) rfl rfl] at d14 ⊢
  -- a crash
  refine ⟨_, rfl, fun b15 H15 hn15 => ?_⟩
  have d15 := d14.more hn15.ext
  refine (dcrash_ok d15.dev d15.wf (by decide) (new_byte d14 (x := 3) hn15)).mono ?_
  rintro _ H16 ⟨rfl, hd16, hx16⟩
  obtain ⟨kept, ek3, ek4, d16⟩ : ∃ kept, kept[3]? = some (blockB 2) ∧ kept[4]? = some (blockB 0) ∧ DevIn H H16 _ pd ⟨kept, [], -1, false, 3⟩ 8 5 := ⟨_, rfl, rfl, d15.step hd16 hx16 (crashWf d15.wf _)⟩
  refine ⟨rfl, (dread_ok d16.dev d16.wf 3).mono ?_⟩
  rintro _ H17 ⟨hx17, ⟨h1, _⟩ | ⟨_, h1, _⟩ | ⟨_, _, a17, c17, x17, e17, rfl, ho17, hf17⟩⟩
  · exact absurd (by decide) h1
  · cases h1
  have d17 := d16.more hx17
  have e17' : x17 = blockB 2 := by
    have : some (blockB 2) = some x17 := by rw [← e17, ← ek3]; rfl
    exact (Option.some.inj this).symm
  -- the fuse
  refine ⟨_, _, _, _, rfl, (dfuse_ok d17.dev 1).mono ?_⟩
  rintro _ H18 ⟨rfl, hd18, hx18⟩
  have d18 : DevIn H H18 _ pd ⟨kept, [], 1, false, 3⟩ 8 5 := ⟨hd18, ⟨d17.wf.len, d17.wf.few, d17.wf.size, d17.wf.pin, d17.wf.pfew, ⟨by simp only; omega, by simp only; omega⟩, d17.wf.works⟩, d17.low, d17.ext.transP hx18 d17.low⟩
  refine ⟨rfl, (block_arg 4 (by decide) (by decide) H18).mono ?_⟩
  rintro _ H19 ⟨b19, rfl, ho19, hx19, hf19⟩
  have d19 := d18.more hx19
  refine ⟨_, _, _, rfl, (dwrite_ok d19.dev d19.wf (by decide) 4 (d18.fresh ho19 (by simpa [blkOf] using hf19))).mono ?_⟩
  rintro _ H20 ⟨rfl, hd20, hx20⟩
  have d20 := d19.step hd20 hx20 (writeWf d19.wf _ _)
  have ew : writeD ⟨kept, [], 1, false, 3⟩ 8 4 (blockB (UInt8.ofNat (4 : Int).toNat)) = (⟨kept, [(4, blockB 4)], 0, false, 4⟩, 0) := by
    unfold writeD
    rw [if_neg (by rw [blockB_length]; omega)]
    rfl
  rw [ew] at d20 ⊢
  refine ⟨_, rfl, (dflush_ok d20.dev d20.wf (by decide)).mono ?_⟩
  rintro _ H21 ⟨rfl, hd21, hx21⟩
  have d21 := d20.step hd21 hx21 (flushWf d20.wf)
  have ef : flushD ⟨kept, [(4, blockB 4)], 0, false, 4⟩ = (⟨kept, [(4, blockB 4)], 0, true, 4⟩, 4) := rfl
  rw [ef] at d21 ⊢
  refine ⟨_, rfl, (dread_ok d21.dev d21.wf 4).mono ?_⟩
  rintro _ H22 ⟨hx22, ⟨h1, _⟩ | ⟨_, _, rfl⟩ | ⟨_, h1, _⟩⟩
  · exact absurd (by decide) h1
  rotate_left
  · cases h1
  have d22 := d21.more hx22
  refine ⟨_, _, _, _, rfl, (dread_ok d22.dev d22.wf 99).mono ?_⟩
  rintro _ H23 ⟨hx23, ⟨_, rfl⟩ | ⟨h1, _⟩ | ⟨h1, _⟩⟩
  rotate_left
  · exact absurd h1.2 (by decide)
  · exact absurd h1.2 (by decide)
  have d23 := d22.more hx23
  refine ⟨_, _, _, _, rfl, (ddead_ok d23.dev).mono ?_⟩
  rintro _ _ ⟨rfl, rfl⟩
  refine ⟨_, rfl, (dcrash_ok d23.dev d23.wf (by decide) (keptB_nil _ _)).mono ?_⟩
  rintro _ H24 ⟨rfl, hd24, hx24⟩
  have d24 := d23.step hd24 hx24 (crashWf d23.wf [])
  have ec : crashD ⟨kept, [(4, blockB 4)], 0, true, 4⟩ [] = ⟨kept, [], -1, false, 4⟩ := by unfold crashD; rw [crashL_nil]
  rw [ec] at d24
  refine ⟨rfl, (dread_ok d24.dev d24.wf 4).mono ?_⟩
  rintro _ H25 ⟨hx25, ⟨h1, _⟩ | ⟨_, h1, _⟩ | ⟨_, _, a25, c25, x25, e25, rfl, ho25, _⟩⟩
  · exact absurd (by decide) h1
  · cases h1
  have d25 := d24.more hx25
  have e25' : x25 = blockB 0 := by
    have : some (blockB 0) = some x25 := by rw [← e25, ← ek4]; rfl
    exact (Option.some.inj this).symm
  -- the answers
  have x17_25 : ∀ {H' : Heap}, Ext [] H25 H' → SRow H' 1 x17.length (.slice a17 x17.length c17) (bytesV x17) := fun hx => by
    have q16 : ∀ i, i ∈ blkOf a17 → ¬ _ := fun i hi hF => by
      have := d16.dev.lt i hF
      have := hf17 i hi
      omega
    have z17 : ∀ i, i ∈ blkOf a17 → i < H17.size := fun i hi => ho17.lt i hi
    have z18 := hx18.size
    have z19 := hx19.size
    have z20 := hx20.size
    have q20 : ∀ i, i ∈ blkOf a17 → ¬ _ := fun i hi => not_grow (q16 i hi) (by have := z17 i hi; omega) (H := H19) (H' := H20)
    have q21 : ∀ i, i ∈ blkOf a17 → ¬ _ := fun i hi => not_grow (q20 i hi) (by have := z17 i hi; omega) (H := H20) (H' := H21)
    exact (((((((ho17.row x17.length c17).extP hx18 q16).ext hx19 (by simp)).extP hx20 q16).extP hx21 q20).ext (hx22.trans hx23) (by simp)).extP hx24 q21).ext (hx25.trans hx) (by simp)
  refine ⟨_, _, _, _, rfl, fun _ => ⟨fun _ => ⟨fun _ => ⟨fun _ => ⟨fun _ => ⟨x17, x17_25 (Ext.refl _ _), (block_arg 2 (by decide) (by decide) H25).mono ?_⟩, fun e => absurd rfl e⟩, fun e => absurd rfl e⟩, fun e => absurd rfl e⟩, fun e => absurd rfl e⟩, fun e => absurd rfl e⟩
  rintro _ H26 ⟨b26, rfl, ho26, hx26, _⟩
  have d26 := d25.more hx26
  refine ⟨_, _, _, rfl, x17_25 hx26, _, ho26.row _ _, fun _ => ⟨fun _ => ⟨fun _ => ⟨fun _ => ⟨fun _ => ⟨fun _ => (ddead_ok d26.dev).mono ?_, fun e => by cases e⟩, fun e => absurd rfl e⟩, fun e => absurd rfl e⟩, fun e => absurd rfl e⟩, fun e => absurd rfl e⟩, fun e => absurd (ba_inj.2 e17') e⟩
  rintro _ _ ⟨rfl, rfl⟩
  refine ⟨_, rfl, fun _ => ⟨x25, (ho25.ext hx26 (by simp)).row _ _, (block_arg 0 (by decide) (by decide) H26).mono ?_⟩, fun e => absurd rfl e⟩
  rintro _ H27 ⟨b27, rfl, ho27, hx27, _⟩
  have d27 := d26.more hx27
  refine ⟨_, _, _, rfl, (ho25.ext (hx26.trans hx27) (by simp)).row _ _, _, ho27.row _ _, fun _ => (dworks_ok d27.dev).mono ?_, fun e => absurd (ba_inj.2 e25') e⟩
  rintro _ _ ⟨rfl, rfl⟩
  refine ⟨_, rfl, fun _ => (dblocks_ok d27.dev).mono ?_, fun e => absurd rfl e⟩
  rintro _ _ ⟨rfl, rfl⟩
  refine ⟨_, rfl, fun _ => (dflush_ok d27.dev d27.wf (by decide)).mono ?_, fun e => absurd ?_ e⟩
  · rintro _ H28 ⟨rfl, hd28, hx28⟩
    refine ⟨_, rfl, yes ?_, d27.ext.transP hx28 d27.low⟩
    rw [flush_good rfl rfl]
  · rw [d27.wf.len]; rfl
end Go.Proofs
end

