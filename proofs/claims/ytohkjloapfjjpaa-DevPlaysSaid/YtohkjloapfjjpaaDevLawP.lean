/-
  A law of the device over the contracts. No condition.
-/
import Derived.Test.YtohkjloapfjjpaaDevLawS

section
open Go Go.Vc
namespace Go.Proofs

/-- A device and its reference, apart. -/
structure Pair (H0 H : Heap) (F G : Nat → Prop) (pd pr : Nat) (D E : Dev) (n B C : Nat) : Prop where
  a : IsDev H F pd D
  r : IsRDev H G pr E
  wa : D.Wf n B
  wr : E.Wf n C
  apart : ∀ i, F i → ¬ G i
  lowF : ∀ i, F i → H0.size ≤ i
  lowG : ∀ i, G i → H0.size ≤ i
  ext : Ext [] H0 H

section
variable {H0 H H' : Heap} {F G : Nat → Prop} {pd pr : Nat} {D D' E : Dev} {n B B' C : Nat}

theorem Pair.more (h : Pair H0 H F G pd pr D E n B C) (hx : Ext [] H H') : Pair H0 H' F G pd pr D E n B C :=
  ⟨h.a.ext hx.toP (by simp), h.r.ext hx.toP (by simp), h.wa, h.wr, h.apart, h.lowF, h.lowG, h.ext.trans hx⟩

theorem Pair.stepA (h : Pair H0 H F G pd pr D E n B C) (hd : IsDev H' (grow F H H') pd D') (hx : ExtP F H H') (hw : D'.Wf n B') : Pair H0 H' (grow F H H') G pd pr D' E n B' C :=
  ⟨hd, h.r.ext hx (fun i hg hf => h.apart i hf hg), hw, h.wr, fun i hf hg => by
    rcases hf with hf | hf
    · exact h.apart i hf hg
    · have := h.r.lt i hg; have := hf.1; omega, fun i hi => by
    rcases hi with hi | hi
    · exact h.lowF i hi
    · have := h.ext.size; have := hi.1; omega, h.lowG, h.ext.transP hx h.lowF⟩

theorem Pair.stepR (h : Pair H0 H F G pd pr D E n B C) (hd : IsRDev H' (grow G H H') pr D') (hx : ExtP G H H') (hw : D'.Wf n B') : Pair H0 H' F (grow G H H') pd pr D D' n B B' :=
  ⟨h.a.ext hx (fun i hf hg => h.apart i hf hg), hd, h.wa, hw, fun i hf hg => by
    rcases hg with hg | hg
    · exact h.apart i hf hg
    · have := h.a.lt i hf; have := hg.1; omega, h.lowF, fun i hi => by
    rcases hi with hi | hi
    · exact h.lowG i hi
    · have := h.ext.size; have := hi.1; omega, h.ext.transP hx h.lowG⟩

theorem Pair.freshA (h : Pair H0 H F G pd pr D E n B C) {i : Nat} (hi : H.size ≤ i) : ¬ F i := fun hf => by have := h.a.lt i hf; omega
theorem Pair.freshR (h : Pair H0 H F G pd pr D E n B C) {i : Nat} (hi : H.size ≤ i) : ¬ G i := fun hf => by have := h.r.lt i hf; omega
end

theorem own_blk {H : Heap} {b n : Nat} {xs : List Value} (h : Own H 1 (some ⟨b, 0, none⟩) n n xs) : Blk H b xs := by
  obtain ⟨h1, _, _, h4⟩ := h
  rcases h4 with ⟨h5, _⟩ | ⟨b', tail, h5, h6, h7⟩
  · cases h5
  · cases h5
    have : tail = [] := List.eq_nil_of_length_eq_zero (by rw [List.length_append] at h7; omega)
    subst this
    simpa using h6

theorem blk_row {H : Heap} {b o l c : Nat} {zs : List UInt8} (h : Blk H b (bytesV zs)) (ho : o + l = zs.length) : SRow H 1 l (.slice (some ⟨b, o, none⟩) l c) (bytesV (zs.drop o)) := by
  refine ⟨by rw [bytesV_length, List.length_drop]; omega, .inr rfl, fun j u hj => ?_⟩
  show hcell H b (o + j) = some u
  rw [h.cell]
  unfold bytesV at hj ⊢
  rw [List.map_drop, List.getElem?_drop] at hj
  exact hj

theorem row_take {H : Heap} {a : Option Addr} {len l c m : Nat} {xs : List UInt8} (h : SRow H 1 len (.slice a l c) (bytesV xs)) (hm : m ≤ len) : SRow H 1 m (.slice a l c) (bytesV (xs.take m)) := by
  obtain ⟨h1, h2⟩ := h
  rw [bytesV_length] at h1
  refine ⟨by rw [bytesV_length, List.length_take]; omega, ?_⟩
  cases a with
  | none =>
    simp only at h2 ⊢
    have : xs = [] := by simpa [bytesV] using h2
    subst this; simp [bytesV]
  | some ad =>
    obtain ⟨h3, h4⟩ := h2
    refine ⟨?_, fun j u hj => h4 j u ?_⟩
    · rcases h3 with h3 | h3
      · have : xs = [] := by simpa [bytesV] using h3
        subst this; exact .inl (by simp [bytesV])
      · exact .inr h3
    · unfold bytesV at hj ⊢
      rw [List.map_take, List.getElem?_take] at hj
      split at hj
      · exact hj
      · cases hj

/-- What reading answers. -/
def readD (D : Dev) (n : Nat) (k : Int) : Bytes × Int := if ¬ (0 ≤ k ∧ k < n) then ([], 1) else if D.dead = true then ([], 4) else (D.now.getD k.toNat [], 0)

theorem dread_all {H : Heap} {F : Nat → Prop} {pd : Nat} {D : Dev} {n B : Nat} (h : IsDev H F pd D) (hw : D.Wf n B) (k : Int) :
    Does Try.prog 20 [.pointer (some ⟨pd, 0, none⟩), .int .i64 k] H fun v H' => Ext [] H H' ∧
      ∃ a c, v = .tuple #[.slice a (readD D n k).1.length c, .int .i64 (readD D n k).2] ∧ Own H' 1 a (readD D n k).1.length c (bytesV (readD D n k).1) ∧ ∀ i, i ∈ blkOf a → H.size ≤ i := by
  refine (dread_ok h hw k).mono ?_
  rintro v H' ⟨hx, ⟨h1, rfl⟩ | ⟨h1, h2, rfl⟩ | ⟨h1, h2, a, c, xs, e, rfl, ho, hf⟩⟩
  · refine ⟨hx, none, 0, ?_⟩
    unfold readD
    rw [if_pos h1]
    exact ⟨rfl, Own.nil _ _, by simp [blkOf]⟩
  · refine ⟨hx, none, 0, ?_⟩
    unfold readD
    rw [if_neg (not_not_intro h1), if_pos h2]
    exact ⟨rfl, Own.nil _ _, by simp [blkOf]⟩
  · refine ⟨hx, a, c, ?_⟩
    unfold readD
    rw [if_neg (not_not_intro h1), if_neg (by rw [h2]; simp), List.getD_eq_getElem?_getD, e]
    exact ⟨rfl, ho, hf⟩

theorem rdread_all {H : Heap} {F : Nat → Prop} {pd : Nat} {D : Dev} {n B : Nat} (h : IsRDev H F pd D) (hw : D.Wf n B) (hB : B ≤ 1000000000) (k : Int) :
    Does Try.prog 30 [.pointer (some ⟨pd, 0, none⟩), .int .i64 k] H fun v H' => H = H' ∧
      ∃ a c, v = .tuple #[.slice a (readD D n k).1.length c, .int .i64 (readD D n k).2] ∧ SRow H 1 (readD D n k).1.length (.slice a (readD D n k).1.length c) (bytesV (readD D n k).1) ∧ ∀ i, i ∈ blkOf a → F i := by
  refine (rdread_ok h hw hB k).mono ?_
  rintro v H' ⟨rfl, ⟨h1, rfl⟩ | ⟨h1, h2, rfl⟩ | ⟨h1, h2, a, c, xs, e, rfl, ho, hf⟩⟩
  · refine ⟨rfl, none, 0, ?_⟩
    unfold readD
    rw [if_pos h1]
    exact ⟨rfl, (Own.nil _ _).row _ _, by simp [blkOf]⟩
  · refine ⟨rfl, none, 0, ?_⟩
    unfold readD
    rw [if_neg (not_not_intro h1), if_pos h2]
    exact ⟨rfl, (Own.nil _ _).row _ _, by simp [blkOf]⟩
  · refine ⟨rfl, a, c, ?_⟩
    unfold readD
    rw [if_neg (not_not_intro h1), if_neg (by rw [h2]; simp), List.getD_eq_getElem?_getD, e]
    exact ⟨rfl, ho, hf⟩

/-- A byte is written over in a slice of one's own. -/
theorem own_put {H : Heap} {a : Option Addr} {n c i : Nat} {xs : List UInt8} (h : Own H 1 a n c (bytesV xs)) (hi : i < n) :
    ∃ b, a = some ⟨b, 0, none⟩ ∧ hcell H b (0 + i) = some (.int .u8 (xs.getD i 0).toNat) ∧ Cells H b (0 + i) 1 ∧
      ∀ (x : UInt8) H', Puts H b (0 + i) [.int .u8 x.toNat] H' → Own H' 1 a n c (bytesV (xs.set i x)) ∧ Ext (blkOf a) H H' := by
  obtain ⟨h1, h2, h3, h4⟩ := h
  rw [bytesV_length] at h1
  rcases h4 with ⟨rfl, rfl⟩ | ⟨b, tail, rfl, hb, hl⟩
  · omega
  · refine ⟨b, rfl, ?_, hb.cells 1 _ (by rw [List.length_append, bytesV_length]; omega), fun x H' hp => ?_⟩
    · rw [hb.cell, Nat.zero_add, List.getElem?_append_left (by rw [bytesV_length]; omega)]
      exact bytesV_get _ _ (by omega)
    · have hb' := hp.blk hb (by rw [List.length_append, bytesV_length, List.length_singleton]; omega)
      rw [splice_one _ _ _ (by rw [List.length_append, bytesV_length]; omega), Nat.zero_add, List.set_append_left _ _ (by rw [bytesV_length]; omega), ← bytesV_set] at hb'
      refine ⟨⟨by rw [bytesV_length, List.length_set]; omega, h2, h3, .inr ⟨b, tail, rfl, hb', ?_⟩⟩, hp.ext⟩
      rw [List.length_append, bytesV_length] at hl ⊢
      rw [List.length_set]
      exact hl
end Go.Proofs
end

section
open Go Go.Vc
namespace Go.Proofs

theorem dtrue {p : Prop} {i : Decidable p} (h : p) : @decide p i = true := @decide_eq_true p i h

set_option maxHeartbeats 2000000 in
theorem dplays_law (H : Heap) (n0 : Int) (_ : (Lit.int .i64 n0).wf = true) (a : Option Addr) (len cap : Nat) (z : List (List Value)) (hl : z.length = len) (_ : len ≤ maxLen) (hs : SRow H 4 len (.slice a len cap) z.flatten) (hw : ∀ r ∈ z, CellsIn H [.c (.i .i64), .c (.i .i64), .c (.i .i64), .y] r) :
    Does Try.prog 5 [.int .i64 n0, .slice a len cap] H fun v H' => v = .bool true ∧ Ext [] H H' := by
  refine Fn_of_vc Try.mixed (vc_dplays _ _ _ _ _ _) ?_
  refine (pick_ok n0 12 H (by decide) (by decide)).mono ?_
  rintro _ _ ⟨rfl, rfl⟩
  obtain ⟨m, hm, hm8, hm20⟩ : ∃ m : Nat, 8 + n0 % 12 = m ∧ 8 ≤ m ∧ m < 20 := ⟨(8 + n0 % 12).toNat, by omega, by omega, by omega⟩
  refine ⟨_, rfl, ?_⟩
  rw [hm]
  refine ⟨⟨by omega, by omega⟩, (dnew_ok m H).mono ?_⟩
  rintro _ H5 ⟨hx5, ⟨h1, _⟩ | ⟨_, pd, rfl, hd5⟩⟩
  · omega
  rw [Int.toNat_natCast] at hd5
  have hn2 : ∀ {x : Addr}, ¬ ((some x : Option Addr) = none) := by intro x e; cases e
  refine ⟨_, _, rfl, (known4_ok H5).mono ?_⟩
  rintro _ H9 ⟨rfl, hx9⟩
  have hd9 := hd5.ext hx9.toP (by simp)
  refine ⟨_, rfl, fun e => (by cases e), fun _ => ⟨fun e => absurd rfl e, fun _ => ⟨fun e => absurd e hn2, fun _ => (rdnew_ok m H9 (by omega)).mono ?_⟩⟩⟩
  rintro _ H12 ⟨hx12, pr, rfl, hr12⟩
  have hsz9 := hx9.size
  have hsz5 := hx5.size
  have p12 : Pair H H12 (grow none_ H H5) (grow none_ H9 H12) pd pr (newD m) (newD m) m 0 0 := ⟨hd9.ext hx12.toP (by simp), hr12, newWf (by omega), newWf (by omega), fun i hf hg => by
    have := grow_low i hf; have := grow_low i hg; omega, fun i hi => (grow_low i hi).1, fun i hi => by have := grow_low i hi; omega, (hx5.trans hx9).trans hx12⟩
  let J : Nat → Heap → Prop := fun i H' => ∃ F G D, Pair H H' F G pd pr D D m i i
  refine ⟨_, rfl, fun i H' => ∃ j : Nat, i = j ∧ j ≤ len ∧ j ≤ 60 ∧ J j H', fun i _ => len - i.toNat, ⟨0, rfl, Nat.zero_le _, Nat.zero_le _, _, _, _, p12⟩, ?_⟩
  rintro _ H17 ⟨j, rfl, hj, hj60, F, G, D, hp⟩
  refine ⟨fun h1 => ⟨fun h2 => ?_, fun h2 => ⟨rfl, hp.ext⟩⟩, fun h1 => ⟨rfl, hp.ext⟩⟩
  obtain ⟨b, o, x, y, zz, p, l, c, xs, rfl, c0, c1, c2, c3, hsx, hxl, _⟩ := stepY_at hl hs hw j (by omega)
  have hj0 : (0 : Int) ≤ j := by omega
  refine ⟨hj0, h1, b, o, rfl, x, hcell_ext c0 hp.ext (by simp), y, hcell_ext c1 hp.ext (by simp), zz, hcell_ext c2 hp.ext (by simp), p, l, c, hcell_ext c3 hp.ext (by simp), fun b26 H27 hn27 => ?_⟩
  have e26 := hn27.eq
  refine ⟨hn27.blk.cells 4 0 (by simp), fun H28 hp28 => ?_⟩
  have hb28 := hp28.blk hn27.blk (by simp)
  have hx28 : Ext [] H17 H28 := hn27.ext.trans' hp28.ext (by intro i hi; simp only [List.mem_singleton] at hi; omega)
  have hb28 : Blk H28 b26 [.int .i64 x, .int .i64 y, .int .i64 zz, .slice p l c] := hb28
  have nF : ¬ F b26 := hp.freshA (by omega)
  have nG : ¬ G b26 := hp.freshR (by omega)
  have q28 := hp.more hx28
  have cell : ∀ {H' : Heap} (o : Nat), Blk H' b26 [.int .i64 x, .int .i64 y, .int .i64 zz, .slice p l c] → hcell H' b26 o = [Value.int .i64 x, .int .i64 y, .int .i64 zz, .slice p l c][o]? := fun o h => h.cell o
  refine ⟨y, cell 1 hb28, ⟨by omega, by omega⟩, (pick_ok y (m + 2) H28 (by omega) (by omega)).mono ?_⟩
  rintro _ _ ⟨rfl, rfl⟩
  have p0 := Int.emod_nonneg y (show ((m : Int) + 2) ≠ 0 by omega)
  have p1 := Int.emod_lt_of_pos y (show (0 : Int) < (m : Int) + 2 by omega)
  generalize y % (m + 2) = k at *
  refine ⟨_, rfl, ⟨by omega, by omega⟩, fun t H' => t = true ∧ J (j + 1) H', ⟨x, cell 0 hb28, (pick_ok x 9 H28 (by decide) (by decide)).mono ?_⟩, ?_⟩
  · rintro _ _ ⟨rfl, rfl⟩
    refine ⟨_, rfl, fun _ => ?_, fun _ => ⟨fun _ => ?_, fun _ => ⟨fun _ => ?_, fun _ => ?_⟩⟩⟩
    · -- Flush
      refine (dflush_ok q28.a q28.wa (by omega)).mono ?_
      rintro _ H39 ⟨rfl, hd39, hx39⟩
      have q39 := q28.stepA hd39 hx39 (flushWf q28.wa)
      refine ⟨_, rfl, (rdflush_ok q39.r q39.wr (by omega)).mono ?_⟩
      rintro _ H42 ⟨rfl, hd42, hx42⟩
      have q42 := q39.stepR hd42 hx42 (flushWf q39.wr)
      exact ⟨_, rfl, dtrue rfl, _, _, _, q42⟩
    · -- Crash
      refine ⟨p, l, c, cell 3 hb28, (dcrash_ok q28.a q28.wa (by omega) (KeptB.old hsx q28.ext q28.lowF)).mono ?_⟩
      rintro _ H48 ⟨rfl, hd48, hx48⟩
      have q48 := q28.stepA hd48 hx48 (crashWf q28.wa xs)
      have hb48 := hb28.extP hx48 nF
      refine ⟨rfl, p, l, c, cell 3 hb48, (rdcrash_ok q48.r q48.wr (by omega) (KeptB.old hsx q48.ext q48.lowG)).mono ?_⟩
      rintro _ H53 ⟨rfl, hd53, hx53⟩
      have q53 := q48.stepR hd53 hx53 (crashWf q48.wr xs)
      exact ⟨rfl, rfl, _, _, _, q53.a, q53.r, q53.wa.up (Nat.le_succ _), q53.wr.up (Nat.le_succ _), q53.apart, q53.lowF, q53.lowG, q53.ext⟩
    · -- Fuse
      refine ⟨zz, cell 2 hb28, (pick_ok zz 9 H28 (by decide) (by decide)).mono ?_⟩
      rintro _ _ ⟨rfl, rfl⟩
      have f0 := Int.emod_nonneg zz (show (9 : Int) ≠ 0 by decide)
      have f1 := Int.emod_lt_of_pos zz (show (0 : Int) < 9 by decide)
      generalize zz % 9 = fu at *
      refine ⟨_, rfl, ⟨by omega, by omega⟩, (dfuse_ok q28.a (fu - 2)).mono ?_⟩
      rintro _ H59 ⟨rfl, hd59, hx59⟩
      have q59 := q28.stepA (hd59.up (fun _ => .inl) (grow_lt q28.a.lt hx59.size)) hx59 ⟨q28.wa.len, q28.wa.few, q28.wa.size, q28.wa.pin, q28.wa.pfew, ⟨by simp only; omega, by simp only; omega⟩, q28.wa.works⟩
      refine ⟨rfl, (rdfuse_ok q59.r (fu - 2)).mono ?_⟩
      rintro _ H61 ⟨rfl, hd61, hx61⟩
      have q61 := q59.stepR (hd61.up (fun _ => .inl) (grow_lt q59.r.lt hx61.size)) hx61 ⟨q28.wa.len, q28.wa.few, q28.wa.size, q28.wa.pin, q28.wa.pfew, ⟨by simp only; omega, by simp only; omega⟩, q28.wa.works⟩
      have e : max (-1) (fu - 2) = max (fu - 2) (-1) := Int.max_comm _ _
      rw [e] at q61
      exact ⟨rfl, rfl, _, _, _, q61.a, q61.r, q61.wa.up (Nat.le_succ _), q61.wr.up (Nat.le_succ _), q61.apart, q61.lowF, q61.lowG, q61.ext⟩
    · -- Write
      refine ⟨zz, cell 2 hb28, ?_⟩
      rintro _ rfl
      refine (block_wrap zz H28).mono ?_
      rintro _ H65 ⟨b66, rfl, ho65, hx65, hf65⟩
      have hb65 := hb28.ext hx65 (by simp)
      have hsx65 := (hsx.ext q28.ext (by simp)).ext hx65 (by simp)
      have o65 := own_blk ho65
      generalize blockB (UInt8.ofNat (zz % 256).toNat) = bb at *
      have hbl : bb.length = 128 := by have := ho65.1; rw [bytesV_length] at this; omega
      have hms : (xs.take (min l 128)).length = min l 128 := by rw [List.length_take]; omega
      refine ⟨_, _, _, rfl, p, l, c, cell 3 hb65, _, row_take hsx65 (Nat.min_le_left _ _), bytesV_one _, ⟨rfl, o65.cells (min l 128 * 1) (0 + 0) (by rw [bytesV_length]; omega)⟩, fun H73 hc73 => ?_⟩
      have hp73 : Puts H65 b66 0 (bytesV (xs.take (min l 128))) H73 := hc73
      have hb73 := hp73.blk o65 (by rw [bytesV_length, bytesV_length]; omega)
      have ez : splice (bytesV bb) 0 (bytesV (xs.take (min l 128))) = bytesV (xs.take (min l 128) ++ bb.drop (min l 128)) := by
        unfold splice bytesV
        rw [List.map_append, List.map_drop, List.length_map, hms]
        simp
      rw [ez] at hb73
      have hzl : (xs.take (min l 128) ++ bb.drop (min l 128)).length = 128 := by rw [List.length_append, hms, List.length_drop]; omega
      generalize xs.take (min l 128) ++ bb.drop (min l 128) = zs at *
      have hx73 : Ext [] H28 H73 := hx65.trans' hp73.ext (by intro i hi; simp only [List.mem_singleton] at hi; omega)
      have q73 := q28.more hx73
      have hb73' := hb65.ext hp73.ext (by simp only [List.mem_singleton]; have := hb28.lt; omega)
      have nF66 : ¬ F b66 := q28.freshA hf65
      have nG66 : ¬ G b66 := q28.freshR hf65
      have b66lt : b66 < H73.size := hb73.lt
      refine ⟨fun a78 l79 c80 H81 => H81 = H73 ∧ ∃ ys, SRow H73 1 l79 (.slice a78 l79 c80) (bytesV ys) ∧ ∀ i, i ∈ blkOf a78 → i = b66, ⟨zz, cell 2 hb73', by decide, ?_⟩, ?_⟩
      · rintro _ rfl
        refine ⟨fun _ => ⟨by decide, by decide, ?_⟩, fun _ => ⟨rfl, zs, ?_, by simp [blkOf]⟩⟩
        · rintro _ rfl
          exact ⟨rfl, zs.drop 1, blk_row hb73 (by rw [hzl]; rfl), fun i hi => (by simpa [blkOf, Addr.add] using hi : i = b66)⟩
        · have := blk_row (o := 0) (l := 128) (c := 128) hb73 (by rw [hzl])
          rwa [List.drop_zero] at this
      · rintro a78 l79 c80 _ ⟨rfl, ys, hys, hb78⟩
        refine (dwrite_ok q73.a q73.wa (by omega) (k - 1) (KeptB.of hys fun i hi => by rw [hb78 i hi]; exact nF66)).mono ?_
        rintro _ H83 ⟨rfl, hd83, hx83⟩
        have q83 := q73.stepA hd83 hx83 (writeWf q73.wa _ _)
        refine ⟨_, rfl, (rdwrite_ok q83.r q83.wr (by omega) (k - 1) (KeptB.of (hys.extP hx83 fun i hi => by rw [hb78 i hi]; exact nF66) fun i hi => by rw [hb78 i hi]; exact nG66)).mono ?_⟩
        rintro _ H86 ⟨rfl, hd86, hx86⟩
        have q86 := q83.stepR hd86 hx86 (writeWf q83.wr _ _)
        exact ⟨_, rfl, dtrue rfl, _, _, _, q86⟩
  · rintro _ H89 ⟨rfl, F', G', D', hp'⟩
    obtain ⟨ak, ck, ap, cp, hr⟩ := hp'.r
    have hh := hr.head
    refine ⟨fun e => (by cases e), fun _ => ⟨_, _, rfl, _, hh.cell 3, (ddead_ok hp'.a).mono ?_⟩⟩
    rintro _ _ ⟨rfl, rfl⟩
    refine ⟨_, rfl, ⟨hh.cell 3, trivial⟩, fun e => absurd Iff.rfl e, fun _ => ⟨_, _, rfl, _, hh.cell 4, (dworks_ok hp'.a).mono ?_⟩⟩
    rintro _ _ ⟨rfl, rfl⟩
    refine ⟨_, rfl, ⟨hh.cell 4, trivial⟩, fun e => absurd rfl e, fun _ => ⟨_, _, rfl, _, _, _, hh.cell 1, (dpending_ok hp'.a).mono ?_⟩⟩
    rintro _ _ ⟨rfl, rfl⟩
    refine ⟨_, rfl, ⟨hh.cell 1, trivial⟩, fun e => absurd rfl e, fun _ => ?_⟩
    refine ⟨fun i H' => ∃ q : Nat, i = (q : Int) - 1 ∧ q ≤ m + 2 ∧ Ext [] H89 H', fun i _ => m + 2 - (i + 1).toNat, ⟨0, rfl, Nat.zero_le _, Ext.refl _ _⟩, ?_⟩
    rintro _ H113 ⟨q, rfl, hq, hx113⟩
    have q113 := hp'.more hx113
    refine ⟨fun h3 => (dread_all q113.a q113.wa (q - 1)).mono ?_, fun h3 => ⟨⟨by omega, by omega⟩, ⟨j + 1, by omega, by omega, by omega, _, _, _, q113⟩, by dsimp only; omega⟩⟩
    rintro _ H115 ⟨hx115, a116, c118, rfl, ho115, hf115⟩
    have q115 := q113.more hx115
    refine ⟨_, _, _, _, rfl, (rdread_all q115.r q115.wr (by omega) (q - 1)).mono ?_⟩
    rintro _ _ ⟨rfl, a122, c124, rfl, hs121, hf121⟩
    refine ⟨_, _, _, _, rfl, fun e => absurd rfl e, fun _ => ⟨_, ho115.row _ _, _, hs121, fun e => absurd rfl e, fun _ => ?_⟩⟩
    generalize (readD D' m (q - 1)).1 = rs at *
    have hs115 := hx115.size
    refine ⟨fun i H' => ∃ (w : Nat) (ys : List UInt8), i = w ∧ w ≤ rs.length ∧ Own H' 1 a116 rs.length c118 (bytesV ys) ∧ Ext [] H113 H', fun i _ => rs.length - i.toNat, ⟨0, rs, rfl, Nat.zero_le _, ho115, hx115⟩, ?_⟩
    rintro _ H131 ⟨w, ys, rfl, hw131, ho131, hx131⟩
    refine ⟨fun h4 => ?_, fun h4 => ⟨⟨by omega, by omega⟩, ⟨q + 1, by omega, by omega, hx113.trans hx131⟩, by dsimp only; omega⟩⟩
    obtain ⟨b132, rfl, hc132, hcs132, hput⟩ := own_put ho131 (i := w) (by omega)
    refine ⟨by omega, h4, _, _, rfl, _, hc132, ?_⟩
    rintro _ rfl
    refine ⟨by omega, h4, _, _, rfl, hcs132, fun H138 hp138 => ?_⟩
    rw [u8_wrap, ← u8_of] at hp138
    obtain ⟨ho138, hx138⟩ := hput _ H138 hp138
    have hrs : rs.length ≤ maxLen := by have h7 := ho115.2.1; have h8 := ho115.2.2.1; omega
    have hml : maxLen ≤ 9223372036854775807 := by decide
    exact ⟨⟨by omega, by omega⟩, ⟨w + 1, _, by omega, by omega, ho138, hx131.trans' hx138 (fun i hi => .inl (hf115 i hi))⟩, by dsimp only; omega⟩
end Go.Proofs
end

