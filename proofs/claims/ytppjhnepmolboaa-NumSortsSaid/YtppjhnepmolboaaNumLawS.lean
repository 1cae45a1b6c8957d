/-
  A law of numbers over the contracts. No condition.
-/
import Derived.Test.YtppjhnepmolboaaNum

section
open Go Go.Vc
namespace Go.Proofs

def fV (xs : List Nat) : List Value := xs.map fun n => .float .f64 n
theorem fV_length (xs : List Nat) : (fV xs).length = xs.length := by simp [fV]
theorem fV_get (xs : List Nat) (j : Nat) (h : j < xs.length) : (fV xs)[j]? = some (.float .f64 (xs.getD j 0)) := by simp [fV, h]
theorem fV_set (xs : List Nat) (j b : Nat) : fV (xs.set j b) = (fV xs).set j (.float .f64 b) := by simp [fV, List.map_set]

theorem own_get {H : Heap} {a : Option Addr} {n c i : Nat} {xs : List Nat} (h : Own H 1 a n c (fV xs)) (hi : i < n) : ∃ b, a = some ⟨b, 0, none⟩ ∧ hcell H b (0 + i) = some (.float .f64 (xs.getD i 0)) ∧ Cells H b (0 + i) 1 ∧
      ∀ (x : Nat) H', Puts H b (0 + i) [.float .f64 x] H' → Own H' 1 a n c (fV (xs.set i x)) ∧ Ext (blkOf a) H H' := by
  obtain ⟨h1, h2, h3, h4⟩ := h
  rw [fV_length] at h1
  rcases h4 with ⟨rfl, rfl⟩ | ⟨b, tail, rfl, hb, hl⟩
  · omega
  · refine ⟨b, rfl, ?_, hb.cells 1 _ (by rw [List.length_append, fV_length]; omega), fun x H' hp => ?_⟩
    · rw [hb.cell, Nat.zero_add, List.getElem?_append_left (by rw [fV_length]; omega)]
      exact fV_get _ _ (by omega)
    · have hb' := hp.blk hb (by rw [List.length_append, fV_length, List.length_singleton]; omega)
      rw [splice_one _ _ _ (by rw [List.length_append, fV_length]; omega), Nat.zero_add, List.set_append_left _ _ (by rw [fV_length]; omega), ← fV_set] at hb'
      refine ⟨⟨by rw [fV_length, List.length_set]; omega, h2, h3, .inr ⟨b, tail, rfl, hb', ?_⟩⟩, hp.ext⟩
      rw [List.length_append, fV_length] at hl ⊢
      rw [List.length_set]
      exact hl

/-- The numbers that are sorted. -/
structure Held (H0 H : Heap) (a : Option Addr) (l c : Nat) (xs : List Nat) : Prop where
  own : Own H 1 a l c (fV xs)
  new : ∀ k, k ∈ blkOf a → H0.size ≤ k
  ext : Ext [] H0 H
  wf : ∀ x ∈ xs, x < 18446744073709551616

theorem Held.len {H0 H : Heap} {a : Option Addr} {l c : Nat} {xs : List Nat} (h : Held H0 H a l c xs) : xs.length = l := by
  have := h.own.1; rw [fV_length] at this; omega
theorem Held.more {H0 H H' : Heap} {a : Option Addr} {l c : Nat} {xs : List Nat} (h : Held H0 H a l c xs) (hx : Ext [] H H') : Held H0 H' a l c xs :=
  ⟨h.own.ext hx (by simp), h.new, h.ext.trans hx, h.wf⟩
theorem Held.at_ {H0 H : Heap} {a : Option Addr} {l c : Nat} {xs : List Nat} (h : Held H0 H a l c xs) (i : Nat) : xs.getD i 0 < 18446744073709551616 := by
  rw [List.getD_eq_getElem?_getD]
  cases e : xs[i]? with
  | none => decide
  | some x => exact h.wf x (List.mem_of_getElem? e)
theorem Held.put {H0 H H' : Heap} {a : Option Addr} {l c i x : Nat} {xs : List Nat} (h : Held H0 H a l c xs) (ho : Own H' 1 a l c (fV (xs.set i x))) (he : Ext (blkOf a) H H') (hx : x < 18446744073709551616) : Held H0 H' a l c (xs.set i x) :=
  ⟨ho, h.new, h.ext.trans' he (fun k hk => .inl (h.new k hk)), fun y hy => by
    rcases List.mem_or_eq_of_mem_set hy with hy | rfl
    · exact h.wf y hy
    · exact hx⟩

/-- Where the number at a place stands. -/
def rat (xs : List Nat) (t : Nat) : Int := rk (xs.getD t 0)

theorem getD_set (xs : List Nat) (i x t : Nat) (hi : i < xs.length) : (xs.set i x).getD t 0 = if t = i then x else xs.getD t 0 := by
  rw [List.getD_eq_getElem?_getD, List.getElem?_set, List.getD_eq_getElem?_getD]
  by_cases h : i = t
  · subst h; rw [if_pos rfl, if_pos hi, if_pos rfl]; rfl
  · rw [if_neg h, if_neg (by omega)]

/-- Sorted up to i, but for what stands at k. -/
def Near (xs : List Nat) (i k : Nat) : Prop := (∀ t, t + 1 ≤ i → t + 1 ≠ k → rat xs t ≤ rat xs (t + 1)) ∧ (0 < k → k + 1 ≤ i → rat xs (k - 1) ≤ rat xs (k + 1))

theorem Near.swap {xs : List Nat} {i k : Nat} (h : Near xs i k) (hk : 0 < k) (hi : k ≤ i) (hl : i < xs.length) (hlt : rat xs k < rat xs (k - 1)) : Near ((xs.set k (xs.getD (k - 1) 0)).set (k - 1) (xs.getD k 0)) i (k - 1) := by
  have e : ∀ t, rat ((xs.set k (xs.getD (k - 1) 0)).set (k - 1) (xs.getD k 0)) t = if t = k - 1 then rat xs k else if t = k then rat xs (k - 1) else rat xs t := by
    intro t
    unfold rat
    rw [getD_set _ _ _ _ (by rw [List.length_set]; omega), getD_set _ _ _ _ (by omega)]
    split
    · rfl
    · split <;> rfl
  obtain ⟨h1, h2⟩ := h
  constructor
  · intro t ht hne
    rw [e, e]
    by_cases c1 : t = k - 1
    · rw [if_pos c1, if_neg (by omega), if_pos (by omega)]; omega
    · rw [if_neg c1]
      by_cases c2 : t = k
      · subst c2
        rw [if_pos rfl, if_neg (by omega), if_neg (by omega)]
        exact h2 hk ht
      · rw [if_neg c2, if_neg (by omega), if_neg (by omega)]
        exact h1 t ht (by omega)
  · intro h3 _
    rw [e, e, if_neg (by omega), if_neg (by omega), if_neg (by omega), if_pos (by omega)]
    have := h1 (k - 1 - 1) (by omega) (by omega)
    rwa [show k - 1 - 1 + 1 = k - 1 by omega] at this

theorem no_fgt {a b : Nat} (ha : a < 18446744073709551616) (hb : b < 18446744073709551616) (h : rk a ≤ rk b) : ¬ FGt a b := by
  intro hg
  cases na : nanW a
  · cases nb : nanW b
    · have := (order_w ha hb na nb).2.2.1 hg
      have ka : keyW a = if 9223372036854775808 ≤ a then -((a : Int) - 9223372036854775808) else a := rfl
      have kb : keyW b = if 9223372036854775808 ≤ b then -((b : Int) - 9223372036854775808) else b := rfl
      have ra := (rk_num ha na).2
      have rb := (rk_num hb nb).2
      split at ka <;> split at kb <;> split at ra <;> split at rb <;> omega
    · exact (no_order (.inr nb)).2.2 hg
  · exact (no_order (.inl na)).2.2 hg

theorem nan_last {a b : Nat} (hb : b < 18446744073709551616) (h : rk a ≤ rk b) (na : nanW a = true) : nanW b = true := by
  cases nb : nanW b
  · have := (rk_num hb nb).1
    rw [rk_nan na] at h; omega
  · rfl

theorem zeros_sorted {a b : Nat} (ha : a < 18446744073709551616) (hb : b < 18446744073709551616) (h : rk a ≤ rk b) (za : FEq a 0) (zb : FEq b 0) (sa : negW a = false) : negW b = false := by
  have na : nanW a = false := by
    cases na : nanW a
    · rfl
    · exact absurd za (no_order (.inl na)).2.1
  have nb : nanW b = false := by
    cases nb : nanW b
    · rfl
    · exact absurd zb (no_order (.inl nb)).2.1
  have ka := (order_w ha (b := 0) (by decide) na (by decide)).2.1.1 za
  have kb := (order_w hb (b := 0) (by decide) nb (by decide)).2.1.1 zb
  rw [show keyW 0 = 0 from rfl, keyW_zero] at ka kb
  rcases ka with rfl | rfl
  · rcases kb with rfl | rfl
    · rfl
    · exact absurd h (by decide)
  · exact absurd sa (by decide)
end Go.Proofs
end

section
open Go Go.Vc
namespace Go.Proofs

theorem nsorts_law (H : Heap) (a0 : Option Addr) (len0 cap0 : Nat) (z0 : List Int) (hl0 : z0.length = len0) (_ : len0 ≤ maxLen) (hs0 : SRow H 1 len0 (.slice a0 len0 cap0) (z0.map fun n => .int .i64 n)) (_ : ∀ n ∈ z0, (Lit.int .i64 n).wf = true)
    (a1 : Option Addr) (len1 cap1 : Nat) (z1 : List Nat) (hl1 : z1.length = len1) (_ : len1 ≤ maxLen) (hs1 : SRow H 1 len1 (.slice a1 len1 cap1) (z1.map fun n => .float .f64 n)) (hw1 : ∀ n ∈ z1, (Lit.float .f64 n).wf = true) :
    Does Try.prog 3 [.slice a0 len0 cap0, .slice a1 len1 cap1] H fun v H' => v = .bool true ∧ Ext [] H H' := by
  refine Fn_of_vc Try.mixed (vc_nsorts _ _ _ _ _ _ _ _) ?_
  refine ⟨fun a l c H' => l ≤ 25 ∧ ∃ xs, Held H H' a l c xs, ?_, ?_⟩
  · refine ⟨fun a l c i H' => i = l ∧ l ≤ 25 ∧ ∃ xs, Held H H' a l c xs, fun _ _ _ i _ => 25 - i.toNat, ⟨rfl, by decide, [], Own.nil _ _, by simp [blkOf], Ext.refl _ _, by simp⟩, ?_⟩
    rintro a l c _ H8 ⟨rfl, hl25, xs, hd⟩
    refine ⟨fun h1 => ⟨fun h2 => ?_, fun h2 => ⟨hl25, xs, hd⟩⟩, fun h1 => ⟨hl25, xs, hd⟩⟩
    refine ⟨fun f H' => f < 18446744073709551616 ∧ H' = H8, ⟨fun h3 => ?_, fun h3 => ⟨by decide, rfl⟩⟩, ?_⟩
    · obtain ⟨x, hx⟩ : ∃ x, z1[l]? = some x := ⟨_, List.getElem?_eq_getElem (by omega)⟩
      obtain ⟨b, o, rfl, hc⟩ := hs1.get (j := l) (u := .float .f64 x) (by simp [hx])
      have := hw1 x (List.mem_of_getElem? hx)
      exact ⟨by omega, h3, b, o, rfl, x, hcell_ext hc hd.ext (by simp), by simpa [Lit.wf] using this, rfl⟩
    · rintro f _ ⟨hf, rfl⟩
      obtain ⟨y, hy⟩ : ∃ y, z0[l]? = some y := ⟨_, List.getElem?_eq_getElem (by omega)⟩
      obtain ⟨b, o, rfl, hc⟩ := hs0.get (j := l) (u := .int .i64 y) (by simp [hy])
      refine ⟨by omega, h1, b, o, rfl, y, hcell_ext hc hd.ext (by simp), (time_ok y hf _).mono ?_⟩
      rintro _ H19 ⟨r, rfl, hr, hx19⟩
      refine ⟨r, rfl, fun b21 H22 hn => ?_⟩
      have d22 := (hd.more hx19).more hn.ext
      have hm : SRow H22 1 1 (.slice (some ⟨b21, 0, none⟩) 1 1) [.float .f64 r] := by
        have := Own.of_new (size := 1) (len := 1) (cap := 1) hn.blk rfl (Nat.le_refl _) (by unfold maxLen; omega)
        exact this.row 1 1
      refine ⟨fV xs, [.float .f64 r], d22.own.row _ _, hm, by simp [Value.oneCell'], by omega, fun hle => d22.own.room hle, fun a25 c26 H27 happ => ?_⟩
      obtain ⟨ho, he, hk⟩ := happ.own d22.own (d22.own.row _ _) rfl rfl
      have e1 : fV xs ++ [.float .f64 r] = fV (xs ++ [r]) := by simp [fV]
      rw [e1] at ho
      refine ⟨⟨by omega, by omega⟩, ⟨by omega, by omega, xs ++ [r], ho, fun k hk' => ?_, d22.ext.trans' he (fun k hk' => .inl (d22.new k hk')), fun x hx => ?_⟩, by dsimp only; omega⟩
      · rcases hk k hk' with h4 | h4
        · exact d22.new k h4
        · have := d22.ext.size; omega
      · rcases List.mem_append.1 hx with hx | hx
        · exact d22.wf x hx
        · simp only [List.mem_singleton] at hx; subst hx; exact hr
  · rintro a l c H31 ⟨hl25, xs0, hd0⟩
    refine ⟨fun i H' => ∃ j : Nat, i = j ∧ 1 ≤ j ∧ (j ≤ l ∨ j = 1) ∧ ∃ xs, Held H H' a l c xs ∧ ∀ t, t + 1 < j → t + 1 < l → rat xs t ≤ rat xs (t + 1), fun i _ => l - i.toNat, ⟨1, rfl, by decide, .inr rfl, xs0, hd0, by omega⟩, ?_⟩
    rintro _ H35 ⟨i, rfl, hi1, hil, xs1, hd1, hso⟩
    refine ⟨fun h1 => ?_, fun h1 => ?_⟩
    · refine ⟨fun k H' => ∃ q : Nat, k = q ∧ q ≤ i ∧ ∃ xs, Held H H' a l c xs ∧ Near xs i q, fun k _ => k.toNat, ⟨i, rfl, Nat.le_refl _, xs1, hd1, fun t ht hne => hso t (by omega) (by omega), fun _ h => by omega⟩, ?_⟩
      rintro _ H39 ⟨k, rfl, hki, xs, hd, hnear⟩
      have hlen := hd.len
      refine ⟨fun h2 => ?_, fun h2 => ⟨⟨by omega, by omega⟩, ⟨i + 1, by omega, by omega, .inl (by omega), xs, hd, fun t ht _ => hnear.1 t (by omega) (by omega)⟩, by dsimp only; omega⟩⟩
      obtain ⟨b, rfl, hc1, _, _⟩ := own_get hd.own (i := k) (by omega)
      obtain ⟨b', e', hc2, _, _⟩ := own_get hd.own (i := k - 1) (by omega)
      cases e'
      have ek : ((k : Int) - 1).toNat = k - 1 := by omega
      refine ⟨by omega, by omega, b, 0, rfl, _, hc1, ⟨by omega, by omega⟩, by omega, by omega, b, 0, rfl, _, by rw [ek]; exact hc2, (compare_ok (hd.at_ _) (hd.at_ _) H39).mono ?_⟩
      rintro _ H47 ⟨rfl, hx47⟩
      have d47 := hd.more hx47
      refine ⟨_, rfl, fun h3 => ?_, fun h3 => ⟨⟨by omega, by omega⟩, ⟨i + 1, by omega, by omega, .inl (by omega), xs, d47, fun t ht _ => ?_⟩, by dsimp only; omega⟩⟩
      · rw [sgn_neg] at h3
        obtain ⟨b2, e2, hc3, hcs3, hp3⟩ := own_get d47.own (i := k) (by omega)
        cases e2
        obtain ⟨b2, e2, hc4, _, _⟩ := own_get d47.own (i := k - 1) (by omega)
        cases e2
        refine ⟨⟨by omega, by omega⟩, ⟨by omega, by omega⟩, by omega, by omega, b, 0, rfl, _, by rw [ek]; exact hc4, by omega, by omega, b, 0, rfl, _, hc3, by omega, by omega, b, 0, rfl, hcs3, fun H57 hp => ?_⟩
        obtain ⟨o57, x57⟩ := hp3 _ H57 hp
        have d57 := d47.put o57 x57 (d47.at_ _)
        obtain ⟨b2, e2, _, hcs5, hp5⟩ := own_get d57.own (i := k - 1) (by omega)
        cases e2
        refine ⟨by omega, by omega, b, 0, rfl, by rw [ek]; exact hcs5, fun H60 hp60 => ?_⟩
        rw [ek] at hp60
        obtain ⟨o60, x60⟩ := hp5 _ H60 hp60
        have d60 := d57.put o60 x60 (d47.at_ _)
        exact ⟨⟨by omega, by omega⟩, ⟨k - 1, by omega, by omega, _, d60, hnear.swap (by omega) hki (by omega) h3⟩, by dsimp only; omega⟩
      · rw [sgn_neg] at h3
        by_cases h4 : t + 1 = k
        · subst h4
          show rk _ ≤ rk _
          have h3' : ¬ rk (xs.getD (t + 1) 0) < rk (xs.getD (t + 1 - 1) 0) := h3
          rw [Nat.add_sub_cancel] at h3'
          omega
        · exact hnear.1 t (by omega) h4
    · have hso' : ∀ t, t + 1 < l → rat xs1 t ≤ rat xs1 (t + 1) := fun t ht => hso t (by omega) ht
      refine ⟨fun i H' => ∃ j : Nat, i = j ∧ 1 ≤ j ∧ Held H H' a l c xs1, fun i _ => l - i.toNat, ⟨1, rfl, by decide, hd1⟩, ?_⟩
      rintro _ H64 ⟨j, rfl, hj1, hd⟩
      have hlen := hd.len
      refine ⟨fun h2 => ⟨fun H' => Held H H' a l c xs1, ?_, ?_⟩, fun h2 => (known2_ok H64).mono ?_⟩
      · obtain ⟨b, rfl, hc1, _, _⟩ := own_get hd.own (i := j) (by omega)
        obtain ⟨b', e', hc2, _, _⟩ := own_get hd.own (i := j - 1) (by omega)
        cases e'
        have ek : ((j : Int) - 1).toNat = j - 1 := by omega
        have hle : rk (xs1.getD (j - 1) 0) ≤ rk (xs1.getD j 0) := by
          have := hso' (j - 1) (by omega)
          unfold rat at this
          rwa [show j - 1 + 1 = j by omega] at this
        have wa := hd.at_ (j - 1)
        have wb := hd.at_ j
        refine ⟨⟨by omega, by omega⟩, by omega, by omega, b, 0, rfl, _, by rw [ek]; exact hc2, by omega, by omega, b, 0, rfl, _, hc1, ?_⟩
        generalize xs1.getD (j - 1) 0 = p at *
        generalize xs1.getD j 0 = q at *
        have zero : (FEq p 0) → (FEq q 0) → Does Try.prog 13 [(.float .f64 p)] H64 fun v72 H73 => ∃ t74 : Bool, v72 = (.bool t74) ∧ (
          (((t74 = false) → (
          Does Try.prog 13 [(.float .f64 q)] H73 fun v75 H76 => ∃ t77 : Bool, v75 = (.bool t77) ∧ (
          ((t77 = true → (
          Value.bool false = .bool true ∧ Ext [] H H76)) ∧ (t77 = false → (
          Held H H76 (some ⟨b, 0, none⟩) l c xs1)))))) ∧ (¬ (t74 = false) → (
          Held H H73 (some ⟨b, 0, none⟩) l c xs1)))) := fun zp zq => by
          refine (signbit_ok wa H64).mono ?_
          rintro _ _ ⟨rfl, rfl⟩
          refine ⟨_, rfl, fun h5 => (signbit_ok wb H64).mono ?_, fun _ => hd⟩
          rintro _ _ ⟨rfl, rfl⟩
          refine ⟨_, rfl, fun h6 => ?_, fun _ => hd⟩
          rw [zeros_sorted wa wb hle zp zq h5] at h6
          cases h6
        refine ⟨fun h3 => absurd h3 (no_fgt wa wb hle), fun _ => ⟨fun h3 => ⟨fun h4 => ?_, fun _ => ⟨fun zp => ⟨fun zq => zero zp zq, fun _ => hd⟩, fun _ => hd⟩⟩, fun _ => ⟨fun zp => ⟨fun zq => zero zp zq, fun _ => hd⟩, fun _ => hd⟩⟩⟩
        rw [feq_self wa] at h3
        rw [feq_self wb] at h4
        have := nan_last wb hle (by cases hp : nanW p <;> simp_all)
        rw [this] at h4; cases h4
      · intro H84 hd84
        exact ⟨⟨by omega, by omega⟩, ⟨j + 1, by omega, by omega, hd84⟩, by dsimp only; omega⟩
      · rintro _ H86 ⟨rfl, hx86⟩
        exact ⟨_, rfl, rfl, hd.ext.trans hx86⟩
end Go.Proofs
end

