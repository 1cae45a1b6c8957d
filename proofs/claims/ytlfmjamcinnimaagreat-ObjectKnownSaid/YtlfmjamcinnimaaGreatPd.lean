/-
  The contracts of the functions that the law reaches, part 4. No condition.
-/
import Derived.Test.YtlfmjamcinnimaaGreatPc
import Derived.Test.YtlfmjamcinnimaaGreatProg
import Derived.Test.YtlfmjamcinnimaaGreatVb
import Derived.Shelf.SlIterI.Nil
import Derived.Shelf.SortM.Plain
import Derived.Shelf.SortM.SortNone
import Derived.Ground.GgzProg
import Derived.Ground.SlgmProg
import Derived.Tactics
import Derived.Tactics2
import Derived.Defers
import Derived.Recover
import Derived.Laws.Pointers
import Derived.Laws.NewBlocks
import Derived.Deep.RegionHeld
import Derived.RowKit3
import Derived.Laws.IdiomCopy

section
open Go Go.Vc
namespace Go.Proofs

def cntN (l : List Wr) : Nat := (needsN l.length).toNat
def bodyB (l : List Wr) : Octs := padL (streamB l) (cntN l * 116)
def jblk (h : Hd) (l : List Wr) (k : Nat) : Octs := beU 4 (w64 h.epoch) ++ beU 4 (w64 h.seq) ++ beU 2 (w64 k) ++ beU 2 (w64 (cntN l)) ++ ((bodyB l).drop (k * 116)).take 116
def laidB (h : Hd) (l : List Wr) : List Octs := (List.range (cntN l)).map (jblk h l)

theorem needs_nat (l : List Wr) : needsN l.length = (cntN l : Int) := by
  unfold cntN needsN; split <;> omega
theorem cnt_len {l : List Wr} (h : 0 < l.length) : 2 + l.length * 132 ≤ cntN l * 116 ∧ cntN l * 116 ≤ 2 + l.length * 132 + 115 := by
  have := needs_nat l
  unfold needsN at this
  rw [if_neg (by omega)] at this
  omega
theorem cnt_zero' {l : List Wr} (h : l.length = 0) : cntN l = 0 := by unfold cntN needsN; rw [h]; rfl
theorem bodyB_len {l : List Wr} (hf : Full l) (h : 0 < l.length) : (bodyB l).length = cntN l * 116 := by
  unfold bodyB; rw [padL_len, streamB_len hf]; have := cnt_len h; omega
theorem piece_len {l : List Wr} (hf : Full l) {k : Nat} (hk : k < cntN l) : (((bodyB l).drop (k * 116)).take 116).length = 116 := by
  have h : 0 < l.length := by
    rcases Nat.eq_zero_or_pos l.length with h | h
    · rw [cnt_zero' h] at hk; omega
    · exact h
  have hb := bodyB_len hf h
  have : (k + 1) * 116 ≤ cntN l * 116 := Nat.mul_le_mul_right _ hk
  rw [List.length_take, List.length_drop, hb]; omega
theorem jblk_len {h : Hd} {l : List Wr} (hf : Full l) {k : Nat} (hk : k < cntN l) : (jblk h l k).length = 128 := by
  unfold jblk; rw [List.length_append, piece_len hf hk]; simp [beU_len]
theorem laidB_len (h : Hd) (l : List Wr) : (laidB h l).length = cntN l := by simp [laidB]

/-- A row of blocks that one has made. -/
def MySeq {α : Type} (E : Elem α) (n0 : Nat) (H : Heap) (a : Option Addr) (n c : Nat) (xs : List α) : Prop :=
  ∃ G, Seq E H G a n c xs ∧ (∀ k, G k → n0 ≤ k ∧ k < H.size ∧ k ∉ blkOf a) ∧ ∀ k ∈ blkOf a, n0 ≤ k
theorem MySeq.nil {α : Type} (E : Elem α) (n0 : Nat) (H : Heap) : MySeq E n0 H none 0 0 [] := ⟨fun _ => False, Seq.nil _ _ _, fun k hk => hk.elim, by simp [blkOf]⟩
theorem MySeq.extP {α : Type} {E : Elem α} {n0 : Nat} {H H' : Heap} {a : Option Addr} {n c : Nat} {xs : List α} {M : Nat → Prop} (h : MySeq E n0 H a n c xs) (he : ExtP M H H') (hm : ∀ k, k < H.size → n0 ≤ k → ¬ M k) : MySeq E n0 H' a n c xs := by
  obtain ⟨G, h1, h2, h3⟩ := h
  exact ⟨G, h1.extP he (fun k hk => hm k (h1.lt k hk) (h3 k hk)) (fun k hk => hm k (h2 k hk).2.1 (h2 k hk).1), fun k hk => ⟨(h2 k hk).1, Nat.lt_of_lt_of_le (h2 k hk).2.1 he.size, (h2 k hk).2.2⟩, h3⟩
theorem MySeq.ext {α : Type} {E : Elem α} {n0 : Nat} {H H' : Heap} {a : Option Addr} {n c : Nat} {xs : List α} (h : MySeq E n0 H a n c xs) (he : Ext [] H H') : MySeq E n0 H' a n c xs := h.extP he.toP (by simp)
theorem MySeq.view {α : Type} {E : Elem α} {n0 : Nat} {H : Heap} {a : Option Addr} {n c : Nat} {xs : List α} (h : MySeq E n0 H a n c xs) : SeqV E H a xs := by
  obtain ⟨G, h1, _⟩ := h; exact h1.view
theorem MySeq.num {α : Type} {E : Elem α} {n0 : Nat} {H : Heap} {a : Option Addr} {n c : Nat} {xs : List α} (h : MySeq E n0 H a n c xs) : xs.length = n := by
  obtain ⟨G, h1, _⟩ := h; exact h1.num
theorem MySeq.low {α : Type} {E : Elem α} {n0 n1 : Nat} {H : Heap} {a : Option Addr} {n c : Nat} {xs : List α} (h : MySeq E n0 H a n c xs) (hn : n1 ≤ n0) : MySeq E n1 H a n c xs := by
  obtain ⟨G, h1, h2, h3⟩ := h
  exact ⟨G, h1, fun k hk => ⟨Nat.le_trans hn (h2 k hk).1, (h2 k hk).2⟩, fun k hk => Nat.le_trans hn (h3 k hk)⟩

/-- One element appended to one's own row. -/
theorem MySeq.push {α : Type} {E : Elem α} {n0 : Nat} {H : Heap} {a : Option Addr} {n c : Nat} {xs : List α} (h : MySeq E n0 H a n c xs) {w : Nat} {e e' : TypeId} {z v : List Value} {x : α} (hv : E.ok H v x) (hf : ∀ k ∈ E.fp v, n0 ≤ k ∧ k ∉ blkOf a) (hs0 : n0 ≤ H.size) (hz : z.length = E.sz) (hw : (n + 1) * w ≤ 140737488355328)
    {R : Option Addr → Nat → Heap → Prop} (k : ∀ a' c' H', MySeq E n0 H' a' (n + 1) c' (xs ++ [x]) → Ext [] H H' ∨ (Ext (blkOf a) H H') → (Ext (blkOf a) H H') → R a' c' H') (b : Nat) (H2 : Heap) (hn : New H b v e H2) :
    ∃ old news : List Value, SRow H2 E.sz n (.slice a n c) old ∧ SRow H2 E.sz 1 (.slice (some ⟨b, 0, none⟩) 1 1) news ∧ (∀ u ∈ news, Value.oneCell' u = true) ∧ (n + 1) * w ≤ 140737488355328 ∧
      (n + 1 ≤ c → roomOf H2 a (n * E.sz) (1 * E.sz)) ∧ ∀ a' c' H', App H2 E.sz e' z a n c old news 1 a' c' H' → R a' c' H' := by
  obtain ⟨G, h1, h2, h3⟩ := h
  have hlt := E.lt hv
  have h1' : Seq E H (fun k => G k ∨ k ∈ E.fp v) a n c xs := h1.mono (fun k _ hk => .inl hk)
  refine h1'.push (fun k hk => ?_) hv (fun k hk => .inr hk) hz hw (fun a' c' H' g1 g2 g3 => ?_) b H2 hn
  · rcases hk with hk | hk
    · exact (h2 k hk).2.2
    · exact (hf k hk).2
  · have hsz := g2.size
    have hlt' : ∀ i, (G i ∨ i ∈ E.fp v) → i < H.size := fun i hi => by
      rcases hi with hi | hi
      · exact (h2 i hi).2.1
      · exact hlt i hi
    refine k a' c' H' ⟨_, g1, fun i hi => ⟨?_, by have := hlt' i hi; omega, fun hm => ?_⟩, fun i hi => ?_⟩ (.inr g2) g2
    · rcases hi with hi | hi
      · exact (h2 i hi).1
      · exact (hf i hi).1
    · rcases g3 i hm with h' | h'
      · rcases hi with hi | hi
        · exact (h2 i hi).2.2 h'
        · exact (hf i hi).2 h'
      · have := hlt' i hi; omega
    · rcases g3 i hi with h' | h'
      · exact h3 i h'
      · omega

set_option maxHeartbeats 1000000 in
theorem laid_ok (h : Hd) {l : List Wr} {a : Option Addr} {c : Nat} {H : Heap} (hl : l.length ≤ 5000) (hf : Full l) (hs : SeqV writeE H a l) :
    Does Tryz.prog 203 [h.v, .slice a l.length c] H fun v H' => ∃ a' c', v = .slice a' (cntN l) c' ∧ MySeq bytesC H.size H' a' (cntN l) c' (laidB h l) ∧ Ext [] H H' := by
  refine Fn_of_vc Tryz.mixed (vc_laid _ _ _ _ _ _ _ _) ?_
  intro b1 H2 hn2
  have e1 := hn2.eq
  have hs2 := hn2.size
  have hb2 : Blk H2 b1 h.cells := hn2.blk
  refine (stream_ok hl hf (hs.ext hn2.ext)).mono ?_
  rintro _ H4 ⟨⟨a5, c7, rfl, ho4, _⟩, hx4⟩
  refine ⟨_, _, _, rfl, (needs_ok l.length H4 (by omega)).mono ?_⟩
  rintro _ _ ⟨rfl, rfl⟩
  have hc3 : cntN l ≤ 10000 := by
    rcases Nat.eq_zero_or_pos l.length with h0 | h0
    · rw [cnt_zero' h0]; omega
    · have := cnt_len h0; omega
  refine ⟨_, rfl, ?_⟩
  rw [needs_nat]
  refine ⟨⟨by omega, by omega⟩, ?_⟩
  rw [show ((cntN l : Nat) : Int) * 116 = ((cntN l * 116 : Nat) : Int) by omega]
  refine (padded_ok (by omega) (by rw [streamB_len hf]; omega) (ho4.row _ _)).mono ?_
  rintro _ H12 ⟨⟨a13, c15, rfl, ho12, _⟩, hx12⟩
  rw [show padL (streamB l) (cntN l * 116) = bodyB l from rfl] at ho12 ⊢
  have hX12 : Ext [] H H12 := (hn2.ext.trans hx4).trans hx12
  have hb12 := (hb2.ext hx4 (by simp)).ext hx12 (by simp)
  have hs12 : H2.size ≤ H12.size := by have := hx4.size; have := hx12.size; omega
  refine ⟨_, _, _, rfl, fun a18 l19 c20 n H' => ∃ k : Nat, n = k ∧ k ≤ cntN l ∧ l19 = k ∧ MySeq bytesC H12.size H' a18 l19 c20 ((List.range k).map (jblk h l)) ∧ Ext [] H12 H', fun _ _ _ n _ => cntN l - n.toNat, ⟨0, rfl, by omega, rfl, MySeq.nil _ _ _, Ext.refl _ _⟩, ?_⟩
  rintro a18 l19 c20 _ H22 ⟨k, rfl, hk, el, hm22, hx22⟩
  have el := el.symm
  subst el
  refine ⟨fun hlt => ?_, fun hge => ?_⟩
  · have hkl : k < cntN l := by omega
    have hpos : 0 < l.length := by
      rcases Nat.eq_zero_or_pos l.length with h0 | h0
      · rw [cnt_zero' h0] at hkl; omega
      · exact h0
    have hs22 := hx22.size
    have hb22 := hb12.ext hx22 (by simp)
    have ho22 := ho12.ext hx22 (by simp)
    have q : ∀ {A : Heap}, Blk A b1 h.cells → hcell A b1 0 = some (.int .i64 h.epoch) ∧ hcell A b1 (0 + 1) = some (.int .i64 h.seq) := fun hb => ⟨by rw [hb.cell]; rfl, by rw [hb.cell]; rfl⟩
    have keep : ∀ {A B : Heap}, ExtP (fun k => H22.size ≤ k) A B → Blk A b1 h.cells → Blk B b1 h.cells := fun he hb => hb.extP he (by omega)
    refine (nwB_ok H22).mono ?_
    rintro _ H24 ⟨rfl, hw24, hx24⟩
    have hs24 := hx24.size
    refine ⟨_, rfl, _, (q (hb22.ext hx24 (by simp))).1, (wuB_ok (n := 4) (.inr ⟨rfl, rfl⟩) (fun k hk => by show H22.size ≤ k; omega) (by simp) hw24).mono ?_⟩
    rintro _ H28 ⟨rfl, hw28, hx28⟩
    have hs28 := hx28.size
    have hb28 := keep hx28 (hb22.ext hx24 (by simp))
    refine ⟨rfl, _, (q hb28).2, (wuB_ok (n := 4) (.inr ⟨rfl, rfl⟩) (fun k hk => by show H22.size ≤ k; omega) (by simp [beU_len]) hw28).mono ?_⟩
    rintro _ H31 ⟨rfl, hw31, hx31⟩
    have hs31 := hx31.size
    refine ⟨rfl, (wuB_ok (n := 2) (.inl ⟨rfl, rfl⟩) (fun k hk => by show H22.size ≤ k; omega) (by simp [beU_len]) hw31).mono ?_⟩
    rintro _ H33 ⟨rfl, hw33, hx33⟩
    have hs33 := hx33.size
    refine ⟨rfl, (wuB_ok (n := 2) (.inl ⟨rfl, rfl⟩) (fun k hk => by show H22.size ≤ k; omega) (by simp [beU_len]) hw33).mono ?_⟩
    rintro _ H35 ⟨rfl, hw35, hx35⟩
    have hs35 := hx35.size
    have hX35 : ExtP (fun k => H22.size ≤ k) H24 H35 := ((hx28.trans hx31).trans hx33).trans hx35
    have hx2235 : Ext [] H22 H35 := hx24.transP hX35 (fun i hi => hi)
    have ho35 := ho22.ext hx2235 (by simp)
    have hbl := bodyB_len hf hpos
    have hk1 : (k + 1) * 116 ≤ cntN l * 116 := Nat.mul_le_mul_right _ hkl
    have hcap := ho35.2.1
    have i1 : Int.toNat ((k : Int) * 116) = k * 116 := by omega
    have i2 : Int.toNat (((k : Int) + 1) * 116) = (k + 1) * 116 := by omega
    refine ⟨rfl, ⟨by omega, by omega⟩, ⟨by omega, by omega⟩, ⟨by omega, by omega⟩, by omega, by omega, by rw [hbl] at hcap; omega, ?_⟩
    rintro _ rfl
    rw [i1, i2]
    have hpl := piece_len hf hkl
    have hrow : SRow H35 1 (((bodyB l).drop (k * 116)).take 116).length (.slice (if c15 = k * 116 then a13 else Option.map (fun x => Addr.add x (k * 116 * 1)) a13) (((bodyB l).drop (k * 116)).take 116).length (c15 - k * 116)) (bytesV (((bodyB l).drop (k * 116)).take 116)) := by
      rw [hpl]
      have r1 := SRow.drop1 (l' := 116) (c' := c15 - k * 116) (ho35.row (bodyB l).length c15) (k := k * 116) (by rw [hbl]; omega) hcap
      have r2 := SRow.take1 (l' := 116) (c' := c15 - k * 116) r1 (k := 116) (by rw [hbl]; omega)
      have e : bytesV (((bodyB l).drop (k * 116)).take 116) = ((bytesV (bodyB l)).drop (k * 116)).take 116 := by simp [bytesV]
      rw [e]; exact r2
    have hsub : (k + 1) * 116 - k * 116 = (((bodyB l).drop (k * 116)).take 116).length := by rw [hpl]; omega
    rw [hsub]
    refine (wrawB_ok (fun k hk => by show H22.size ≤ k; omega) (by simp [beU_len]) (by rw [hpl]; decide) hw35 hrow).mono ?_
    rintro _ H38 ⟨rfl, hw38, hx38⟩
    have hs38 := hx38.size
    refine ⟨rfl, ?_⟩
    have hjb : ([] ++ beU 4 (w64 h.epoch) ++ beU 4 (w64 h.seq) ++ beU 2 (w64 (k : Int)) ++ beU 2 (w64 ((cntN l : Nat) : Int)) ++ ((bodyB l).drop (k * 116)).take 116) = jblk h l k := rfl
    rw [hjb] at hw38
    have hjl := jblk_len (h := h) hf hkl
    refine (bytesB_ok (by rw [hjl]; decide) hw38).mono ?_
    rintro _ H40 ⟨⟨a41, c43, rfl, ho40, hfr40⟩, hx40⟩
    have hx2240 : Ext [] H22 H40 := (hx2235.transP hx38 (fun i hi => hi)).trans hx40
    have hm40 := hm22.ext hx2240
    have hs40 := hx40.size
    have hafr : ∀ i ∈ blkOf a41, H12.size ≤ i ∧ i ∉ blkOf a18 := fun i hi => by
      have h1 := hfr40 i hi
      refine ⟨by omega, fun hm => ?_⟩
      obtain ⟨G, g1, _⟩ := hm22
      have := g1.lt i hm
      omega
    refine ⟨_, _, _, rfl, hm40.push (E := bytesC) (v := [.slice a41 (jblk h l k).length c43]) ⟨a41, _, c43, rfl, ho40.2.1, ho40.row _ _, ho40.lt⟩ hafr (by omega) rfl (by omega) (fun a48 c49 H50 g1 _ g2 => ⟨⟨by omega, by omega⟩, ⟨k + 1, by omega, by omega, rfl, ?_, ?_⟩, by simp only []; omega⟩)⟩
    · rw [List.range_succ, List.map_append]; exact g1
    · exact ext_new (hx22.trans hx2240) g2 (fun i hi => by obtain ⟨G, _, _, g3⟩ := hm22; exact g3 i hi)
  · have : k = cntN l := by omega
    subst this
    exact ⟨a18, c20, rfl, hm22.low (by omega), hX12.trans hx22⟩
end Go.Proofs
end

section
open Go Go.Vc
namespace Go.Proofs

def Marks (H : Heap) (r : Nat) (out : List Int) : Prop := ∃ l, MapIs H r l ∧ ∀ k, mapGet l k (.bool false) = .bool (decide (k ∈ out))

theorem MapIs.ext {M : List Nat} {H H' : Heap} {r : Nat} {l : List (Int × Value)} (h : MapIs H r l) (he : Ext M H H') (hm : r ∉ M) : MapIs H' r l := by
  obtain ⟨es, c, h1, h2⟩ := h
  exact ⟨es, c, by rw [he.keep r (Array.getElem?_eq_some_iff.1 h1).1 hm]; exact h1, h2⟩

theorem Marks.ext {M : List Nat} {H H' : Heap} {r : Nat} {out : List Int} (h : Marks H r out) (he : Ext M H H') (hm : r ∉ M) : Marks H' r out := by
  obtain ⟨l, h1, h2⟩ := h
  exact ⟨l, MapIs.ext h1 he hm, h2⟩

theorem mapGet_set (l : List (Int × Value)) (k j : Int) (v z : Value) : mapGet (mapSet l k v) j z = if j = k then v else mapGet l j z := by
  induction l with
  | nil =>
    simp only [mapSet, mapGet]
    by_cases h : j = k
    · rw [if_pos h, if_pos h.symm]
    · rw [if_neg h, if_neg (fun e => h e.symm)]
  | cons p r ih =>
    simp only [mapSet]
    by_cases hp : p.1 = k
    · rw [if_pos hp]
      simp only [mapGet]
      by_cases h : j = k
      · rw [if_pos h, if_pos h.symm]
      · rw [if_neg h, if_neg (fun e => h e.symm), if_neg (fun e => h (by rw [← e, hp]))]
    · rw [if_neg hp]
      simp only [mapGet, ih]
      by_cases h : j = k
      · rw [if_pos h, if_neg (fun e => hp (by rw [e, h])), if_pos h]
      · rw [if_neg h, if_neg h]

theorem MapPut.is {H H' : Heap} {r : Nat} {l : List (Int × Value)} (h : MapPut H r l H') (hr : r < H.size) : MapIs H' r l ∧ Ext [r] H H' := by
  obtain ⟨es, c, h1, rfl, hs⟩ := h
  refine ⟨⟨es, c, by rw [Array.getElem?_setIfInBounds, if_pos rfl, if_pos hr], h1, hs⟩, by rw [Array.size_setIfInBounds]; exact Nat.le_refl _, fun k hk hm => ?_⟩
  rw [Array.getElem?_setIfInBounds, if_neg (fun e => hm (by simp [e]))]

theorem not_blk_map {H : Heap} {b r : Nat} {cs : List Value} {out : List Int} (hb : Blk H b cs) (hm : Marks H r out) : b ≠ r := by
  rintro rfl
  obtain ⟨e, h1⟩ := hb
  obtain ⟨l, ⟨es, c, h2, _⟩, _⟩ := hm
  rw [h1] at h2
  cases h2

theorem _root_.Go.Vc.NewMap.ext {H H' : Heap} {r : Nat} (h : NewMap H r H') : Ext [] H H' := by
  obtain ⟨rfl, rfl⟩ := h
  exact ⟨by simp, fun k hk _ => by rw [Array.getElem?_push, if_neg (by omega)]⟩

theorem marks_new {H H' : Heap} {r : Nat} (h : NewMap H r H') : Marks H' r [] := by
  obtain ⟨rfl, rfl⟩ := h
  exact ⟨[], ⟨#[], 0, by simp, rfl, MapKept.stamped_empty _⟩, fun k => by simp [mapGet]⟩

theorem nodup_le : ∀ (ids out : List Int), out.Nodup → (∀ k ∈ out, k ∈ ids) → out.length ≤ ids.length
  | [], out, _, h => by
    cases out with
    | nil => simp
    | cons x r => exact absurd (h x (by simp)) (by simp)
  | x :: ids, out, hn, h => by
    by_cases hx : x ∈ out
    · have h1 := nodup_le ids (out.erase x) (hn.erase x) (fun k hk => by
        rw [hn.mem_erase_iff] at hk
        rcases List.mem_cons.1 (h k hk.2) with e | e
        · exact absurd e hk.1
        · exact e)
      rw [List.length_erase_of_mem hx] at h1
      have : 0 < out.length := List.length_pos_of_mem hx
      simp only [List.length_cons]; omega
    · have h1 := nodup_le ids out hn (fun k hk => by
        rcases List.mem_cons.1 (h k hk) with e | e
        · subst e; exact absurd hk hx
        · exact e)
      simp only [List.length_cons]; omega
end Go.Proofs
end

section
open Go Go.Vc
namespace Go.Proofs

/-- The writes that are read. -/
def parseW : Nat → Octs × Bool → List Wr
  | 0, _ => []
  | n + 1, s => if s.2 = true then [] else (numU s 4, (rdU (rdU s 4).2 128).1) :: parseW n (rdU (rdU s 4).2 128).2
def writesM (b : Octs) : List Wr := parseW (numU (b, false) 2).toNat (rdU (b, false) 2).2

theorem rdU_len (s : Octs × Bool) (n : Nat) : (rdU s n).1.length ≤ n := by
  unfold rdU; split
  · simp; omega
  · simp
theorem numU_lt2 (s : Octs × Bool) : 0 ≤ numU s 2 ∧ numU s 2 < 65536 := by
  obtain ⟨h1, h2⟩ := be_lt (toI_byt (rdU s 2).1)
  have := pow256 (j := (toI (rdU s 2).1).length) (k := 2) (by rw [toI_len]; exact rdU_len s 2)
  have e : (256 : Int) ^ 2 = 65536 := by decide
  rw [e] at this
  exact ⟨h1, Int.lt_of_lt_of_le h2 this⟩
theorem numU_lt4 (s : Octs × Bool) : 0 ≤ numU s 4 ∧ numU s 4 < 4294967296 := by
  obtain ⟨h1, h2⟩ := be_lt (toI_byt (rdU s 4).1)
  have := pow256 (j := (toI (rdU s 4).1).length) (k := 4) (by rw [toI_len]; exact rdU_len s 4)
  have e : (256 : Int) ^ 4 = 4294967296 := by decide
  rw [e] at this
  exact ⟨h1, Int.lt_of_lt_of_le h2 this⟩
theorem parseW_lack (n : Nat) {s : Octs × Bool} (h : s.2 = true) : parseW n s = [] := by
  cases n with
  | zero => rfl
  | succ n => simp only [parseW, if_pos h]

theorem writes_ok {b : Octs} {a : Option Addr} {c : Nat} {H : Heap} (hl : b.length ≤ 140737488355328) (h : SRow H 1 b.length (.slice a b.length c) (bytesV b)) :
    Does Tryz.prog 209 [.slice a b.length c] H fun v H' => ∃ a' c', v = .slice a' (writesM b).length c' ∧ MySeq writeE H.size H' a' (writesM b).length c' (writesM b) ∧ Ext [] H H' := by
  refine Fn_of_vc Tryz.mixed (vc_writes _ _ _ _ _) ?_
  refine (nrB_ok hl h).mono ?_
  rintro _ H2 ⟨p, rfl, hr2, hx2⟩
  refine ⟨_, rfl, (ruB_ok (n := 2) (.inl ⟨rfl, rfl⟩) hr2).mono ?_⟩
  rintro _ H5 ⟨rfl, hr5, hx5⟩
  have hX5 : Ext [] H H5 := hx2.transP hx5 (fun i hi => hi)
  have hs5 := hX5.size
  obtain ⟨n0, n1⟩ := numU_lt2 (b, false)
  have hr5' : RB (fun k => H.size ≤ k ∧ k < H5.size) H5 p (rdU (b, false) 2).2 := RIs.mono hr5 (fun k hk hg => ⟨hg, hk⟩)
  show ∃ _, _
  unfold writesM
  generalize numU (b, false) 2 = n at *
  generalize (rdU (b, false) 2).2 = s0 at *
  refine ⟨_, rfl, fun a9 l10 c11 n12 H13 => ∃ (L : List Wr) (s : Octs × Bool) (m : Nat), n12 = m ∧ m + L.length ≤ 65535 ∧ L.length = l10 ∧ MySeq writeE H5.size H13 a9 l10 c11 L ∧ RB (fun k => H.size ≤ k ∧ k < H5.size) H13 p s ∧ L ++ parseW m s = parseW n.toNat s0 ∧ Ext [] H H13 ∧ H5.size ≤ H13.size, fun _ _ _ n _ => n.toNat,
    ⟨[], s0, n.toNat, by omega, by simp; omega, rfl, MySeq.nil _ _ _, hr5', rfl, hX5, Nat.le_refl _⟩, ?_⟩
  rintro a9 l10 c11 _ H13 ⟨L, s, m, rfl, hmL, e10, hm13, hr13, hL, hx13, hs13⟩
  subst e10
  have fin : parseW m s = [] → ∃ a' c', Value.slice a9 L.length c11 = .slice a' (parseW n.toNat s0).length c' ∧ MySeq writeE H.size H13 a' (parseW n.toNat s0).length c' (parseW n.toNat s0) ∧ Ext [] H H13 := by
    intro e
    rw [e, List.append_nil] at hL
    rw [← hL]
    exact ⟨a9, c11, rfl, hm13.low hs5, hx13⟩
  refine ⟨fun hlt => ?_, fun hge => fin (by rw [show m = 0 by omega]; rfl)⟩
  obtain ⟨m, rfl⟩ : ∃ k, m = k + 1 := ⟨m - 1, by omega⟩
  refine (lackB_ok hr13).mono ?_
  rintro _ _ ⟨rfl, rfl⟩
  refine ⟨_, rfl, fun el => ?_, fun el => fin (parseW_lack _ (by simpa using el))⟩
  rw [parseW, if_neg (by rw [el]; simp)] at hL
  refine (ruB_ok (n := 4) (.inr ⟨rfl, rfl⟩) hr13).mono ?_
  rintro _ H18 ⟨rfl, hr18, hx18⟩
  refine ⟨_, rfl, (rawB_ok (n := 128) (by decide) hr18).mono ?_⟩
  rintro _ H21 ⟨a22, c24, rfl, hrow, hr21, hx21, hfr21⟩
  refine ⟨_, _, _, rfl, ?_⟩
  have hxx := hx18.trans hx21
  have hX21 : Ext [] H H21 := hx13.transP hxx (fun i hi => hi.1)
  have hs18 := hx18.size
  have hs21 := hx21.size
  have hm21 : MySeq writeE H5.size H21 a9 L.length c11 L := hm13.extP hxx (fun k _ hk hm => by omega)
  have hafr : ∀ i ∈ blkOf a22, H5.size ≤ i ∧ i ∉ blkOf a9 := fun i hi => by
    have h1 := hfr21 i hi
    refine ⟨by omega, fun hm => ?_⟩
    obtain ⟨G, g1, _⟩ := hm13
    have := g1.lt i hm
    omega
  refine hm21.push (E := writeE) (x := (numU s 4, (rdU (rdU s 4).2 128).1)) (v := [.int .i64 (numU s 4), .slice a22 (rdU (rdU s 4).2 128).1.length c24]) ⟨a22, _, c24, rfl, hrow, fun k hk => (hfr21 k hk).2⟩ hafr (by omega) rfl (by omega) (fun a29 c30 H31 g1 _ g2 => ⟨⟨by omega, by omega⟩, ⟨L ++ [(numU s 4, (rdU (rdU s 4).2 128).1)], (rdU (rdU s 4).2 128).2, m, by omega, by simp; omega, by simp, g1, ?_, by rw [← hL]; simp, ?_, by have := g2.size; omega⟩, by simp only []; omega⟩)
  · exact RIs.extP hr21 g2.toP (fun k hk hm => by obtain ⟨G, _, _, g3⟩ := hm13; have := g3 k hm; omega)
  · exact ext_new hX21 g2 (fun i hi => by obtain ⟨G, _, _, g3⟩ := hm13; have := g3 i hi; omega)

/-! ### May it be? -/
def MayP (l : List Wr) (homes : Int) : Prop := l ≠ [] ∧ (∀ w ∈ l, 0 ≤ w.1 ∧ w.1 < homes ∧ w.2.length = 128) ∧ (l.map (·.1)).Nodup
instance (l : List Wr) (homes : Int) : Decidable (MayP l homes) := by unfold MayP; infer_instance
def mayB (l : List Wr) (homes : Int) : Bool := decide (MayP l homes)
theorem MayP.full {l : List Wr} {homes : Int} (h : MayP l homes) : Full l := fun w hw => (h.2.1 w hw).2.2

theorem nodup_bound (l : List Int) (n : Nat) (hn : l.Nodup) (hb : ∀ k ∈ l, 0 ≤ k ∧ k < n) : l.length ≤ n := by
  have h1 : ∀ k ∈ l, k ∈ (List.range n).map (fun i : Nat => (i : Int)) := fun k hk => by
    obtain ⟨h0, h1⟩ := hb k hk
    exact List.mem_map.2 ⟨k.toNat, by simp; omega, by omega⟩
  have := nodup_le _ l hn h1
  simpa using this
theorem MayP.few {l : List Wr} {homes : Int} {n : Nat} (h : MayP l homes) (hn : homes ≤ n) : l.length ≤ n := by
  have := nodup_bound (l.map (·.1)) n h.2.2 (fun k hk => by
    obtain ⟨w, hw, rfl⟩ := List.mem_map.1 hk
    have := h.2.1 w hw
    omega)
  simpa using this

theorem may_ok {l : List Wr} {a : Option Addr} {c : Nat} (homes : Int) {H : Heap} (hl : l.length ≤ 9000000000000) (h : SeqV writeE H a l) :
    Does Tryz.prog 170 [.slice a l.length c, .int .i64 homes] H fun v H' => v = .bool (mayB l homes) ∧ Ext [] H H' := by
  refine Fn_of_vc Tryz.mixed (vc_may _ _ _ _ _ _) ?_
  intro r1 H2 hm
  have er : r1 = H.size := hm.1
  have hx2 := hm.ext
  have hs2 : H2.size = H.size + 1 := by obtain ⟨_, rfl⟩ := hm; simp
  refine ⟨fun i H' => ∃ j : Nat, i = j ∧ j ≤ l.length ∧ Marks H' r1 ((l.take j).map (·.1)) ∧ (∀ w ∈ l.take j, 0 ≤ w.1 ∧ w.1 < homes ∧ w.2.length = 128) ∧ ((l.take j).map (·.1)).Nodup ∧ Ext [] H H' ∧ H2.size ≤ H'.size, fun i _ => l.length - i.toNat, ⟨0, rfl, by omega, marks_new hm, by simp, by simp, hx2, Nat.le_refl _⟩, ?_⟩
  rintro _ H6 ⟨j, rfl, hj, hmk, hgood, hnd, hx6, hs6⟩
  refine ⟨fun hlt => ?_, fun hge => ⟨?_, hx6⟩⟩
  · have hi : l[j]? = some l[j] := List.getElem?_eq_getElem (by omega)
    have htk : l.take (j + 1) = l.take j ++ [l[j]] := by rw [List.take_add_one, hi]; rfl
    have hmem : l[j] ∈ l := List.getElem_mem _
    have hsub : ∀ w ∈ l.take j, w ∈ l := fun w hw => List.mem_of_mem_take hw
    obtain ⟨b7, o8, a10, c12, ea, g0, g1, gr, _⟩ := (h.ext hx6).wr hi
    have bad : ∀ {H' : Heap}, ¬ MayP l homes → Ext [] H H' → Value.bool false = .bool (mayB l homes) ∧ Ext [] H H' := fun hn he => ⟨by unfold mayB; rw [decide_eq_false hn], he⟩
    have hpre : MayP l homes → ((l.take j ++ [l[j]]).map (·.1)).Nodup := fun hp => by
      rw [← htk, List.map_take]
      exact (List.take_sublist _ _).nodup hp.2.2
    generalize l[j] = w at *
    refine ⟨by omega, hlt, b7, o8, ea, _, by rw [Int.toNat_natCast]; exact g0, a10, _, c12, by rw [Int.toNat_natCast]; exact g1, fun b13 H14 hn14 => ⟨hn14.blk.cells _ _ (by simp), fun H15 hp15 => ?_⟩⟩
    have hb15 : Blk H15 b13 [.int .i64 w.1, .slice a10 w.2.length c12] := by simpa [splice] using hp15.blk hn14.blk (by simp)
    have e13 := hn14.eq
    have hs14 := hn14.size
    have hs15 := hp15.size
    have hX15 : Ext [] H6 H15 := ext_new hn14.ext hp15.ext (by simp; omega)
    have hx15 : Ext [] H H15 := hx6.trans hX15
    have q0 : hcell H15 b13 0 = some (.int .i64 w.1) := by rw [hb15.cell]; rfl
    refine ⟨_, q0, fun e => bad (fun hp => by have := hp.2.1 w hmem; omega) hx15, fun e1 => ⟨_, q0, fun e => bad (fun hp => by have := hp.2.1 w hmem; omega) hx15, fun e2 => ⟨a10, _, c12, by rw [hb15.cell]; rfl, fun e => bad (fun hp => by have := hp.2.1 w hmem; omega) hx15, fun e3 => ?_⟩⟩⟩
    obtain ⟨lm, hml, hget⟩ := hmk.ext hX15 (by simp)
    refine ⟨_, q0, r1, lm, rfl, hml, decide (w.1 ∈ (l.take j).map (·.1)), (hget w.1).symm, fun e => bad (fun hp => ?_) hx15, fun e => ⟨_, q0, r1, lm, rfl, hml, fun H28 hput => ?_⟩⟩
    · have := hpre hp
      rw [List.map_append, List.nodup_append] at this
      exact this.2.2 _ (of_decide_eq_true e) w.1 (by simp) rfl
    · have hnin : w.1 ∉ (l.take j).map (·.1) := of_decide_eq_false e
      obtain ⟨hm28, hx28⟩ := MapPut.is hput (by omega)
      refine ⟨⟨by omega, by omega⟩, ⟨j + 1, by omega, by omega, ⟨_, hm28, fun k => ?_⟩, fun x hx => ?_, ?_, ext_new hx15 hx28 (by simp; omega), by have := hx28.size; omega⟩, by simp only []; omega⟩
      · rw [mapGet_set, hget, htk, List.map_append]
        by_cases hk : k = w.1
        · subst hk; simp
        · rw [if_neg hk]; simp [hk]
      · rw [htk] at hx
        rcases List.mem_append.1 hx with hx | hx
        · exact hgood x hx
        · simp only [List.mem_singleton] at hx; subst hx; exact ⟨by omega, by omega, by omega⟩
      · rw [htk, List.map_append, List.nodup_append]
        refine ⟨hnd, by simp, fun x hx y hy => ?_⟩
        simp only [List.map_cons, List.map_nil, List.mem_singleton] at hy
        subst hy
        exact fun e => hnin (e ▸ hx)
  · have : j = l.length := by omega
    subst this
    rw [List.take_length] at hgood hnd
    refine congrArg Value.bool (dec_bool ?_)
    unfold mayB
    rw [decide_eq_true_eq]
    constructor
    · intro h0
      exact ⟨fun e => by rw [e] at h0; simp at h0, hgood, hnd⟩
    · intro hp
      have := List.length_pos_iff.2 hp.1
      omega

theorem eqfunc_ok {xs ys : List Octs} {a a' : Option Addr} {c c' : Nat} {H : Heap} (hl : xs.length ≤ 1000000) (hx : ∀ x ∈ xs, x.length ≤ 1000000) (h : SeqV bytesC H a xs) (k : SeqV bytesC H a' ys) :
    Does Tryz.prog 210 [.slice a xs.length c, .slice a' ys.length c', .func (.func 152) #[] #[]] H fun v H' => v = .bool (decide (xs = ys)) ∧ H = H' := by
  refine Fn_of_vc Tryz.mixed (vc_eqfunc _ _ _ _ _ _ _ _) ?_
  refine ⟨fun e => ⟨?_, rfl⟩, fun e => ?_⟩
  · have : xs ≠ ys := fun e' => e (by rw [e'])
    simp [this]
  refine ⟨fun i H' => H' = H ∧ ∃ j : Nat, i = j ∧ j ≤ xs.length ∧ xs.take j = ys.take j, fun i _ => xs.length - i.toNat, ⟨rfl, 0, rfl, by omega, rfl⟩, ?_⟩
  rintro _ _ ⟨rfl, j, rfl, hj, ht⟩
  refine ⟨fun hlt => ?_, fun hge => ⟨?_, rfl⟩⟩
  · have hi : xs[j]? = some xs[j] := List.getElem?_eq_getElem (by omega)
    have hi' : ys[j]? = some (ys[j]'(by omega)) := List.getElem?_eq_getElem (by omega)
    obtain ⟨b5, o6, a7, c9, e5, d0, _, dr, _⟩ := h.blk hi
    obtain ⟨b8, o9, a10, c12, e8, f0, _, fr, _⟩ := k.blk hi'
    refine ⟨by omega, hlt, b5, o6, e5, a7, _, c9, by rw [Int.toNat_natCast]; exact d0, by omega, by omega, b8, o9, e8, a10, _, c12, by rw [Int.toNat_natCast]; exact f0, (eqB_ok (hx _ (List.getElem_mem _)) dr fr).mono ?_⟩
    rintro _ _ ⟨rfl, rfl⟩
    refine ⟨_, rfl, fun hne => ⟨?_, rfl⟩, fun heq => ⟨⟨by omega, by omega⟩, ⟨rfl, j + 1, by omega, by omega, ?_⟩, by simp only []; omega⟩⟩
    · have : xs ≠ ys := fun e' => by subst e'; simp at hne
      simp [this]
    · rw [List.take_add_one, List.take_add_one, ht, hi, hi']
      have : xs[j] = ys[j]'(by omega) := by simpa using heq
      rw [this]
  · have e1 : j = xs.length := by omega
    subst e1
    rw [List.take_length, List.take_of_length_le (by omega)] at ht
    simp [ht]
end Go.Proofs
end

section
open Go Go.Vc
namespace Go.Proofs

def restB (blocks : List Octs) : Octs := (blocks.map (·.drop 12)).flatten
def wholeB (h : Hd) (blocks : List Octs) (homes : Int) : List Wr × Int :=
  match blocks with
  | [] => ([], 0)
  | b0 :: _ =>
    if (blocks.length : Int) < numU (rdU (b0, false) 10).2 2 then ([], 0)
    else if mayB (writesM (restB (blocks.take (numU (rdU (b0, false) 10).2 2).toNat))) homes = true ∧ laidB h (writesM (restB (blocks.take (numU (rdU (b0, false) 10).2 2).toNat))) = blocks.take (numU (rdU (b0, false) 10).2 2).toNat
      then (writesM (restB (blocks.take (numU (rdU (b0, false) 10).2 2).toNat)), numU (rdU (b0, false) 10).2 2) else ([], 0)

theorem restB_len {l : List Octs} (h : ∀ x ∈ l, x.length = 128) : (restB l).length = l.length * 116 := by
  unfold restB
  induction l with
  | nil => rfl
  | cons x r ih =>
    have := h x (by simp)
    simp only [List.map_cons, List.flatten_cons, List.length_append, List.length_drop, List.length_cons, ih (fun y hy => h y (by simp [hy])), this]
    omega
theorem restB_snoc (l : List Octs) (x : Octs) : restB (l ++ [x]) = restB l ++ x.drop 12 := by unfold restB; simp

theorem parseW_length : ∀ (n : Nat) (s : Octs × Bool), (parseW n s).length ≤ n
  | 0, _ => by simp [parseW]
  | n + 1, s => by
    rw [parseW]
    split
    · simp
    · have := parseW_length n (rdU (rdU s 4).2 128).2
      simp only [List.length_cons]; omega
theorem cnt_few {l : List Wr} (h : l.length ≤ 5000) : cntN l ≤ 1000000 := by
  rcases Nat.eq_zero_or_pos l.length with h0 | h0
  · rw [cnt_zero' h0]; omega
  · have := cnt_len h0; omega

set_option maxHeartbeats 1000000 in
theorem whole_ok (h : Hd) {blocks : List Octs} (homes : Int) {a : Option Addr} {c : Nat} {H : Heap} (hb : ∀ x ∈ blocks, x.length = 128) (hl : blocks.length ≤ 100000) (hc : blocks.length ≤ c) (hh : homes ≤ 5000) (hs : SeqV bytesC H a blocks) :
    Does Tryz.prog 191 [h.v, .slice a blocks.length c, .int .i64 homes] H fun v H' => ∃ a' c', v = .tuple #[.slice a' (wholeB h blocks homes).1.length c', .int .i64 (wholeB h blocks homes).2] ∧ MySeq writeE H.size H' a' (wholeB h blocks homes).1.length c' (wholeB h blocks homes).1 ∧ Ext [] H H' := by
  refine Fn_of_vc Tryz.mixed (vc_whole _ _ _ _ _ _ _ _ _) ?_
  intro b1 H2 hn2
  have e1 := hn2.eq
  have hs2 := hn2.size
  have hb2 : Blk H2 b1 h.cells := hn2.blk
  have none' : ∀ {H' : Heap}, wholeB h blocks homes = ([], 0) → Ext [] H H' → ∃ a' c', Value.tuple #[.slice none 0 0, .int .i64 0] = .tuple #[.slice a' (wholeB h blocks homes).1.length c', .int .i64 (wholeB h blocks homes).2] ∧ MySeq writeE H.size H' a' (wholeB h blocks homes).1.length c' (wholeB h blocks homes).1 ∧ Ext [] H H' := by
    intro H' e he
    rw [e]
    exact ⟨none, 0, rfl, MySeq.nil _ _ _, he⟩
  refine ⟨fun e0 => none' (by have : blocks = [] := List.length_eq_zero_iff.1 (by omega)
                              rw [this]; rfl) hn2.ext, fun e0 => ?_⟩
  obtain ⟨b0, hb0⟩ : ∃ b0, blocks[0]? = some b0 := ⟨_, List.getElem?_eq_getElem (by omega)⟩
  have hb0l := hb b0 (List.mem_of_getElem? hb0)
  have hcons : ∃ r, blocks = b0 :: r := by
    cases blocks with
    | nil => simp at hb0
    | cons x r => simp at hb0; subst hb0; exact ⟨r, rfl⟩
  have hw : wholeB h blocks homes = (if (blocks.length : Int) < numU (rdU (b0, false) 10).2 2 then ([], 0)
    else if mayB (writesM (restB (blocks.take (numU (rdU (b0, false) 10).2 2).toNat))) homes = true ∧ laidB h (writesM (restB (blocks.take (numU (rdU (b0, false) 10).2 2).toNat))) = blocks.take (numU (rdU (b0, false) 10).2 2).toNat
      then (writesM (restB (blocks.take (numU (rdU (b0, false) 10).2 2).toNat)), numU (rdU (b0, false) 10).2 2) else ([], 0)) := by
    obtain ⟨r, rfl⟩ := hcons
    rfl
  obtain ⟨b3, o4, a5, c7, ea, d0, dc, dr, _⟩ := (hs.ext hn2.ext).blk hb0
  refine ⟨by omega, by omega, b3, o4, ea, a5, _, c7, by simpa using d0, (nrB_ok (by omega) dr).mono ?_⟩
  rintro _ H9 ⟨p, rfl, hr9, hx9⟩
  refine ⟨_, rfl, (rawB_ok (n := 10) (by decide) hr9).mono ?_⟩
  rintro _ H12 ⟨a13, c15, rfl, _, hr12, hx12, _⟩
  refine ⟨_, _, _, rfl, (ruB_ok (n := 2) (.inl ⟨rfl, rfl⟩) hr12).mono ?_⟩
  rintro _ H17 ⟨rfl, _, hx17⟩
  have hx217 : Ext [] H2 H17 := hx9.transP (hx12.trans hx17) (fun i hi => hi)
  have hX17 : Ext [] H H17 := hn2.ext.trans hx217
  obtain ⟨c0, c1⟩ := numU_lt2 (rdU (b0, false) 10).2
  have hb17 := hb2.ext hx217 (by simp)
  generalize numU (rdU (b0, false) 10).2 2 = cnt at *
  refine ⟨_, rfl, fun e => none' (by rw [hw, if_pos e]) hX17, fun e => ⟨c0, by omega, ?_⟩⟩
  rw [if_neg e] at hw
  obtain ⟨m, rfl⟩ : ∃ m : Nat, cnt = m := ⟨cnt.toNat, by omega⟩
  rw [Int.toNat_natCast] at hw ⊢
  have hml : m ≤ blocks.length := by omega
  have hs17 := hs.ext hX17
  refine ⟨fun a21 l22 c23 n H' => ∃ j : Nat, n = j ∧ j ≤ m ∧ (restB (blocks.take j)).length = l22 ∧ Own H' 1 a21 l22 c23 (bytesV (restB (blocks.take j))) ∧ (∀ k ∈ blkOf a21, H17.size ≤ k) ∧ Ext [] H H' ∧ Ext [] H17 H', fun _ _ _ n _ => m - n.toNat,
    ⟨0, rfl, by omega, rfl, Own.nil _ _, by simp [blkOf], hX17, Ext.refl _ _⟩, ?_⟩
  rintro a21 l22 c23 _ H25 ⟨j, rfl, hj, el, ho25, hfr25, hx25, hx1725⟩
  have hlen : (restB (blocks.take j)).length = j * 116 := by
    rw [restB_len (fun x hx => hb x (List.mem_of_mem_take hx)), List.length_take]
    congr 1; omega
  refine ⟨fun hlt => ?_, fun hge => ?_⟩
  · have hi : blocks[j]? = some blocks[j] := List.getElem?_eq_getElem (by omega)
    have htk : blocks.take (j + 1) = blocks.take j ++ [blocks[j]] := by rw [List.take_add_one, hi]; rfl
    have hx128 := hb blocks[j] (List.getElem_mem _)
    obtain ⟨b26, o27, a28, c30, e26, f0, fc, fr, _⟩ := (hs.ext hx25).blk hi
    generalize blocks[j] = x at *
    refine ⟨by omega, hlt, b26, o27, e26, a28, _, c30, by rw [Int.toNat_natCast]; exact f0, by omega, by omega, ?_⟩
    rintro _ rfl
    have r1 := SRow.drop1 (l' := x.length - 12) (c' := c30 - 12) fr (k := 12) (by omega) fc
    have e12 : Int.toNat 12 = 12 := rfl
    rw [e12]
    have ed : bytesV (x.drop 12) = (bytesV x).drop 12 := by simp [bytesV]
    refine ⟨bytesV (restB (blocks.take j)), bytesV (x.drop 12), ho25.row _ _, by rw [ed]; exact r1, bytesV_one _, by omega, fun hle => ho25.room (n := x.length - 12) hle, fun a34 c35 H36 happ => ?_⟩
    obtain ⟨ho36, hx36, hfr36⟩ := happ.own ho25 (ho25.row _ _) (by rw [bytesV_length, List.length_drop]; omega) rfl
    have hX36 := ext_new hx25 hx36 (fun k hk => by have := hfr25 k hk; have := hX17.size; omega)
    refine ⟨⟨by omega, by omega⟩, ⟨j + 1, by omega, by omega, by rw [htk, restB_snoc, List.length_append, List.length_drop]; omega, by rw [htk, restB_snoc, bytesV_append]; exact ho36, fun k hk => ?_, hX36, ?_⟩, by simp only []; omega⟩
    · rcases hfr36 k hk with h' | h'
      · exact hfr25 k h'
      · have := hx1725.size; omega
    · exact ext_new hx1725 hx36 hfr25
  · have : j = m := by omega
    subst this
    subst el
    refine (writes_ok (by omega) (ho25.row _ _)).mono ?_
    rintro _ H38 ⟨a39, c41, rfl, hm38, hx38⟩
    have hwl : (writesM (restB (blocks.take j))).length ≤ 9000000000000 := by
      have := parseW_length (numU (restB (blocks.take j), false) 2).toNat (rdU (restB (blocks.take j), false) 2).2
      have := numU_lt2 (restB (blocks.take j), false)
      unfold writesM; omega
    generalize writesM (restB (blocks.take j)) = l at *
    refine ⟨_, _, _, rfl, (may_ok homes hwl hm38.view).mono ?_⟩
    rintro _ H43 ⟨rfl, hx43⟩
    have hX43 := (hx25.trans hx38).trans hx43
    refine ⟨_, rfl, fun ef => none' (by rw [hw, if_neg (fun hh => by rw [hh.1] at ef; cases ef)]) hX43, fun ef => ?_⟩
    have hmay : mayB l homes = true := by simpa using ef
    have hP : MayP l homes := of_decide_eq_true hmay
    have hb43 : Blk H43 b1 h.cells := ((hb17.ext hx1725 (by simp)).ext hx38 (by simp)).ext hx43 (by simp)
    have hm43 := hm38.ext hx43
    refine ⟨h.epoch, by rw [hb43.cell]; rfl, h.seq, by rw [hb43.cell]; rfl, h.size, by rw [hb43.cell]; rfl, by omega, by omega, (laid_ok h (hP.few (n := 5000) (by omega)) hP.full hm43.view).mono ?_⟩
    rintro _ H49 ⟨a50, c52, rfl, hm49, hx49⟩
    have hX49 := hX43.trans hx49
    have htl : (blocks.take j).length = j := by rw [List.length_take]; omega
    have heq := eqfunc_ok (xs := laidB h l) (ys := blocks.take j) (a := a50) (a' := a) (c := c52) (c' := c) (H := H49) (by rw [laidB_len]; exact cnt_few (hP.few (n := 5000) (by omega))) (fun x hx => by
      obtain ⟨k, hk, rfl⟩ := List.mem_map.1 hx
      rw [jblk_len hP.full (by simpa using hk)]; decide) hm49.view ((hs.ext hX49).take1 j)
    rw [laidB_len, htl] at heq
    refine ⟨_, _, _, rfl, heq.mono ?_⟩
    rintro _ _ ⟨rfl, rfl⟩
    refine ⟨_, rfl, fun en => none' (by rw [hw, if_neg (fun hh => by simp [hh.2] at en)]) hX49, fun en => ?_⟩
    have hq : laidB h l = blocks.take j := by simpa using en
    rw [hw, if_pos ⟨hmay, hq⟩]
    exact ⟨a39, c41, rfl, (hm43.ext hx49).low (by have := hx25.size; omega), hX49⟩
end Go.Proofs
end

section
open Go Go.Vc
namespace Go.Proofs
set_option maxRecDepth 100000
/-- maps.Keys[map[int][]byte,int,[]byte] -/
theorem vc_keys (x0 : Option Nat) (H : Heap) (R : Value → Heap → Prop) : Walk Tryz.prog 212 [] [(.map x0)] H R = (
 ∀ b1 : Nat, ∀ H2 : Heap, New H b1 [(.map x0)] 134 H2 → (
 R (.func (.func 220) #[] #[(.pointer (some (⟨b1, 0, none⟩ : Addr)))]) H2)) := by kernel_rfl


/-- (*pentimento/journal.Journal).goHome -/
theorem vc_gohome (pb0 : Nat) (H : Heap) (R : Value → Heap → Prop) : Walk Tryz.prog 192 [] [(.pointer (some (⟨pb0, 0, none⟩ : Addr)))] H R = (
 ∃ b1 o2 : Nat, (some (⟨pb0, 0, none⟩ : Addr)) = some (⟨b1, o2, none⟩ : Addr) ∧ (
 ∃ m3 : Option Nat, hcell H b1 (o2 + 5) = some (.map m3) ∧ (
 Does Tryz.prog 212 [(.map m3)] H fun v4 H5 => ∃ f6 : FuncId, ∃ fa7 : Array Value, ∃ fc8 : Array Value, v4 = (.func (.func f6) fa7 fc8) ∧ (
 Does Tryz.prog 211 [(.func (.func f6) fa7 fc8)] H5 fun v9 H10 => ∃ a11 : Option Addr, ∃ l12 : Nat, ∃ c13 : Nat, v9 = (.slice a11 l12 c13) ∧ (
 ∃ I14 : Int → Heap → Prop, ∃ μ15 : Int → Heap → Nat, (I14 0 H10) ∧
 ∀ n16 : Int, ∀ H17 : Heap, I14 n16 H17 → (
 ((((n16 : Int) < (l12 : Int)) → (
 (0 : Int) ≤ n16 ∧ (n16 : Int) < (l12 : Int) ∧ ∃ b18 o19 : Nat, a11 = some (⟨b18, o19, none⟩ : Addr) ∧ (
 ∃ n20 : Int, hcell H17 b18 (o19 + (Int.toNat n16)) = some (.int .i64 n20) ∧ (
 ∃ b21 o22 : Nat, (some (⟨pb0, 0, none⟩ : Addr)) = some (⟨b21, o22, none⟩ : Addr) ∧ (
 ∃ p23 : Option Addr, hcell H17 b21 o22 = some (.pointer p23) ∧ (
 ∃ b24 o25 : Nat, (some (⟨pb0, 0, none⟩ : Addr)) = some (⟨b24, o25, none⟩ : Addr) ∧ (
 ∃ n26 : Int, hcell H17 b24 ((o25 + 1) + 2) = some (.int .i64 n26) ∧ (
 (In64 (1 + n26)) ∧
 (In64 ((1 + n26) + n20)) ∧
 ∃ b27 o28 : Nat, (some (⟨pb0, 0, none⟩ : Addr)) = some (⟨b27, o28, none⟩ : Addr) ∧ (
 ∃ m29 : Option Nat, hcell H17 b27 (o28 + 5) = some (.map m29) ∧ (
 ∃ r30 : Nat, ∃ l31 : List (Int × Value), m29 = some r30 ∧ MapIs H17 r30 l31 ∧ ∃ a32 : Option Addr, ∃ l33 : Nat, ∃ c34 : Nat, (.slice a32 l33 c34) = mapGet l31 n20 (.slice none 0 0) ∧ (
 Does Tryz.prog 23 [(.pointer p23), (.int .i64 ((1 + n26) + n20)), (.slice a32 l33 c34)] H17 fun v35 H36 => ∃ n37 : Int, v35 = (.int .i64 n37) ∧ (
 (((((n37 : Int) ≠ 0) → (
 R (.int .i64 n37) H36)) ∧ (¬ ((n37 : Int) ≠ 0) → (
 (In64 (n16 + 1)) ∧
 (I14 (n16 + 1) H36) ∧ μ15 (n16 + 1) H36 < μ15 n16 H17)))))))))))))))) ∧ (¬ ((n16 : Int) < (l12 : Int)) → (
 ∃ b38 o39 : Nat, (some (⟨pb0, 0, none⟩ : Addr)) = some (⟨b38, o39, none⟩ : Addr) ∧ (
 ∃ p40 : Option Addr, hcell H17 b38 o39 = some (.pointer p40) ∧ (
 Does Tryz.prog 25 [(.pointer p40)] H17 fun v41 H42 => ∃ n43 : Int, v41 = (.int .i64 n43) ∧ (
 R (.int .i64 n43) H42)))))))))))) := by kernel_rfl


/-- (*pentimento/journal.Journal).begin -/
theorem vc_begin (pb0 : Nat) (x1_0 : Int) (x1_1 : Int) (x1_2 : Int) (H : Heap) (R : Value → Heap → Prop) : Walk Tryz.prog 193 [] [(.pointer (some (⟨pb0, 0, none⟩ : Addr))), (.agg #[(.int .i64 x1_0), (.int .i64 x1_1), (.int .i64 x1_2)])] H R = (
 ∀ b1 : Nat, ∀ H2 : Heap, New H b1 [(.int .i64 x1_0), (.int .i64 x1_1), (.int .i64 x1_2)] 184 H2 → (
 ∃ b3 o4 : Nat, (some (⟨pb0, 0, none⟩ : Addr)) = some (⟨b3, o4, none⟩ : Addr) ∧ (
 ∃ p5 : Option Addr, hcell H2 b3 o4 = some (.pointer p5) ∧ (
 ∃ n6 : Int, hcell H2 b1 0 = some (.int .i64 n6) ∧ (
 ∃ n7 : Int, hcell H2 b1 (0 + 1) = some (.int .i64 n7) ∧ (
 ∃ n8 : Int, hcell H2 b1 ((0 + 1) + 1) = some (.int .i64 n8) ∧ (
 Does Tryz.prog 178 [(.agg #[(.int .i64 n6), (.int .i64 n7), (.int .i64 n8)])] H2 fun v9 H10 => ∃ a11 : Option Addr, ∃ l12 : Nat, ∃ c13 : Nat, v9 = (.slice a11 l12 c13) ∧ (
 isL H10 b3 o4 [(.pointer p5)] ∧ (Does Tryz.prog 23 [(.pointer p5), (.int .i64 0), (.slice a11 l12 c13)] H10 fun v14 H15 => ∃ n16 : Int, v14 = (.int .i64 n16) ∧ (
 (((((n16 : Int) ≠ 0) → (
 R (.int .i64 n16) H15)) ∧ (¬ ((n16 : Int) ≠ 0) → (
 ∃ b17 o18 : Nat, (some (⟨pb0, 0, none⟩ : Addr)) = some (⟨b17, o18, none⟩ : Addr) ∧ (
 ∃ p19 : Option Addr, hcell H15 b17 o18 = some (.pointer p19) ∧ (
 Does Tryz.prog 25 [(.pointer p19)] H15 fun v20 H21 => ∃ n22 : Int, v20 = (.int .i64 n22) ∧ (
 ((((n22 : Int) ≠ 0) → (
 R (.int .i64 n22) H21)) ∧ (¬ ((n22 : Int) ≠ 0) → (
 ∃ n23 : Int, hcell H21 b1 0 = some (.int .i64 n23) ∧ (
 ∃ n24 : Int, hcell H21 b1 (0 + 1) = some (.int .i64 n24) ∧ (
 ∃ n25 : Int, hcell H21 b1 ((0 + 1) + 1) = some (.int .i64 n25) ∧ (
 ∀ r26 : Nat, ∀ H27 : Heap, NewMap H21 r26 H27 → (
 ∃ b28 o29 : Nat, (some (⟨pb0, 0, none⟩ : Addr)) = some (⟨b28, o29, none⟩ : Addr) ∧ (
 Cells H27 b28 (o29 + 1) 3 ∧ ∀ H30 : Heap, Puts H27 b28 (o29 + 1) [(.int .i64 n23), (.int .i64 n24), (.int .i64 n25)] H30 → (
 ∃ b31 o32 : Nat, (some (⟨pb0, 0, none⟩ : Addr)) = some (⟨b31, o32, none⟩ : Addr) ∧ (
 Cells H30 b31 (o32 + 4) 1 ∧ ∀ H33 : Heap, Puts H30 b31 (o32 + 4) [(.int .i64 0)] H33 → (
 ∃ b34 o35 : Nat, (some (⟨pb0, 0, none⟩ : Addr)) = some (⟨b34, o35, none⟩ : Addr) ∧ (
 Cells H33 b34 (o35 + 5) 1 ∧ ∀ H36 : Heap, Puts H33 b34 (o35 + 5) [(.map (some r26))] H36 → (
 R (.int .i64 0) H36)))))))))))))))))))))))))))))) := by kernel_rfl


/-- (*pentimento/journal.Journal).recover -/
theorem vc_recover (pb0 : Nat) (H : Heap) (R : Value → Heap → Prop) : Walk Tryz.prog 145 [] [(.pointer (some (⟨pb0, 0, none⟩ : Addr)))] H R = (
 ∃ b1 o2 : Nat, (some (⟨pb0, 0, none⟩ : Addr)) = some (⟨b1, o2, none⟩ : Addr) ∧ (
 ∃ n3 : Int, hcell H b1 ((o2 + 1) + 2) = some (.int .i64 n3) ∧ (
 ∃ I4 : Option Addr → Nat → Nat → Int → Heap → Prop, ∃ μ5 : Option Addr → Nat → Nat → Int → Heap → Nat, (I4 none 0 0 0 H) ∧
 ∀ a6 : Option Addr, ∀ l7 : Nat, ∀ c8 : Nat, ∀ n9 : Int, ∀ H10 : Heap, I4 a6 l7 c8 n9 H10 → (
 ((((n9 : Int) < n3) → (
 ∃ b11 o12 : Nat, (some (⟨pb0, 0, none⟩ : Addr)) = some (⟨b11, o12, none⟩ : Addr) ∧ (
 ∃ p13 : Option Addr, hcell H10 b11 o12 = some (.pointer p13) ∧ (
 (In64 (1 + n9)) ∧
 Does Tryz.prog 59 [(.pointer p13), (.int .i64 (1 + n9))] H10 fun v14 H15 => ∃ a16 : Option Addr, ∃ l17 : Nat, ∃ c18 : Nat, ∃ n19 : Int, v14 = (.tuple #[(.slice a16 l17 c18), (.int .i64 n19)]) ∧ (
 ((((n19 : Int) ≠ 0) → (
 R (.int .i64 n19) H15)) ∧ (¬ ((n19 : Int) ≠ 0) → (
 ∀ b20 : Nat, ∀ H21 : Heap, New H15 b20 [(.slice a16 l17 c18)] 33 H21 → (
 ∃ old22 new23 : List Value, SRow H21 1 l7 (.slice a6 l7 c8) old22 ∧ SRow H21 1 1 (.slice (some (⟨b20, 0, none⟩ : Addr)) 1 1) new23 ∧ (∀ u ∈ new23, Value.oneCell' u = true) ∧ (l7 + 1) * 24 ≤ 140737488355328 ∧ (l7 + 1 ≤ c8 → roomOf H21 a6 (l7 * 1) (1 * 1)) ∧ ∀ a24 : Option Addr, ∀ c25 : Nat, ∀ H26 : Heap, App H21 1 33 [(.slice none 0 0)] a6 l7 c8 old22 new23 1 a24 c25 H26 → (
 (In64 (n9 + 1)) ∧
 (I4 a24 (l7 + 1) c25 (n9 + 1) H26) ∧ μ5 a24 (l7 + 1) c25 (n9 + 1) H26 < μ5 a6 l7 c8 n9 H10)))))))))) ∧ (¬ ((n9 : Int) < n3) → (
 ∃ I27 : Option Addr → Nat → Nat → Heap → Prop, ∃ μ28 : Option Addr → Nat → Nat → Heap → Nat, (I27 a6 l7 c8 H10) ∧
 ∀ a29 : Option Addr, ∀ l30 : Nat, ∀ c31 : Nat, ∀ H32 : Heap, I27 a29 l30 c31 H32 → (
 ∃ b33 o34 : Nat, (some (⟨pb0, 0, none⟩ : Addr)) = some (⟨b33, o34, none⟩ : Addr) ∧ (
 ∃ n35 : Int, hcell H32 b33 (o34 + 1) = some (.int .i64 n35) ∧ (
 ∃ n36 : Int, hcell H32 b33 ((o34 + 1) + 1) = some (.int .i64 n36) ∧ (
 ∃ n37 : Int, hcell H32 b33 (((o34 + 1) + 1) + 1) = some (.int .i64 n37) ∧ (
 Does Tryz.prog 147 [(.pointer (some (⟨pb0, 0, none⟩ : Addr)))] H32 fun v38 H39 => ∃ n40 : Int, v38 = (.int .i64 n40) ∧ (
 isL H39 b33 (o34 + 1) [(.int .i64 n35), (.int .i64 n36), (.int .i64 n37)] ∧ (Does Tryz.prog 191 [(.agg #[(.int .i64 n35), (.int .i64 n36), (.int .i64 n37)]), (.slice a29 l30 c31), (.int .i64 n40)] H39 fun v41 H42 => ∃ a43 : Option Addr, ∃ l44 : Nat, ∃ c45 : Nat, ∃ n46 : Int, v41 = (.tuple #[(.slice a43 l44 c45), (.int .i64 n46)]) ∧ (
 (((((n46 : Int) = 0) → (
 Does Tryz.prog 192 [(.pointer (some (⟨pb0, 0, none⟩ : Addr)))] H42 fun v47 H48 => ∃ n49 : Int, v47 = (.int .i64 n49) ∧ (
 ((((n49 : Int) ≠ 0) → (
 R (.int .i64 n49) H48)) ∧ (¬ ((n49 : Int) ≠ 0) → (
 ∃ b50 o51 : Nat, (some (⟨pb0, 0, none⟩ : Addr)) = some (⟨b50, o51, none⟩ : Addr) ∧ (
 ∃ n52 : Int, hcell H48 b50 (o51 + 1) = some (.int .i64 n52) ∧ (
 (In64 (n52 + 1)) ∧
 ∃ b53 o54 : Nat, (some (⟨pb0, 0, none⟩ : Addr)) = some (⟨b53, o54, none⟩ : Addr) ∧ (
 ∃ n55 : Int, hcell H48 b53 ((o54 + 1) + 2) = some (.int .i64 n55) ∧ (
 Does Tryz.prog 193 [(.pointer (some (⟨pb0, 0, none⟩ : Addr))), (.agg #[(.int .i64 (n52 + 1)), (.int .i64 1), (.int .i64 n55)])] H48 fun v56 H57 => ∃ n58 : Int, v56 = (.int .i64 n58) ∧ (
 (R (.int .i64 n58) H57)))))))))))) ∧ (¬ ((n46 : Int) = 0) → (
 ∃ I59 : Int → Heap → Prop, ∃ μ60 : Int → Heap → Nat, (I59 0 H42) ∧
 ∀ n61 : Int, ∀ H62 : Heap, I59 n61 H62 → (
 ((((n61 : Int) < (l44 : Int)) → (
 (0 : Int) ≤ n61 ∧ (n61 : Int) < (l44 : Int) ∧ ∃ b63 o64 : Nat, a43 = some (⟨b63, o64, none⟩ : Addr) ∧ (
 ∃ n65 : Int, hcell H62 b63 (o64 + (Int.toNat n61) * 2) = some (.int .i64 n65) ∧ (
 ∃ a66 : Option Addr, ∃ l67 : Nat, ∃ c68 : Nat, hcell H62 b63 ((o64 + (Int.toNat n61) * 2) + 1) = some (.slice a66 l67 c68) ∧ (
 ∀ b69 : Nat, ∀ H70 : Heap, New H62 b69 [(.int .i64 0), (.slice none 0 0)] 162 H70 → (
 Cells H70 b69 0 2 ∧ ∀ H71 : Heap, Puts H70 b69 0 [(.int .i64 n65), (.slice a66 l67 c68)] H71 → (
 ∃ b72 o73 : Nat, (some (⟨pb0, 0, none⟩ : Addr)) = some (⟨b72, o73, none⟩ : Addr) ∧ (
 ∃ m74 : Option Nat, hcell H71 b72 (o73 + 5) = some (.map m74) ∧ (
 ∃ n75 : Int, hcell H71 b69 0 = some (.int .i64 n75) ∧ (
 ∃ a76 : Option Addr, ∃ l77 : Nat, ∃ c78 : Nat, hcell H71 b69 (0 + 1) = some (.slice a76 l77 c78) ∧ (
 ∃ r79 : Nat, ∃ l80 : List (Int × Value), m74 = some r79 ∧ MapIs H71 r79 l80 ∧ ∀ H81 : Heap, MapPut H71 r79 (mapSet l80 n75 (.slice a76 l77 c78)) H81 → (
 ((In64 (n61 + 1)) ∧
 (I59 (n61 + 1) H81) ∧ μ60 (n61 + 1) H81 < μ60 n61 H62))))))))))))) ∧ (¬ ((n61 : Int) < (l44 : Int)) → (
 (0 : Int) ≤ n46 ∧ (n46 : Int) ≤ (l30 : Int) ∧ ∀ a82 : Option Addr, a82 = (if c31 = (Int.toNat n46) then a29 else Option.map (fun x => Addr.add x ((Int.toNat n46) * 1)) a29) → (
 ∃ b83 o84 : Nat, (some (⟨pb0, 0, none⟩ : Addr)) = some (⟨b83, o84, none⟩ : Addr) ∧ (
 ∃ n85 : Int, hcell H62 b83 ((o84 + 1) + 1) = some (.int .i64 n85) ∧ (
 (In64 (n85 + 1)) ∧
 ∃ b86 o87 : Nat, (some (⟨pb0, 0, none⟩ : Addr)) = some (⟨b86, o87, none⟩ : Addr) ∧ (
 Cells H62 b86 ((o87 + 1) + 1) 1 ∧ ∀ H88 : Heap, Puts H62 b86 ((o87 + 1) + 1) [(.int .i64 (n85 + 1))] H88 → (
 (I27 a82 (l30 - (Int.toNat n46)) (c31 - (Int.toNat n46)) H88) ∧ μ28 a82 (l30 - (Int.toNat n46)) (c31 - (Int.toNat n46)) H88 < μ28 a29 l30 c31 H32)))))))))))))))))))))))))))) := by kernel_rfl


/-- pentimento/journal.Open -/
theorem vc_open (x0 : Option Addr) (H : Heap) (R : Value → Heap → Prop) : Walk Tryz.prog 92 [] [(.pointer x0)] H R = (
 ((((x0 : Option Addr) = none) → (
 R (.tuple #[(.pointer none), (.int .i64 1)]) H)) ∧ (¬ ((x0 : Option Addr) = none) → (
 Does Tryz.prog 144 [(.pointer x0)] H fun v1 H2 => ∃ n3 : Int, ∃ n4 : Int, ∃ n5 : Int, ∃ n6 : Int, v1 = (.tuple #[(.agg #[(.int .i64 n3), (.int .i64 n4), (.int .i64 n5)]), (.int .i64 n6)]) ∧ (
 ∀ b7 : Nat, ∀ H8 : Heap, New H2 b7 [(.int .i64 0), (.int .i64 0), (.int .i64 0)] 184 H8 → (
 Cells H8 b7 0 3 ∧ ∀ H9 : Heap, Puts H8 b7 0 [(.int .i64 n3), (.int .i64 n4), (.int .i64 n5)] H9 → (
 ((((n6 : Int) ≠ 0) → (
 R (.tuple #[(.pointer none), (.int .i64 n6)]) H9)) ∧ (¬ ((n6 : Int) ≠ 0) → (
 ∃ n10 : Int, hcell H9 b7 0 = some (.int .i64 n10) ∧ (
 ∃ n11 : Int, hcell H9 b7 (0 + 1) = some (.int .i64 n11) ∧ (
 ∃ n12 : Int, hcell H9 b7 ((0 + 1) + 1) = some (.int .i64 n12) ∧ (
 ∀ r13 : Nat, ∀ H14 : Heap, NewMap H9 r13 H14 → (
 ∀ b15 : Nat, ∀ H16 : Heap, New H14 b15 [(.pointer x0), (.int .i64 n10), (.int .i64 n11), (.int .i64 n12), (.int .i64 0), (.map (some r13)), (.bool false)] 188 H16 → (
 Does Tryz.prog 145 [(.pointer (some (⟨b15, 0, none⟩ : Addr)))] H16 fun v17 H18 => ∃ n19 : Int, v17 = (.int .i64 n19) ∧ (
 ((((n19 : Int) ≠ 0) → (
 R (.tuple #[(.pointer none), (.int .i64 n19)]) H18)) ∧ (¬ ((n19 : Int) ≠ 0) → (
 R (.tuple #[(.pointer (some (⟨b15, 0, none⟩ : Addr))), (.int .i64 0)]) H18))))))))))))))))))) := by kernel_rfl


/-- pentimento/journal.Format -/
theorem vc_format (x0 : Option Addr) (x1 : Int) (H : Heap) (R : Value → Heap → Prop) : Walk Tryz.prog 116 [] [(.pointer x0), (.int .i64 x1)] H R = (
 ((((x0 : Option Addr) = none) → (
 R (.int .i64 1) H)) ∧ (¬ ((x0 : Option Addr) = none) → (
 Does Tryz.prog 177 [(.pointer x0), (.int .i64 x1)] H fun v1 H2 => ∃ n3 : Int, v1 = (.int .i64 n3) ∧ (
 ((((n3 : Int) < 0) → (
 R (.int .i64 1) H2)) ∧ (¬ ((n3 : Int) < 0) → (
 ∃ I4 : Int → Heap → Prop, ∃ μ5 : Int → Heap → Nat, (I4 0 H2) ∧
 ∀ n6 : Int, ∀ H7 : Heap, I4 n6 H7 → (
 ((((n6 : Int) < x1) → (
 (In64 (1 + n6)) ∧
 (0 : Int) ≤ 128 ∧ (128 : Int) ≤ 128 ∧ (1 : Int) * 128 ≤ 281474976710656 ∧ ∀ b8 : Nat, ∀ H9 : Heap, New H7 b8 (List.replicate (Int.toNat 128) (.int .u8 0)) 5 H9 → (
 Does Tryz.prog 23 [(.pointer x0), (.int .i64 (1 + n6)), (.slice (some (⟨b8, 0, none⟩ : Addr)) (Int.toNat 128) (Int.toNat 128))] H9 fun v10 H11 => ∃ n12 : Int, v10 = (.int .i64 n12) ∧ (
 ((((n12 : Int) ≠ 0) → (
 R (.int .i64 n12) H11)) ∧ (¬ ((n12 : Int) ≠ 0) → (
 (In64 (n6 + 1)) ∧
 (I4 (n6 + 1) H11) ∧ μ5 (n6 + 1) H11 < μ5 n6 H7))))))) ∧ (¬ ((n6 : Int) < x1) → (
 Does Tryz.prog 178 [(.agg #[(.int .i64 1), (.int .i64 1), (.int .i64 x1)])] H7 fun v13 H14 => ∃ a15 : Option Addr, ∃ l16 : Nat, ∃ c17 : Nat, v13 = (.slice a15 l16 c17) ∧ (
 Does Tryz.prog 23 [(.pointer x0), (.int .i64 0), (.slice a15 l16 c17)] H14 fun v18 H19 => ∃ n20 : Int, v18 = (.int .i64 n20) ∧ (
 ((((n20 : Int) ≠ 0) → (
 R (.int .i64 n20) H19)) ∧ (¬ ((n20 : Int) ≠ 0) → (
 Does Tryz.prog 25 [(.pointer x0)] H19 fun v21 H22 => ∃ n23 : Int, v21 = (.int .i64 n23) ∧ (
 R (.int .i64 n23) H22)))))))))))))))))) := by kernel_rfl


/-- (*pentimento/journal.Journal).Home -/
theorem vc_jhome (pb0 : Nat) (H : Heap) (R : Value → Heap → Prop) : Walk Tryz.prog 147 [] [(.pointer (some (⟨pb0, 0, none⟩ : Addr)))] H R = (
 ∃ b1 o2 : Nat, (some (⟨pb0, 0, none⟩ : Addr)) = some (⟨b1, o2, none⟩ : Addr) ∧ (
 ∃ p3 : Option Addr, hcell H b1 o2 = some (.pointer p3) ∧ (
 ∃ b4 o5 : Nat, (some (⟨pb0, 0, none⟩ : Addr)) = some (⟨b4, o5, none⟩ : Addr) ∧ (
 ∃ n6 : Int, hcell H b4 ((o5 + 1) + 2) = some (.int .i64 n6) ∧ (
 Does Tryz.prog 177 [(.pointer p3), (.int .i64 n6)] H fun v7 H8 => ∃ n9 : Int, v7 = (.int .i64 n9) ∧ (
 (R (.int .i64 n9) H8))))))) := by kernel_rfl


/-- (*pentimento/journal.Journal).Free -/
theorem vc_free (pb0 : Nat) (H : Heap) (R : Value → Heap → Prop) : Walk Tryz.prog 171 [] [(.pointer (some (⟨pb0, 0, none⟩ : Addr)))] H R = (
 ∃ b1 o2 : Nat, (some (⟨pb0, 0, none⟩ : Addr)) = some (⟨b1, o2, none⟩ : Addr) ∧ (
 ∃ n3 : Int, hcell H b1 ((o2 + 1) + 2) = some (.int .i64 n3) ∧ (
 ∃ b4 o5 : Nat, (some (⟨pb0, 0, none⟩ : Addr)) = some (⟨b4, o5, none⟩ : Addr) ∧ (
 ∃ n6 : Int, hcell H b4 (o5 + 4) = some (.int .i64 n6) ∧ (
 (In64 (n3 - n6)) ∧
 R (.int .i64 (n3 - n6)) H))))) := by kernel_rfl


/-- (*pentimento/journal.Journal).Dead -/
theorem vc_jdead (pb0 : Nat) (H : Heap) (R : Value → Heap → Prop) : Walk Tryz.prog 111 [] [(.pointer (some (⟨pb0, 0, none⟩ : Addr)))] H R = (
 ∃ b1 o2 : Nat, (some (⟨pb0, 0, none⟩ : Addr)) = some (⟨b1, o2, none⟩ : Addr) ∧ (
 ∃ t3 : Bool, hcell H b1 (o2 + 6) = some (.bool t3) ∧ (
 R (.bool t3) H))) := by kernel_rfl


/-- (*pentimento/journal.Journal).ends -/
theorem vc_ends (pb0 : Nat) (x1 : Int) (H : Heap) (R : Value → Heap → Prop) : Walk Tryz.prog 173 [] [(.pointer (some (⟨pb0, 0, none⟩ : Addr))), (.int .i64 x1)] H R = (
 ∃ b1 o2 : Nat, (some (⟨pb0, 0, none⟩ : Addr)) = some (⟨b1, o2, none⟩ : Addr) ∧ (
 ∃ t3 : Bool, hcell H b1 (o2 + 6) = some (.bool t3) ∧ (
 ((t3 = true → (
 ∃ b4 o5 : Nat, (some (⟨pb0, 0, none⟩ : Addr)) = some (⟨b4, o5, none⟩ : Addr) ∧ (
 Cells H b4 (o5 + 6) 1 ∧ ∀ H6 : Heap, Puts H b4 (o5 + 6) [(.bool true)] H6 → (
 R (.int .i64 x1) H6)))) ∧ (t3 = false → (
 ∃ b7 o8 : Nat, (some (⟨pb0, 0, none⟩ : Addr)) = some (⟨b7, o8, none⟩ : Addr) ∧ (
 Cells H b7 (o8 + 6) 1 ∧ ∀ H9 : Heap, Puts H b7 (o8 + 6) [(.bool (@decide ((x1 : Int) = 4) (Classical.propDecidable _)))] H9 → (
 R (.int .i64 x1) H9)))))))) := by kernel_rfl


/-- (*pentimento/journal.Journal).Read -/
theorem vc_jread (pb0 : Nat) (x1 : Int) (H : Heap) (R : Value → Heap → Prop) : Walk Tryz.prog 146 [] [(.pointer (some (⟨pb0, 0, none⟩ : Addr))), (.int .i64 x1)] H R = (
 ((((x1 : Int) < 0) → (
 R (.tuple #[(.slice none 0 0), (.int .i64 1)]) H)) ∧ (¬ ((x1 : Int) < 0) → (
 Does Tryz.prog 147 [(.pointer (some (⟨pb0, 0, none⟩ : Addr)))] H fun v1 H2 => ∃ n3 : Int, v1 = (.int .i64 n3) ∧ (
 ((((n3 : Int) ≤ x1) → (
 R (.tuple #[(.slice none 0 0), (.int .i64 1)]) H2)) ∧ (¬ ((n3 : Int) ≤ x1) → (
 ∃ b4 o5 : Nat, (some (⟨pb0, 0, none⟩ : Addr)) = some (⟨b4, o5, none⟩ : Addr) ∧ (
 ∃ t6 : Bool, hcell H2 b4 (o5 + 6) = some (.bool t6) ∧ (
 ((t6 = true → (
 R (.tuple #[(.slice none 0 0), (.int .i64 4)]) H2)) ∧ (t6 = false → (
 ∃ b7 o8 : Nat, (some (⟨pb0, 0, none⟩ : Addr)) = some (⟨b7, o8, none⟩ : Addr) ∧ (
 ∃ m9 : Option Nat, hcell H2 b7 (o8 + 5) = some (.map m9) ∧ (
 ∃ r10 : Nat, ∃ l11 : List (Int × Value), m9 = some r10 ∧ MapIs H2 r10 l11 ∧ ∃ a12 : Option Addr, ∃ l13 : Nat, ∃ c14 : Nat, (.slice a12 l13 c14) = mapGet l11 x1 (.slice none 0 0) ∧ (
 (((mapHas l11 x1) = true → (
 Does Tryz.prog 89 [(.slice a12 l13 c14)] H2 fun v15 H16 => ∃ a17 : Option Addr, ∃ l18 : Nat, ∃ c19 : Nat, v15 = (.slice a17 l18 c19) ∧ (
 R (.tuple #[(.slice a17 l18 c19), (.int .i64 0)]) H16))) ∧ ((mapHas l11 x1) = false → (
 ∃ b20 o21 : Nat, (some (⟨pb0, 0, none⟩ : Addr)) = some (⟨b20, o21, none⟩ : Addr) ∧ (
 ∃ p22 : Option Addr, hcell H2 b20 o21 = some (.pointer p22) ∧ (
 ∃ b23 o24 : Nat, (some (⟨pb0, 0, none⟩ : Addr)) = some (⟨b23, o24, none⟩ : Addr) ∧ (
 ∃ n25 : Int, hcell H2 b23 ((o24 + 1) + 2) = some (.int .i64 n25) ∧ (
 (In64 (1 + n25)) ∧
 (In64 ((1 + n25) + x1)) ∧
 Does Tryz.prog 59 [(.pointer p22), (.int .i64 ((1 + n25) + x1))] H2 fun v26 H27 => ∃ a28 : Option Addr, ∃ l29 : Nat, ∃ c30 : Nat, ∃ n31 : Int, v26 = (.tuple #[(.slice a28 l29 c30), (.int .i64 n31)]) ∧ (
 (Does Tryz.prog 173 [(.pointer (some (⟨pb0, 0, none⟩ : Addr))), (.int .i64 n31)] H27 fun v32 H33 => ∃ n34 : Int, v32 = (.int .i64 n34) ∧ (
 R (.tuple #[(.slice a28 l29 c30), (.int .i64 n34)]) H33)))))))))))))))))))))))))) := by kernel_rfl


/-- (*pentimento/journal.Journal).lay -/
theorem vc_jlay (pb0 : Nat) (x1 : Option Addr) (x1l : Nat) (x1c : Nat) (H : Heap) (R : Value → Heap → Prop) : Walk Tryz.prog 174 [] [(.pointer (some (⟨pb0, 0, none⟩ : Addr))), (.slice x1 x1l x1c)] H R = (
 ∃ b1 o2 : Nat, (some (⟨pb0, 0, none⟩ : Addr)) = some (⟨b1, o2, none⟩ : Addr) ∧ (
 ∃ n3 : Int, hcell H b1 (o2 + 1) = some (.int .i64 n3) ∧ (
 ∃ n4 : Int, hcell H b1 ((o2 + 1) + 1) = some (.int .i64 n4) ∧ (
 ∃ n5 : Int, hcell H b1 (((o2 + 1) + 1) + 1) = some (.int .i64 n5) ∧ (
 Does Tryz.prog 203 [(.agg #[(.int .i64 n3), (.int .i64 n4), (.int .i64 n5)]), (.slice x1 x1l x1c)] H fun v6 H7 => ∃ a8 : Option Addr, ∃ l9 : Nat, ∃ c10 : Nat, v6 = (.slice a8 l9 c10) ∧ (
 ∃ I11 : Int → Heap → Prop, ∃ μ12 : Int → Heap → Nat, (I11 0 H7) ∧
 ∀ n13 : Int, ∀ H14 : Heap, I11 n13 H14 → (
 ((((n13 : Int) < (l9 : Int)) → (
 (0 : Int) ≤ n13 ∧ (n13 : Int) < (l9 : Int) ∧ ∃ b15 o16 : Nat, a8 = some (⟨b15, o16, none⟩ : Addr) ∧ (
 ∃ a17 : Option Addr, ∃ l18 : Nat, ∃ c19 : Nat, hcell H14 b15 (o16 + (Int.toNat n13)) = some (.slice a17 l18 c19) ∧ (
 ∃ b20 o21 : Nat, (some (⟨pb0, 0, none⟩ : Addr)) = some (⟨b20, o21, none⟩ : Addr) ∧ (
 ∃ p22 : Option Addr, hcell H14 b20 o21 = some (.pointer p22) ∧ (
 ∃ b23 o24 : Nat, (some (⟨pb0, 0, none⟩ : Addr)) = some (⟨b23, o24, none⟩ : Addr) ∧ (
 ∃ n25 : Int, hcell H14 b23 (o24 + 4) = some (.int .i64 n25) ∧ (
 (In64 (1 + n25)) ∧
 Does Tryz.prog 23 [(.pointer p22), (.int .i64 (1 + n25)), (.slice a17 l18 c19)] H14 fun v26 H27 => ∃ n28 : Int, v26 = (.int .i64 n28) ∧ (
 (((((n28 : Int) ≠ 0) → (
 R (.int .i64 n28) H27)) ∧ (¬ ((n28 : Int) ≠ 0) → (
 ∃ b29 o30 : Nat, (some (⟨pb0, 0, none⟩ : Addr)) = some (⟨b29, o30, none⟩ : Addr) ∧ (
 ∃ n31 : Int, hcell H27 b29 (o30 + 4) = some (.int .i64 n31) ∧ (
 (In64 (n31 + 1)) ∧
 ∃ b32 o33 : Nat, (some (⟨pb0, 0, none⟩ : Addr)) = some (⟨b32, o33, none⟩ : Addr) ∧ (
 Cells H27 b32 (o33 + 4) 1 ∧ ∀ H34 : Heap, Puts H27 b32 (o33 + 4) [(.int .i64 (n31 + 1))] H34 → (
 (In64 (n13 + 1)) ∧
 (I11 (n13 + 1) H34) ∧ μ12 (n13 + 1) H34 < μ12 n13 H14))))))))))))))))) ∧ (¬ ((n13 : Int) < (l9 : Int)) → (
 ∃ I35 : Int → Heap → Prop, ∃ μ36 : Int → Heap → Nat, (I35 0 H14) ∧
 ∀ n37 : Int, ∀ H38 : Heap, I35 n37 H38 → (
 ((((n37 : Int) < (x1l : Int)) → (
 (0 : Int) ≤ n37 ∧ (n37 : Int) < (x1l : Int) ∧ ∃ b39 o40 : Nat, x1 = some (⟨b39, o40, none⟩ : Addr) ∧ (
 ∃ n41 : Int, hcell H38 b39 (o40 + (Int.toNat n37) * 2) = some (.int .i64 n41) ∧ (
 ∃ a42 : Option Addr, ∃ l43 : Nat, ∃ c44 : Nat, hcell H38 b39 ((o40 + (Int.toNat n37) * 2) + 1) = some (.slice a42 l43 c44) ∧ (
 ∀ b45 : Nat, ∀ H46 : Heap, New H38 b45 [(.int .i64 0), (.slice none 0 0)] 162 H46 → (
 Cells H46 b45 0 2 ∧ ∀ H47 : Heap, Puts H46 b45 0 [(.int .i64 n41), (.slice a42 l43 c44)] H47 → (
 ∃ b48 o49 : Nat, (some (⟨pb0, 0, none⟩ : Addr)) = some (⟨b48, o49, none⟩ : Addr) ∧ (
 ∃ m50 : Option Nat, hcell H47 b48 (o49 + 5) = some (.map m50) ∧ (
 ∃ n51 : Int, hcell H47 b45 0 = some (.int .i64 n51) ∧ (
 ∃ a52 : Option Addr, ∃ l53 : Nat, ∃ c54 : Nat, hcell H47 b45 (0 + 1) = some (.slice a52 l53 c54) ∧ (
 Does Tryz.prog 89 [(.slice a52 l53 c54)] H47 fun v55 H56 => ∃ a57 : Option Addr, ∃ l58 : Nat, ∃ c59 : Nat, v55 = (.slice a57 l58 c59) ∧ (
 isL H56 b45 0 [(.int .i64 n51)] ∧ isL H56 b48 (o49 + 5) [(.map m50)] ∧ (∃ r60 : Nat, ∃ l61 : List (Int × Value), m50 = some r60 ∧ MapIs H56 r60 l61 ∧ ∀ H62 : Heap, MapPut H56 r60 (mapSet l61 n51 (.slice a57 l58 c59)) H62 → (
 ((In64 (n37 + 1)) ∧
 (I35 (n37 + 1) H62) ∧ μ36 (n37 + 1) H62 < μ36 n37 H38))))))))))))))) ∧ (¬ ((n37 : Int) < (x1l : Int)) → (
 ∃ b63 o64 : Nat, (some (⟨pb0, 0, none⟩ : Addr)) = some (⟨b63, o64, none⟩ : Addr) ∧ (
 ∃ n65 : Int, hcell H38 b63 ((o64 + 1) + 1) = some (.int .i64 n65) ∧ (
 (In64 (n65 + 1)) ∧
 ∃ b66 o67 : Nat, (some (⟨pb0, 0, none⟩ : Addr)) = some (⟨b66, o67, none⟩ : Addr) ∧ (
 Cells H38 b66 ((o67 + 1) + 1) 1 ∧ ∀ H68 : Heap, Puts H38 b66 ((o67 + 1) + 1) [(.int .i64 (n65 + 1))] H68 → (
 R (.int .i64 0) H68)))))))))))))))))) := by kernel_rfl


/-- (*pentimento/journal.Journal).Commit -/
theorem vc_commit (pb0 : Nat) (x1 : Option Addr) (x1l : Nat) (x1c : Nat) (H : Heap) (R : Value → Heap → Prop) : Walk Tryz.prog 113 [] [(.pointer (some (⟨pb0, 0, none⟩ : Addr))), (.slice x1 x1l x1c)] H R = (
 Does Tryz.prog 147 [(.pointer (some (⟨pb0, 0, none⟩ : Addr)))] H fun v1 H2 => ∃ n3 : Int, v1 = (.int .i64 n3) ∧ (
 Does Tryz.prog 170 [(.slice x1 x1l x1c), (.int .i64 n3)] H2 fun v4 H5 => ∃ t6 : Bool, v4 = (.bool t6) ∧ (
 (((t6 = false) → (
 R (.int .i64 1) H5)) ∧ (¬ (t6 = false) → (
 ∃ b7 o8 : Nat, (some (⟨pb0, 0, none⟩ : Addr)) = some (⟨b7, o8, none⟩ : Addr) ∧ (
 ∃ t9 : Bool, hcell H5 b7 (o8 + 6) = some (.bool t9) ∧ (
 ((t9 = true → (
 R (.int .i64 4) H5)) ∧ (t9 = false → (
 ∃ b10 o11 : Nat, (some (⟨pb0, 0, none⟩ : Addr)) = some (⟨b10, o11, none⟩ : Addr) ∧ (
 ∃ n12 : Int, hcell H5 b10 ((o11 + 1) + 2) = some (.int .i64 n12) ∧ (
 Does Tryz.prog 119 [(.int .i64 (x1l : Int))] H5 fun v13 H14 => ∃ n15 : Int, v13 = (.int .i64 n15) ∧ (
 isL H14 b10 ((o11 + 1) + 2) [(.int .i64 n12)] ∧ (((((n12 : Int) < n15) → (
 R (.int .i64 5) H14)) ∧ (¬ ((n12 : Int) < n15) → (
 Does Tryz.prog 119 [(.int .i64 (x1l : Int))] H14 fun v16 H17 => ∃ n18 : Int, v16 = (.int .i64 n18) ∧ (
 Does Tryz.prog 171 [(.pointer (some (⟨pb0, 0, none⟩ : Addr)))] H17 fun v19 H20 => ∃ n21 : Int, v19 = (.int .i64 n21) ∧ (
 ((((n21 : Int) < n18) → (
 Does Tryz.prog 172 [(.pointer (some (⟨pb0, 0, none⟩ : Addr)))] H20 fun v22 H23 => ∃ n24 : Int, v22 = (.int .i64 n24) ∧ (
 ((((n24 : Int) ≠ 0) → (
 R (.int .i64 n24) H23)) ∧ (¬ ((n24 : Int) ≠ 0) → (
 Does Tryz.prog 174 [(.pointer (some (⟨pb0, 0, none⟩ : Addr))), (.slice x1 x1l x1c)] H23 fun v25 H26 => ∃ n27 : Int, v25 = (.int .i64 n27) ∧ (
 Does Tryz.prog 173 [(.pointer (some (⟨pb0, 0, none⟩ : Addr))), (.int .i64 n27)] H26 fun v28 H29 => ∃ n30 : Int, v28 = (.int .i64 n30) ∧ (
 R (.int .i64 n30) H29)))))))) ∧ (¬ ((n21 : Int) < n18) → (
 Does Tryz.prog 174 [(.pointer (some (⟨pb0, 0, none⟩ : Addr))), (.slice x1 x1l x1c)] H20 fun v31 H32 => ∃ n33 : Int, v31 = (.int .i64 n33) ∧ (
 Does Tryz.prog 173 [(.pointer (some (⟨pb0, 0, none⟩ : Addr))), (.int .i64 n33)] H32 fun v34 H35 => ∃ n36 : Int, v34 = (.int .i64 n36) ∧ (
 R (.int .i64 n36) H35))))))))))))))))))))))))) := by kernel_rfl


/-- (*pentimento/journal.Journal).Sync -/
theorem vc_sync (pb0 : Nat) (H : Heap) (R : Value → Heap → Prop) : Walk Tryz.prog 121 [] [(.pointer (some (⟨pb0, 0, none⟩ : Addr)))] H R = (
 ∃ b1 o2 : Nat, (some (⟨pb0, 0, none⟩ : Addr)) = some (⟨b1, o2, none⟩ : Addr) ∧ (
 ∃ t3 : Bool, hcell H b1 (o2 + 6) = some (.bool t3) ∧ (
 ((t3 = true → (
 R (.int .i64 4) H)) ∧ (t3 = false → (
 ∃ b4 o5 : Nat, (some (⟨pb0, 0, none⟩ : Addr)) = some (⟨b4, o5, none⟩ : Addr) ∧ (
 ∃ p6 : Option Addr, hcell H b4 o5 = some (.pointer p6) ∧ (
 Does Tryz.prog 25 [(.pointer p6)] H fun v7 H8 => ∃ n9 : Int, v7 = (.int .i64 n9) ∧ (
 Does Tryz.prog 173 [(.pointer (some (⟨pb0, 0, none⟩ : Addr))), (.int .i64 n9)] H8 fun v10 H11 => ∃ n12 : Int, v10 = (.int .i64 n12) ∧ (
 R (.int .i64 n12) H11)))))))))) := by kernel_rfl


/-- (*pentimento/journal.Journal).checkpoint -/
theorem vc_ckpt (pb0 : Nat) (H : Heap) (R : Value → Heap → Prop) : Walk Tryz.prog 202 [] [(.pointer (some (⟨pb0, 0, none⟩ : Addr)))] H R = (
 ∃ b1 o2 : Nat, (some (⟨pb0, 0, none⟩ : Addr)) = some (⟨b1, o2, none⟩ : Addr) ∧ (
 ∃ p3 : Option Addr, hcell H b1 o2 = some (.pointer p3) ∧ (
 Does Tryz.prog 25 [(.pointer p3)] H fun v4 H5 => ∃ n6 : Int, v4 = (.int .i64 n6) ∧ (
 ((((n6 : Int) ≠ 0) → (
 R (.int .i64 n6) H5)) ∧ (¬ ((n6 : Int) ≠ 0) → (
 Does Tryz.prog 192 [(.pointer (some (⟨pb0, 0, none⟩ : Addr)))] H5 fun v7 H8 => ∃ n9 : Int, v7 = (.int .i64 n9) ∧ (
 ((((n9 : Int) ≠ 0) → (
 R (.int .i64 n9) H8)) ∧ (¬ ((n9 : Int) ≠ 0) → (
 ∃ b10 o11 : Nat, (some (⟨pb0, 0, none⟩ : Addr)) = some (⟨b10, o11, none⟩ : Addr) ∧ (
 ∃ n12 : Int, hcell H8 b10 (o11 + 1) = some (.int .i64 n12) ∧ (
 ∃ n13 : Int, hcell H8 b10 ((o11 + 1) + 1) = some (.int .i64 n13) ∧ (
 ∃ n14 : Int, hcell H8 b10 (((o11 + 1) + 1) + 1) = some (.int .i64 n14) ∧ (
 Does Tryz.prog 193 [(.pointer (some (⟨pb0, 0, none⟩ : Addr))), (.agg #[(.int .i64 n12), (.int .i64 n13), (.int .i64 n14)])] H8 fun v15 H16 => ∃ n17 : Int, v15 = (.int .i64 n17) ∧ (
 R (.int .i64 n17) H16)))))))))))))))) := by kernel_rfl


/-- (*pentimento/journal.Journal).Checkpoint -/
theorem vc_checkpoint (pb0 : Nat) (H : Heap) (R : Value → Heap → Prop) : Walk Tryz.prog 172 [] [(.pointer (some (⟨pb0, 0, none⟩ : Addr)))] H R = (
 ∃ b1 o2 : Nat, (some (⟨pb0, 0, none⟩ : Addr)) = some (⟨b1, o2, none⟩ : Addr) ∧ (
 ∃ t3 : Bool, hcell H b1 (o2 + 6) = some (.bool t3) ∧ (
 ((t3 = true → (
 R (.int .i64 4) H)) ∧ (t3 = false → (
 Does Tryz.prog 202 [(.pointer (some (⟨pb0, 0, none⟩ : Addr)))] H fun v4 H5 => ∃ n6 : Int, v4 = (.int .i64 n6) ∧ (
 Does Tryz.prog 173 [(.pointer (some (⟨pb0, 0, none⟩ : Addr))), (.int .i64 n6)] H5 fun v7 H8 => ∃ n9 : Int, v7 = (.int .i64 n9) ∧ (
 R (.int .i64 n9) H8)))))))) := by kernel_rfl


end Go.Proofs
end

section
open Go Go.Vc
namespace Go.Proofs
section
open Go.Shelf
def Tryz.keysA_ren : Go.Shelf.Ren := ⟨fun | 7 => 212 | 10 => 220 | n => n, fun | 23 => 134 | 26 => 3 | 3 => 33 | 28 => 242 | 0 => 0 | 27 => 241 | 33 => 112 | 4 => 4 | n => n, fun | n => n⟩
theorem Tryz.keysA : Go.Proofs.SlLaysZI.n7 Tryz.prog Tryz.keysA_ren := {
  mixed := by kernel_rfl
  f7 := ⟨Tryz.f212.name, by decide, Tryz.func212.trans (congrArg some (by kernel_rfl))⟩
  f10 := ⟨Tryz.f220.name, by decide, Tryz.func220.trans (congrArg some (by kernel_rfl))⟩
  t0 := Tryz.underlying0
  a0 := Tryz.isAgg0
  z0 := Tryz.sizeOf0
  v0 := Tryz.zeroValue0
  t4 := Tryz.underlying4
  a4 := Tryz.isAgg4
  z4 := Tryz.sizeOf4
  v4 := Tryz.zeroValue4
  t23 := Tryz.underlying134
  a23 := Tryz.isAgg134
  z23 := Tryz.sizeOf134
  v23 := Tryz.zeroValue134
  t26 := Tryz.underlying3
  a26 := Tryz.isAgg3
  z26 := Tryz.sizeOf3
  v26 := Tryz.zeroValue3
  t27 := Tryz.underlying241
  a27 := Tryz.isAgg241
  z27 := Tryz.sizeOf241
  v27 := Tryz.zeroValue241
  t28 := Tryz.underlying242
  a28 := Tryz.isAgg242
  z28 := Tryz.sizeOf242
  v28 := Tryz.zeroValue242
  t33 := Tryz.underlying112
  a33 := Tryz.isAgg112
  z33 := Tryz.sizeOf112
  v33 := Tryz.zeroValue112 }
def Tryz.sortedA_ren : Go.Shelf.Ren := ⟨fun | 6 => 211 | 8 => 218 | 9 => 219 | 11 => 222 | 13 => 224 | 12 => 223 | 23 => 234 | 24 => 235 | 14 => 225 | 15 => 226 | 16 => 227 | 17 => 228 | 18 => 229 | 19 => 230 | 20 => 231 | 21 => 232 | 22 => 233 | 25 => 236 | 26 => 237 | 27 => 238 | 28 => 239 | 29 => 240 | 30 => 241 | 31 => 242 | n => n, fun | 26 => 3 | 28 => 242 | 24 => 23 | 0 => 0 | 3 => 3 | 37 => 157 | 48 => 263 | 50 => 178 | 4 => 4 | 40 => 256 | 39 => 255 | 45 => 205 | 5 => 5 | 9 => 9 | 51 => 265 | 55 => 269 | 57 => 271 | 58 => 246 | 33 => 112 | n => n, fun | n => n⟩
theorem Tryz.sortedA : Go.Proofs.SlLaysZI.n6 Tryz.prog Tryz.sortedA_ren := {
  mixed := by kernel_rfl
  f6 := ⟨Tryz.f211.name, by decide, Tryz.func211.trans (congrArg some (by kernel_rfl))⟩
  f8 := ⟨Tryz.f218.name, by decide, Tryz.func218.trans (congrArg some (by kernel_rfl))⟩
  f11 := ⟨Tryz.f222.name, by decide, Tryz.func222.trans (congrArg some (by kernel_rfl))⟩
  t0 := Tryz.underlying0
  a0 := Tryz.isAgg0
  z0 := Tryz.sizeOf0
  v0 := Tryz.zeroValue0
  t24 := Tryz.underlying23
  a24 := Tryz.isAgg23
  z24 := Tryz.sizeOf23
  v24 := Tryz.zeroValue23
  t26 := Tryz.underlying3
  a26 := Tryz.isAgg3
  z26 := Tryz.sizeOf3
  v26 := Tryz.zeroValue3
  t28 := Tryz.underlying242
  a28 := Tryz.isAgg242
  z28 := Tryz.sizeOf242
  v28 := Tryz.zeroValue242
  i26 := by kernel_rfl }
def Tryz.sortA_ren : Go.Shelf.Ren := ⟨fun | 5 => 219 | 8 => 224 | 7 => 223 | 19 => 234 | 20 => 235 | 10 => 225 | 11 => 226 | 12 => 227 | 13 => 228 | 14 => 229 | 15 => 230 | 16 => 231 | 17 => 232 | 18 => 233 | 30 => 236 | 31 => 237 | 32 => 238 | 33 => 239 | 34 => 240 | 35 => 241 | 40 => 242 | n => n, fun | 23 => 23 | 25 => 3 | 3 => 3 | 32 => 157 | 22 => 23 | 0 => 0 | 44 => 263 | 46 => 178 | 4 => 4 | 36 => 256 | 35 => 255 | 41 => 205 | 5 => 5 | 9 => 9 | 53 => 265 | 57 => 269 | 63 => 271 | 64 => 246 | n => n, fun | n => n⟩
theorem Tryz.sortA : Go.Proofs.SlLaysM.n5 Tryz.prog Tryz.sortA_ren := {
  mixed := by kernel_rfl
  f5 := ⟨Tryz.f219.name, by decide, Tryz.func219.trans (congrArg some (by kernel_rfl))⟩
  f7 := ⟨Tryz.f223.name, by decide, Tryz.func223.trans (congrArg some (by kernel_rfl))⟩
  f8 := Tryz.func224.trans (congrArg some (by kernel_rfl))
  f10 := ⟨Tryz.f225.name, by decide, Tryz.func225.trans (congrArg some (by kernel_rfl))⟩
  f11 := ⟨Tryz.f226.name, by decide, Tryz.func226.trans (congrArg some (by kernel_rfl))⟩
  f12 := ⟨Tryz.f227.name, by decide, Tryz.func227.trans (congrArg some (by kernel_rfl))⟩
  f13 := ⟨Tryz.f228.name, by decide, Tryz.func228.trans (congrArg some (by kernel_rfl))⟩
  f14 := ⟨Tryz.f229.name, by decide, Tryz.func229.trans (congrArg some (by kernel_rfl))⟩
  f15 := ⟨Tryz.f230.name, by decide, Tryz.func230.trans (congrArg some (by kernel_rfl))⟩
  f16 := ⟨Tryz.f231.name, by decide, Tryz.func231.trans (congrArg some (by kernel_rfl))⟩
  f17 := ⟨Tryz.f232.name, by decide, Tryz.func232.trans (congrArg some (by kernel_rfl))⟩
  f18 := ⟨Tryz.f233.name, by decide, Tryz.func233.trans (congrArg some (by kernel_rfl))⟩
  f19 := Tryz.func234.trans (congrArg some (by kernel_rfl))
  f20 := Tryz.func235.trans (congrArg some (by kernel_rfl))
  f30 := ⟨Tryz.f236.name, by decide, Tryz.func236.trans (congrArg some (by kernel_rfl))⟩
  f31 := Tryz.func237.trans (congrArg some (by kernel_rfl))
  f32 := Tryz.func238.trans (congrArg some (by kernel_rfl))
  f33 := ⟨Tryz.f239.name, by decide, Tryz.func239.trans (congrArg some (by kernel_rfl))⟩
  f34 := ⟨Tryz.f240.name, by decide, Tryz.func240.trans (congrArg some (by kernel_rfl))⟩
  f35 := ⟨Tryz.f241.name, by decide, Tryz.func241.trans (congrArg some (by kernel_rfl))⟩
  f40 := ⟨Tryz.f242.name, by decide, Tryz.func242.trans (congrArg some (by kernel_rfl))⟩
  t0 := Tryz.underlying0
  a0 := Tryz.isAgg0
  z0 := Tryz.sizeOf0
  v0 := Tryz.zeroValue0
  t3 := Tryz.underlying3
  a3 := Tryz.isAgg3
  z3 := Tryz.sizeOf3
  v3 := Tryz.zeroValue3
  t4 := Tryz.underlying4
  a4 := Tryz.isAgg4
  z4 := Tryz.sizeOf4
  v4 := Tryz.zeroValue4
  t5 := Tryz.underlying5
  a5 := Tryz.isAgg5
  z5 := Tryz.sizeOf5
  v5 := Tryz.zeroValue5
  t9 := Tryz.underlying9
  a9 := Tryz.isAgg9
  z9 := Tryz.sizeOf9
  v9 := Tryz.zeroValue9
  t22 := Tryz.underlying23
  a22 := Tryz.isAgg23
  z22 := Tryz.sizeOf23
  v22 := Tryz.zeroValue23
  t23 := Tryz.underlying23
  a23 := Tryz.isAgg23
  z23 := Tryz.sizeOf23
  v23 := Tryz.zeroValue23
  t25 := Tryz.underlying3
  a25 := Tryz.isAgg3
  z25 := Tryz.sizeOf3
  v25 := Tryz.zeroValue3
  t32 := Tryz.underlying157
  a32 := Tryz.isAgg157
  z32 := Tryz.sizeOf157
  v32 := Tryz.zeroValue157
  t35 := Tryz.underlying255
  a35 := Tryz.isAgg255
  z35 := Tryz.sizeOf255
  v35 := Tryz.zeroValue255
  t36 := Tryz.underlying256
  a36 := Tryz.isAgg256
  z36 := Tryz.sizeOf256
  v36 := Tryz.zeroValue256
  t41 := Tryz.underlying205
  a41 := Tryz.isAgg205
  z41 := Tryz.sizeOf205
  v41 := Tryz.zeroValue205
  t44 := Tryz.underlying263
  a44 := Tryz.isAgg263
  z44 := Tryz.sizeOf263
  v44 := Tryz.zeroValue263
  t46 := Tryz.underlying178
  a46 := Tryz.isAgg178
  z46 := Tryz.sizeOf178
  v46 := Tryz.zeroValue178
  t53 := Tryz.underlying265
  a53 := Tryz.isAgg265
  z53 := Tryz.sizeOf265
  v53 := Tryz.zeroValue265
  t57 := Tryz.underlying269
  a57 := Tryz.isAgg269
  z57 := Tryz.sizeOf269
  v57 := Tryz.zeroValue269
  t63 := Tryz.underlying271
  a63 := Tryz.isAgg271
  z63 := Tryz.sizeOf271
  v63 := Tryz.zeroValue271
  t64 := Tryz.underlying246
  a64 := Tryz.isAgg246
  z64 := Tryz.sizeOf246
  v64 := Tryz.zeroValue246 }
end

section
open Go.RowKit Go.Maps Go.Sort Go.Shelf
/-- slices.Sort's two contracts at this dump. -/
theorem Tryz.sortsA (m : Nat) : AnyZI.SortsIn Tryz.prog Tryz.sortedA_ren Fence.wide m :=
  ⟨fun blk off cap ss W hH hblk hsz => callsIn_wide.2 (AnyM.slices_Sort_int Tryz.sortA blk off cap ss W hH hblk hsz),
   fun p cap W => callsIn_wide.2 (AnyM.slices_Sort_int_none Tryz.sortA p cap W)⟩

/-- slices.Sorted of a map's keys. -/
theorem Tryz.sortedKeys {H : Type} (b bm nn : Nat) (D0 : DataW H) (R : Value → Option (DataW H × List MemPlace)) (w : World) (hbm : w.cell? ⟨bm, 0, none⟩ = some (.map (some b))) (hlt : bm < w.heap.size) (hown : w.ownsMap Tryz.prog 3 R b nn D0) (hmax : Maps.size D0 ≤ maxLen) (hbytes : Maps.size D0 * 8 ≤ 140737488355328) :
    Calls Tryz.prog 211 #[.func (.func 220) #[] #[.pointer (some ⟨bm, 0, none⟩)]] w fun e w' => ∃ (v : Value) (ss : List Int), e = .returned v ∧ ss.Perm (intKeys D0) ∧
      w'.ownsRow w.heap.size 3 1 v ss.length ((ss.mergeSort (fun x y => decide (x ≤ y))).map encZ) ∧ (v = .slice none 0 0 ↔ ss = []) ∧ Below w.heap.size w w' := by
  have hseq : SeqGives Fence.wide 2 Tryz.prog 220 #[.pointer (some ⟨bm, 0, none⟩)] encZ (fun ss => ss.Perm (intKeys D0)) (Maps.size D0) w :=
    AnyZI.keys_gives (ρ := Tryz.keysA_ren) { Tryz.keysA with } Fence.wide 2 trivial rfl (by omega) bm b nn D0 w hlt hbm hown
  refine (callsIn_wide (n := 5)).1 ?_
  exact AnyZI.sorted_in Tryz.sortedA Fence.wide 5 trivial trivial trivial trivial rfl (by omega) (Tryz.sortsA _) (enters_of Tryz.func219 (by kernel_rfl) rfl) 220 #[.pointer (some ⟨bm, 0, none⟩)] trivial (enters_of Tryz.func220 (by kernel_rfl) rfl) _ _ hmax hbytes _ hseq
end

end Go.Proofs
end

section
open Go Go.Vc
namespace Go.Proofs

def ints (zs : List Int) : List Value := zs.map fun z => .int .i64 z
def sorted (zs : List Int) : List Int := zs.mergeSort fun x y => decide (x ≤ y)
theorem ints_length (zs : List Int) : (ints zs).length = zs.length := by simp [ints]
theorem ints_at {zs : List Int} {j : Nat} {z : Int} (h : zs[j]? = some z) : (ints zs)[j]? = some (.int .i64 z) := by simp [ints, h]
theorem sorted_len (l : List Int) : (sorted l).length = l.length := by simp [sorted]

theorem keys_ok (r : Nat) (H : Heap) : Does Tryz.prog 212 [.map (some r)] H fun v H' => v = .func (.func 220) #[] #[.pointer (some ⟨H.size, 0, none⟩)] ∧ New H H.size [.map (some r)] 134 H' := by
  refine Fn_of_vc Tryz.mixed (vc_keys _ _ _) ?_
  intro b H2 hn
  have := hn.eq
  subst this
  exact ⟨rfl, hn⟩

def keyI : Value → Int
  | .int _ n => n
  | _ => 0

theorem sorted_ok {H : Heap} {r b : Nat} {l : List (Int × Value)} (hb : hcell H b 0 = some (.map (some r))) (hm : MapIs H r l) (hw : ∀ p ∈ l, In64 p.1) (hl : l.length ≤ 1000000) :
    Does Tryz.prog 211 [.func (.func 220) #[] #[.pointer (some ⟨b, 0, none⟩)]] H fun v H' => ∃ a c, v = .slice a l.length c ∧ Own H' 1 a l.length c (ints (sorted (l.map (·.1)))) ∧ Ext [] H H' ∧ ∀ k ∈ blkOf a, H.size ≤ k := by
  intro w hw'
  subst hw'
  obtain ⟨es, clock, hr, he, hst⟩ := hm
  have hkeys : es.toList.map (·.key) = l.map fun p => .int .i64 p.1 := by
    have := congrArg (List.map Prod.fst) he
    simpa [List.map_map, Function.comp_def] using this
  have hlen : es.toList.length = l.length := by have := congrArg List.length hkeys; simpa using this
  have hkey : ∀ x ∈ es.toList, ∃ n : Int, x.key = .int .i64 n ∧ In64 n := fun x hx => by
    have : x.key ∈ es.toList.map (·.key) := List.mem_map.2 ⟨x, hx, rfl⟩
    rw [hkeys] at this
    obtain ⟨p, hp, e⟩ := List.mem_map.1 this
    exact ⟨p.1, e.symm, hw p hp⟩
  let R : Value → Option (DataW Unit × List MemPlace) := fun _ => some (.nil, [])
  have hrd : ∀ x ∈ es.toList, Go.WideElems.rd Tryz.prog 3 R x = some (.int .i64 (keyI x.key), .nil) := fun x hx => by
    obtain ⟨n, e, h1, h2⟩ := hkey x hx
    have hwf : (Lit.int .i64 n).wf = true := by
      simp only [Lit.wf, IntKind.min, IntKind.max, IntKind.signed, IntKind.bits]
      simp
      omega
    simp [Go.WideElems.rd, R, e, keyOf, mapKey, Tryz.underlying3, hwf, keyI]
  have hsize : es.size = l.length := by simpa using hlen
  have hF : Go.WideElems.Fit Tryz.prog 3 R es clock := ⟨by rw [hsize]; unfold maxLen; omega, hst, fun x hx => ⟨_, hrd x hx⟩⟩
  have hown : w.ownsMap Tryz.prog 3 R r es.size (.map ((es.toList.map (Go.WideElems.rg Tryz.prog 3 R)).foldr DataW.insert [])) := ⟨es, clock, hr, hF, Nat.le_refl _, rfl⟩
  have hperm : (intKeys (.map ((es.toList.map (Go.WideElems.rg Tryz.prog 3 R)).foldr DataW.insert []))).Perm (l.map (·.1)) := by
    have h1 : (((es.toList.map (Go.WideElems.rg Tryz.prog 3 R)).foldr DataW.insert []).map fun p => Go.intOf p.1).Perm ((es.toList.map (Go.WideElems.rg Tryz.prog 3 R)).map fun p => Go.intOf p.1) := (Go.WideShapes.sorted_perm _).map _
    have h2 : ((es.toList.map (Go.WideElems.rg Tryz.prog 3 R)).map fun p => Go.intOf p.1) = l.map (·.1) := by
      rw [List.map_map]
      have h3 : es.toList.map ((fun p : Lit × DataW Unit => Go.intOf p.1) ∘ Go.WideElems.rg Tryz.prog 3 R) = es.toList.map (fun x => keyI x.key) := List.map_congr_left fun x hx => by
        simp only [Function.comp_apply, Go.WideElems.rg, hrd x hx, Option.getD_some, Go.intOf]
      rw [h3]
      have h4 := congrArg (List.map keyI) hkeys
      simpa [List.map_map, Function.comp_def, keyI] using h4
    rw [h2] at h1
    exact h1
  have hsz : Go.Maps.size (.map ((es.toList.map (Go.WideElems.rg Tryz.prog 3 R)).foldr DataW.insert [])) = l.length := by
    rw [Go.Maps.size_eq, (Go.WideShapes.sorted_perm _).length_eq, List.length_map, hlen]
  refine (Tryz.sortedKeys r b es.size _ R w (by rw [cell_hcell]; exact hb) (hcell_lt hb) hown (by rw [hsz]; unfold maxLen; omega) (by rw [hsz]; omega)).mono ?_
  rintro e w' ⟨v, ss, rfl, hS, ⟨hrl, hrow⟩, hnil, hbel⟩
  have hss := hS.trans hperm
  have hsl : ss.length = l.length := by rw [hss.length_eq, List.length_map]
  have hso : (ss.mergeSort (fun x y => decide (x ≤ y))) = sorted (l.map (·.1)) := mergeSort_of_perm_i hss
  rw [hso] at hrow
  have hext : Ext [] w.heap w'.heap := ⟨hbel.size, fun k hk _ => hbel.block k hk⟩
  refine ⟨v, rfl, ⟨hbel.os, hbel.tape, hbel.output⟩, ?_⟩
  rcases hrow with ⟨rfl, h0⟩ | ⟨g, cap, cur, rfl, hg, hgb, hc1, hc2, hc3, hc4⟩
  · have : l = [] := List.length_eq_zero_iff.1 (by omega)
    subst this
    exact ⟨none, 0, rfl, by simpa [sorted, ints] using Own.nil _ _, hext, by simp [blkOf]⟩
  · refine ⟨some ⟨g, 0, none⟩, cap, by rw [hsl], ⟨by rw [ints_length, sorted_len, List.length_map, Nat.mul_one], by omega, hc2, .inr ⟨g, cur.toList.drop l.length, rfl, ⟨3, ?_⟩, ?_⟩⟩, hext, fun k hk => ?_⟩
    · rw [hgb]
      congr 2
      apply Array.ext'
      rw [Nat.mul_one, hsl] at hc4
      show cur.toList = _
      rw [show ints (sorted (l.map (·.1))) = cur.toList.take l.length by rw [hc4]; rfl, List.take_append_drop]
    · rw [show ints (sorted (l.map (·.1))) = cur.toList.take l.length by rw [Nat.mul_one, hsl] at hc4; rw [hc4]; rfl, List.take_append_drop]
      simpa using hc3
    · simp only [blkOf, List.mem_singleton] at hk; omega
end Go.Proofs
end

section
/-! slices.Sorted of a map's keys, told. -/
namespace Go.Ex
open Go Go.Vc Go.Proofs

def ikeys : CV → Option (List Int)
  | .nil => some []
  | .cons (.cons (.int _ a) _) t => match ikeys t with
    | some l => some (a :: l)
    | none => none
  | _ => none
def insI (a : Int) : List Int → List Int
  | [] => [a]
  | b :: l => if a ≤ b then a :: b :: l else b :: insI a l
def isort : List Int → List Int
  | [] => []
  | a :: l => insI a (isort l)
def incr : List Int → Bool
  | a :: b :: l => decide (a < b) && incr (b :: l)
  | _ => true
def smallI (l : List Int) : Bool := l.all fun a => Nat.ble a.natAbs 1099511627776
def intsC : List Int → CV
  | [] => .nil
  | a :: l => .cons (.int .i64 a) (intsC l)

theorem lk_ikeys : ∀ {l : CV} {ks : List Int}, ikeys l = some ks → ∀ n, (∃ v, lk l n = some v) ↔ n ∈ ks
  | .nil, ks, h, n => by
    simp only [ikeys, Option.some.injEq] at h
    subst h
    simp [lk]
  | .cons (.cons (.int k a) v) t, ks, h, n => by
    simp only [ikeys] at h
    split at h
    · rename_i l hl
      simp only [Option.some.injEq] at h
      subst h
      have ih := lk_ikeys hl n
      simp only [lk, List.mem_cons]
      by_cases e : a = n
      · simp [e]
      · rw [if_neg e, ih]
        constructor
        · exact .inr
        · rintro (e' | h)
          · exact absurd e'.symm e
          · exact h
    · cases h
  | .cons .u _, _, h, _ => by cases h
  | .cons (.int _ _) _, _, h, _ => by cases h
  | .cons (.bool _) _, _, h, _ => by cases h
  | .cons (.str _ _) _, _, h, _ => by cases h
  | .cons (.flt _) _, _, h, _ => by cases h
  | .cons (.ptr _ _) _, _, h, _ => by cases h
  | .cons .pnil _, _, h, _ => by cases h
  | .cons (.slc _ _ _ _) _, _, h, _ => by cases h
  | .cons (.slu _ _ _ _) _, _, h, _ => by cases h
  | .cons .sle _, _, h, _ => by cases h
  | .cons .snil _, _, h, _ => by cases h
  | .cons (.map _) _, _, h, _ => by cases h
  | .cons .mnil _, _, h, _ => by cases h
  | .cons (.fn _ _ _) _, _, h, _ => by cases h
  | .cons .fnil _, _, h, _ => by cases h
  | .cons (.ifc _ _) _, _, h, _ => by cases h
  | .cons .inil _, _, h, _ => by cases h
  | .cons (.agg _) _, _, h, _ => by cases h
  | .cons (.tup _) _, _, h, _ => by cases h
  | .cons .nil _, _, h, _ => by cases h
  | .cons (.cons .u _) _, _, h, _ => by cases h
  | .cons (.cons (.bool _) _) _, _, h, _ => by cases h
  | .cons (.cons (.str _ _) _) _, _, h, _ => by cases h
  | .cons (.cons (.flt _) _) _, _, h, _ => by cases h
  | .cons (.cons (.ptr _ _) _) _, _, h, _ => by cases h
  | .cons (.cons .pnil _) _, _, h, _ => by cases h
  | .cons (.cons (.slc _ _ _ _) _) _, _, h, _ => by cases h
  | .cons (.cons (.slu _ _ _ _) _) _, _, h, _ => by cases h
  | .cons (.cons .sle _) _, _, h, _ => by cases h
  | .cons (.cons .snil _) _, _, h, _ => by cases h
  | .cons (.cons (.map _) _) _, _, h, _ => by cases h
  | .cons (.cons .mnil _) _, _, h, _ => by cases h
  | .cons (.cons (.fn _ _ _) _) _, _, h, _ => by cases h
  | .cons (.cons .fnil _) _, _, h, _ => by cases h
  | .cons (.cons (.ifc _ _) _) _, _, h, _ => by cases h
  | .cons (.cons .inil _) _, _, h, _ => by cases h
  | .cons (.cons (.agg _) _) _, _, h, _ => by cases h
  | .cons (.cons (.tup _) _) _, _, h, _ => by cases h
  | .cons (.cons .nil _) _, _, h, _ => by cases h
  | .cons (.cons (.cons _ _) _) _, _, h, _ => by cases h
  | .u, _, h, _ => by cases h
  | .int _ _, _, h, _ => by cases h
  | .bool _, _, h, _ => by cases h
  | .str _ _, _, h, _ => by cases h
  | .flt _, _, h, _ => by cases h
  | .ptr _ _, _, h, _ => by cases h
  | .pnil, _, h, _ => by cases h
  | .slc _ _ _ _, _, h, _ => by cases h
  | .slu _ _ _ _, _, h, _ => by cases h
  | .sle, _, h, _ => by cases h
  | .snil, _, h, _ => by cases h
  | .map _, _, h, _ => by cases h
  | .mnil, _, h, _ => by cases h
  | .fn _ _ _, _, h, _ => by cases h
  | .fnil, _, h, _ => by cases h
  | .ifc _ _, _, h, _ => by cases h
  | .inil, _, h, _ => by cases h
  | .agg _, _, h, _ => by cases h
  | .tup _, _, h, _ => by cases h
theorem mem_insI {a n : Int} : ∀ {l : List Int}, n ∈ insI a l ↔ n = a ∨ n ∈ l
  | [] => by simp [insI]
  | b :: l => by
    unfold insI
    split
    · simp
    · simp only [List.mem_cons, mem_insI (l := l)]
      constructor
      · rintro (h | h | h)
        · exact .inr (.inl h)
        · exact .inl h
        · exact .inr (.inr h)
      · rintro (h | h | h)
        · exact .inr (.inl h)
        · exact .inl h
        · exact .inr (.inr h)
theorem mem_isort {n : Int} : ∀ {l : List Int}, n ∈ isort l ↔ n ∈ l
  | [] => by simp [isort]
  | a :: l => by unfold isort; rw [mem_insI, mem_isort, List.mem_cons]
theorem len_insI (a : Int) : ∀ l : List Int, (insI a l).length = l.length + 1
  | [] => rfl
  | b :: l => by
    unfold insI
    split
    · rfl
    · simp [len_insI a l]
theorem len_isort : ∀ l : List Int, (isort l).length = l.length
  | [] => rfl
  | a :: l => by unfold isort; rw [len_insI, len_isort l]; rfl
theorem incr_pw : ∀ {l : List Int}, incr l = true → l.Pairwise (· < ·)
  | [], _ => List.Pairwise.nil
  | [a], _ => by simp
  | a :: b :: l, h => by
    unfold incr at h
    simp only [Bool.and_eq_true, decide_eq_true_eq] at h
    have ih := incr_pw h.2
    refine List.pairwise_cons.2 ⟨fun x hx => ?_, ih⟩
    rcases List.mem_cons.1 hx with rfl | hx
    · exact h.1
    · have := (List.pairwise_cons.1 ih).1 x hx
      omega
theorem sorted_of {E : En} {l : CV} {l' : List (Int × Value)} {ks : List Int} (hm : MR E l l') (hk : ikeys l = some ks) (hi : incr (isort ks) = true) : sorted (l'.map (·.1)) = isort ks := by
  have hp := incr_pw hi
  have hmem : ∀ n, n ∈ l'.map (·.1) ↔ n ∈ isort ks := fun n => by
    rw [mem_isort, ← lk_ikeys hk n]
    have := hm.2 n
    constructor
    · intro h
      obtain ⟨x, hx, rfl⟩ := List.mem_map.1 h
      cases e : lk l x.1 with
      | some v => exact ⟨v, rfl⟩
      | none => rw [e] at this; exact absurd hx (this x.2)
    · rintro ⟨v, e⟩
      rw [e] at this
      obtain ⟨u, hu, _⟩ := this
      exact List.mem_map.2 ⟨_, hu, rfl⟩
  have hperm : (l'.map (·.1)).Perm (isort ks) := (List.perm_ext_iff_of_nodup hm.1 (hp.imp fun h => by omega)).2 hmem
  refine List.Perm.eq_of_pairwise (le := fun a b : Int => a ≤ b) (fun a b _ _ h1 h2 => by omega) ?_ (hp.imp fun h => by omega) (((List.mergeSort_perm _ _).trans hperm))
  have := List.pairwise_mergeSort (le := fun x y : Int => decide (x ≤ y)) (fun a b c h1 h2 => by simp at *; omega) (fun a b => by simp; omega) (l'.map (·.1))
  exact this.imp fun h => by simpa using h
theorem intsC_ok {E : En} : ∀ (l : List Int), LR E (intsC l) (ints l)
  | [] => rfl
  | _ :: l => LR.cons' rfl (intsC_ok l)

theorem sorted_nil {H : Heap} {r b : Nat} {l : List (Int × Value)} (hb : hcell H b 0 = some (.map (some r))) (hm : MapIs H r l) (hw : ∀ p ∈ l, In64 p.1) (hl : l.length ≤ 1000000) :
    Does Tryz.prog 211 [.func (.func 220) #[] #[.pointer (some ⟨b, 0, none⟩)]] H fun v H' => (l = [] → v = .slice none 0 0) ∧ Ext [] H H' := by
  intro w hw'
  subst hw'
  obtain ⟨es, clock, hr, he, hst⟩ := hm
  have hkeys : es.toList.map (·.key) = l.map fun p => .int .i64 p.1 := by
    have := congrArg (List.map Prod.fst) he
    simpa [List.map_map, Function.comp_def] using this
  have hlen : es.toList.length = l.length := by have := congrArg List.length hkeys; simpa using this
  have hkey : ∀ x ∈ es.toList, ∃ n : Int, x.key = .int .i64 n ∧ In64 n := fun x hx => by
    have : x.key ∈ es.toList.map (·.key) := List.mem_map.2 ⟨x, hx, rfl⟩
    rw [hkeys] at this
    obtain ⟨p, hp, e⟩ := List.mem_map.1 this
    exact ⟨p.1, e.symm, hw p hp⟩
  let R : Value → Option (DataW Unit × List MemPlace) := fun _ => some (.nil, [])
  have hrd : ∀ x ∈ es.toList, Go.WideElems.rd Tryz.prog 3 R x = some (.int .i64 (keyI x.key), .nil) := fun x hx => by
    obtain ⟨n, e, h1, h2⟩ := hkey x hx
    have hwf : (Lit.int .i64 n).wf = true := by
      simp only [Lit.wf, IntKind.min, IntKind.max, IntKind.signed, IntKind.bits]
      simp
      omega
    simp [Go.WideElems.rd, R, e, keyOf, mapKey, Tryz.underlying3, hwf, keyI]
  have hsize : es.size = l.length := by simpa using hlen
  have hF : Go.WideElems.Fit Tryz.prog 3 R es clock := ⟨by rw [hsize]; unfold maxLen; omega, hst, fun x hx => ⟨_, hrd x hx⟩⟩
  have hown : w.ownsMap Tryz.prog 3 R r es.size (.map ((es.toList.map (Go.WideElems.rg Tryz.prog 3 R)).foldr DataW.insert [])) := ⟨es, clock, hr, hF, Nat.le_refl _, rfl⟩
  have hperm : (intKeys (.map ((es.toList.map (Go.WideElems.rg Tryz.prog 3 R)).foldr DataW.insert []))).Perm (l.map (·.1)) := by
    have h1 : (((es.toList.map (Go.WideElems.rg Tryz.prog 3 R)).foldr DataW.insert []).map fun p => Go.intOf p.1).Perm ((es.toList.map (Go.WideElems.rg Tryz.prog 3 R)).map fun p => Go.intOf p.1) := (Go.WideShapes.sorted_perm _).map _
    have h2 : ((es.toList.map (Go.WideElems.rg Tryz.prog 3 R)).map fun p => Go.intOf p.1) = l.map (·.1) := by
      rw [List.map_map]
      have h3 : es.toList.map ((fun p : Lit × DataW Unit => Go.intOf p.1) ∘ Go.WideElems.rg Tryz.prog 3 R) = es.toList.map (fun x => keyI x.key) := List.map_congr_left fun x hx => by
        simp only [Function.comp_apply, Go.WideElems.rg, hrd x hx, Option.getD_some, Go.intOf]
      rw [h3]
      have h4 := congrArg (List.map keyI) hkeys
      simpa [List.map_map, Function.comp_def, keyI] using h4
    rw [h2] at h1
    exact h1
  have hsz : Go.Maps.size (.map ((es.toList.map (Go.WideElems.rg Tryz.prog 3 R)).foldr DataW.insert [])) = l.length := by
    rw [Go.Maps.size_eq, (Go.WideShapes.sorted_perm _).length_eq, List.length_map, hlen]
  refine (Tryz.sortedKeys r b es.size _ R w (by rw [cell_hcell]; exact hb) (hcell_lt hb) hown (by rw [hsz]; unfold maxLen; omega) (by rw [hsz]; omega)).mono ?_
  rintro e w' ⟨v, ss, rfl, hS, ⟨hrl, hrow⟩, hnil, hbel⟩
  have hss := hS.trans hperm
  have hsl : ss.length = l.length := by rw [hss.length_eq, List.length_map]
  have hso : (ss.mergeSort (fun x y => decide (x ≤ y))) = sorted (l.map (·.1)) := mergeSort_of_perm_i hss
  rw [hso] at hrow
  have hext : Ext [] w.heap w'.heap := ⟨hbel.size, fun k hk _ => hbel.block k hk⟩
  refine ⟨v, rfl, ⟨hbel.os, hbel.tape, hbel.output⟩, ?_⟩
  refine ⟨fun h => hnil.2 ?_, hext⟩
  subst h
  exact List.length_eq_zero_iff.1 hsl

noncomputable def o_sorted : OF := fun l H n k =>
  match l with
  | .cons (.fn f .nil (.cons (.ptr b 0) .nil)) .nil => match hg b H with
    | .cells _ N t => match tg 0 t with
      | .map m => match hg m H with
        | .map l => match ikeys l with
          | some [] => bi (Nat.beq f 220 && Nat.blt 0 N) (k .snil H n) no
          | some ks => bi (Nat.beq f 220 && Nat.blt 0 N && incr (isort ks) && smallI (isort ks) && Nat.blt 0 ks.length && Nat.blt ks.length 1000000) (newB (.cells 3 (isort ks).length (mkT (intsC (isort ks)))) H n fun H n' => k (.slu n 0 0 (isort ks).length) H n') no
          | none => no
        | _ => no
      | _ => no
    | _ => no
  | _ => no
theorem o_sorted_ok {Ok : St → Prop} [Okay Ok] {ng : Nat} {l : CV} {cH : He} {n : Nat} {k : EK} (h : Ok (o_sorted l cH n k)) : ∃ cv cH' n', Ok (k cv cH' n') ∧
    ∀ E Pr H vs, (∀ g, g < ng → ∃ q, E g = some (g, q)) → LR E l vs → Rel E Pr n cH H → ∀ X, DoesX Tryz.prog 211 vs H (fun v H' => ∃ E', E.le E' ∧ Rel E' Pr n' cH' H' ∧ VR E' cv v) X := by
  unfold o_sorted at h
  split at h
  · rename_i f b
    split at h
    · rename_i m0 N t hb
      split at h
      · rename_i m ht
        split at h
        · rename_i l hm
          split at h
          · rename_i hks
            obtain ⟨h1, h2⟩ := bi_ok h
            simp only [Bool.and_eq_true] at h1
            obtain ⟨c1, c2⟩ := h1
            obtain rfl := Nat.eq_of_beq_eq_true c1
            refine ⟨_, cH, n, h2, ?_⟩
            rintro E Pr H vs _ ⟨v1, r1, ⟨aa, cs, ha, ⟨v2, r2, ⟨r, q, hE, rfl⟩, hr2, rfl⟩, rfl⟩, hr1, rfl⟩ hr X
            have ha : aa = [] := ha
            have hr1 : r1 = [] := hr1
            have hr2 : r2 = [] := hr2
            subst ha; subst hr1; subst hr2
            obtain ⟨g1, g2⟩ := hr.blk b r q hE
            rw [hb] at g2
            obtain ⟨cs, e, lo, hi, f1, f2, f3, f4, f5⟩ := g2
            obtain ⟨v, f6, f7⟩ := f5 0 (by simpa using c2)
            rw [ht] at f7
            obtain ⟨rm, qm, hEm, rfl⟩ := f7
            obtain ⟨_, g3⟩ := hr.blk m rm qm hEm
            rw [hm] at g3
            obtain ⟨l', g4, g5⟩ := g3
            have hl : l' = [] := by
              rcases l' with _ | ⟨x, l'⟩
              · rfl
              · have := g5.2 x.1
                cases e : lk l x.1 with
                | some v => exact absurd ((lk_ikeys hks x.1).1 ⟨v, e⟩) (by simp)
                | none => rw [e] at this; exact absurd List.mem_cons_self (this x.2)
            subst hl
            refine (Does.x (sorted_nil (b := r) (by rw [hcell_at f1]; exact f6) (show MapIs H rm [] from g4) (fun p hp => (by cases hp)) (by simp))).mono ?_ fun _ _ h => h
            rintro v H' ⟨hv, he⟩
            exact ⟨E, En.le.refl E, hr.ext he, hv rfl⟩
          · rename_i ks _ hks
            obtain ⟨h1, h2⟩ := bi_ok h
            simp only [Bool.and_eq_true] at h1
            obtain ⟨⟨⟨⟨⟨c1, c2⟩, c3⟩, c4⟩, c5⟩, c6⟩ := h1
            obtain rfl := Nat.eq_of_beq_eq_true c1
            obtain ⟨hn, cH', h9, h10, h11⟩ := newB_ok h2
            refine ⟨_, cH', n + 1, h9, ?_⟩
            rintro E Pr H vs _ ⟨v1, r1, ⟨aa, cs, ha, ⟨v2, r2, ⟨r, q, hE, rfl⟩, hr2, rfl⟩, rfl⟩, hr1, rfl⟩ hr X
            have ha : aa = [] := ha
            have hr1 : r1 = [] := hr1
            have hr2 : r2 = [] := hr2
            subst ha; subst hr1; subst hr2
            obtain ⟨g1, g2⟩ := hr.blk b r q hE
            rw [hb] at g2
            obtain ⟨cs, e, lo, hi, f1, f2, f3, f4, f5⟩ := g2
            obtain ⟨v, f6, f7⟩ := f5 0 (by simpa using c2)
            rw [ht] at f7
            obtain ⟨rm, qm, hEm, rfl⟩ := f7
            obtain ⟨_, g3⟩ := hr.blk m rm qm hEm
            rw [hm] at g3
            obtain ⟨l', g4, g5⟩ := g3
            have hso := sorted_of g5 hks c3
            have hlen : l'.length = (isort ks).length := by rw [← hso, sorted_len, List.length_map]
            have hin : ∀ p ∈ l', In64 p.1 := fun p hp => by
              have : p.1 ∈ isort ks := by
                rw [← hso]
                exact ((List.mergeSort_perm _ _).mem_iff).2 (List.mem_map.2 ⟨p, hp, rfl⟩)
              unfold smallI at c4
              rw [List.all_eq_true] at c4
              have := Nat.le_of_ble_eq_true (c4 _ this)
              unfold In64
              omega
            have hkl : (isort ks).length = ks.length := len_isort ks
            refine (Does.x (sorted_ok (b := r) (by rw [hcell_at f1]; exact f6) (show MapIs H rm l' from g4) hin (by rw [hlen, hkl]; have := c6; simp at this; omega))).mono ?_ fun _ _ h => h
            rintro v H' ⟨a, c, rfl, ⟨o1, o2, o3, o4⟩, he, hbl⟩
            rw [hso] at o1 o4
            rcases o4 with ⟨rfl, rfl⟩ | ⟨b', tail, rfl, ⟨e', o5⟩, o6⟩
            · exfalso
              have := c5
              simp at this
              omega
            · have hge : H.size ≤ b' := hbl b' (by simp [blkOf])
              have hlt := (Array.getElem?_eq_some_iff.1 o5).1
              obtain ⟨z1, z2⟩ := hr.name he (q := c) hge hlt hn h10 h11 ⟨_, e', 0, 0, o5, by
                  rw [List.size_toArray, List.length_append, ints_length]; omega, ⟨Nat.le_refl _, fun o _ => by omega⟩, fun _ => by rw [List.size_toArray]; omega, fun i hi => by
                  have hi' : i < (ints (isort ks)).length := by rw [ints_length]; exact hi
                  refine ⟨(ints (isort ks))[i], ?_, mkT_get (intsC_ok (isort ks)) i _ (List.getElem?_eq_getElem hi')⟩
                  rw [List.getElem?_toArray, List.getElem?_append_left hi', List.getElem?_eq_getElem hi']⟩
              refine ⟨_, z2, z1, b', c, En.add_self _ _ _ _, ?_, by omega⟩
              rw [hlen]; rfl
          · exact no_ok h
        · exact no_ok h
      · exact no_ok h
    · exact no_ok h
  · exact no_ok h
end Go.Ex
end

section
/-! state.copied from its walk over the map on, told. -/
namespace Go.Ex
open Go Go.Vc Go.Proofs

theorem Rel.cellI {E : En} {Pr : Prt} {n : Nat} {cH : He} {H : Heap} (h : Rel E Pr n cH H) {b r q m N i : Nat} {t : T CV} (hb : hg b cH = .cells m N t) (hN : i < N) (hE : E b = some (r, q)) : ∃ v, hcell H r i = some v ∧ VR E (tg i t) v := by
  obtain ⟨g1, g2⟩ := h.blk b r q hE
  rw [hb] at g2
  obtain ⟨cs, e, lo, hi, f1, f2, f3, f4, f5⟩ := g2
  obtain ⟨v, f6, f7⟩ := f5 i hN
  exact ⟨v, by rw [hcell_at f1]; exact f6, f7⟩

noncomputable def allSlC : CV → Bool
  | .nil => true
  | .cons (.cons (.int _ _) v) t => isSl v && allSlC t
  | _ => false
theorem allSlC_ok : ∀ {l : CV}, allSlC l = true → ∀ n cv, lk l n = some cv → isSl cv = true
  | .nil, _, n, cv, e => by simp [lk] at e
  | .cons (.cons (.int k a) v) t, h, n, cv, e => by
    simp only [allSlC, Bool.and_eq_true] at h
    simp only [lk] at e
    split at e
    · cases e; exact h.1
    · exact allSlC_ok h.2 n cv e
  | .cons .u _, h, _, _, _ => by cases h
  | .cons (.int _ _) _, h, _, _, _ => by cases h
  | .cons (.bool _) _, h, _, _, _ => by cases h
  | .cons (.str _ _) _, h, _, _, _ => by cases h
  | .cons (.flt _) _, h, _, _, _ => by cases h
  | .cons (.ptr _ _) _, h, _, _, _ => by cases h
  | .cons .pnil _, h, _, _, _ => by cases h
  | .cons (.slc _ _ _ _) _, h, _, _, _ => by cases h
  | .cons (.slu _ _ _ _) _, h, _, _, _ => by cases h
  | .cons .sle _, h, _, _, _ => by cases h
  | .cons .snil _, h, _, _, _ => by cases h
  | .cons (.map _) _, h, _, _, _ => by cases h
  | .cons .mnil _, h, _, _, _ => by cases h
  | .cons (.fn _ _ _) _, h, _, _, _ => by cases h
  | .cons .fnil _, h, _, _, _ => by cases h
  | .cons (.ifc _ _) _, h, _, _, _ => by cases h
  | .cons .inil _, h, _, _, _ => by cases h
  | .cons (.agg _) _, h, _, _, _ => by cases h
  | .cons (.tup _) _, h, _, _, _ => by cases h
  | .cons .nil _, h, _, _, _ => by cases h
  | .cons (.cons .u _) _, h, _, _, _ => by cases h
  | .cons (.cons (.bool _) _) _, h, _, _, _ => by cases h
  | .cons (.cons (.str _ _) _) _, h, _, _, _ => by cases h
  | .cons (.cons (.flt _) _) _, h, _, _, _ => by cases h
  | .cons (.cons (.ptr _ _) _) _, h, _, _, _ => by cases h
  | .cons (.cons .pnil _) _, h, _, _, _ => by cases h
  | .cons (.cons (.slc _ _ _ _) _) _, h, _, _, _ => by cases h
  | .cons (.cons (.slu _ _ _ _) _) _, h, _, _, _ => by cases h
  | .cons (.cons .sle _) _, h, _, _, _ => by cases h
  | .cons (.cons .snil _) _, h, _, _, _ => by cases h
  | .cons (.cons (.map _) _) _, h, _, _, _ => by cases h
  | .cons (.cons .mnil _) _, h, _, _, _ => by cases h
  | .cons (.cons (.fn _ _ _) _) _, h, _, _, _ => by cases h
  | .cons (.cons .fnil _) _, h, _, _, _ => by cases h
  | .cons (.cons (.ifc _ _) _) _, h, _, _, _ => by cases h
  | .cons (.cons .inil _) _, h, _, _, _ => by cases h
  | .cons (.cons (.agg _) _) _, h, _, _, _ => by cases h
  | .cons (.cons (.tup _) _) _, h, _, _, _ => by cases h
  | .cons (.cons .nil _) _, h, _, _, _ => by cases h
  | .cons (.cons (.cons _ _) _) _, h, _, _, _ => by cases h
  | .u, h, _, _, _ => by cases h
  | .int _ _, h, _, _, _ => by cases h
  | .bool _, h, _, _, _ => by cases h
  | .str _ _, h, _, _, _ => by cases h
  | .flt _, h, _, _, _ => by cases h
  | .ptr _ _, h, _, _, _ => by cases h
  | .pnil, h, _, _, _ => by cases h
  | .slc _ _ _ _, h, _, _, _ => by cases h
  | .slu _ _ _ _, h, _, _, _ => by cases h
  | .sle, h, _, _, _ => by cases h
  | .snil, h, _, _, _ => by cases h
  | .map _, h, _, _, _ => by cases h
  | .mnil, h, _, _, _ => by cases h
  | .fn _ _ _, h, _, _, _ => by cases h
  | .fnil, h, _, _, _ => by cases h
  | .ifc _ _, h, _, _, _ => by cases h
  | .inil, h, _, _, _ => by cases h
  | .agg _, h, _, _, _ => by cases h
  | .tup _, h, _, _, _ => by cases h

noncomputable def onC (x : Bk) (m : Nat) (f : T CV → St) : St := match x with
  | .cells _ N t => bi (Nat.ble m N) (f t) no
  | _ => no
noncomputable def onMap (v : CV) (f : Nat → St) : St := match v with
  | .map m => f m
  | _ => no
noncomputable def onMB (x : Bk) (f : CV → St) : St := match x with
  | .map l => f l
  | _ => no
noncomputable def onMB0 (x : Bk) (s : St) : St := match x with
  | .map .nil => s
  | _ => no
noncomputable def o_cpy : Sy → He → Nat → (Sy → He → Nat → St) → St := fun S H n k =>
  onP0 (sg 1 S) fun b1 => onP0 (sg 3 S) fun b3 => onP0 (sg 2 S) fun b2 => onC (hg b1 H) 3 fun t1 => onC (hg b3 H) 3 fun t3 =>
    onMap (tg 2 t1) fun m1 => onMap (tg 2 t3) fun m2 => onMB (hg m1 H) fun l1 => onMB0 (hg m2 H) (bi (allSlC l1 && !Nat.beq m1 m2) (hset m2 (.map l1) H fun H =>
      bi (isSl (tg 0 t3) && isPtr (tg 1 t3)) (wrC b2 0 (.cons (tg 0 t3) (.cons (tg 1 t3) (.cons (tg 2 t3) .nil))) H fun H => ss 2 (.ptr b2 0) S0 fun S => k S H n) no) no)
section
variable {Ok : St → Prop} [Okay Ok]
theorem onC_ok {x : Bk} {i : Nat} {f : T CV → St} (h : Ok (onC x i f)) : ∃ m N t, x = .cells m N t ∧ i ≤ N ∧ Ok (f t) := by
  unfold onC at h
  split at h
  · obtain ⟨h1, h2⟩ := bi_ok h
    exact ⟨_, _, _, rfl, Nat.le_of_ble_eq_true h1, h2⟩
  · exact no_ok h
theorem onMap_ok {v : CV} {f : Nat → St} (h : Ok (onMap v f)) : ∃ m, v = .map m ∧ Ok (f m) := by
  unfold onMap at h
  split at h
  · exact ⟨_, rfl, h⟩
  · exact no_ok h
theorem onMB_ok {x : Bk} {f : CV → St} (h : Ok (onMB x f)) : ∃ l, x = .map l ∧ Ok (f l) := by
  unfold onMB at h
  split at h
  · exact ⟨_, rfl, h⟩
  · exact no_ok h
theorem onMB0_ok {x : Bk} {s : St} (h : Ok (onMB0 x s)) : x = .map .nil ∧ Ok s := by
  unfold onMB0 at h
  split at h
  · exact ⟨rfl, h⟩
  · exact no_ok h
end

theorem mapSet_new : ∀ {l : List (Int × Value)} {k : Int} {v : Value}, k ∉ l.map (·.1) → mapSet l k v = l ++ [(k, v)]
  | [], _, _, _ => rfl
  | p :: r, k, v, h => by
    simp only [List.map_cons, List.mem_cons, not_or] at h
    unfold mapSet
    rw [if_neg (fun e => h.1 e.symm), mapSet_new h.2]
    rfl
theorem MIter.set {H : Heap} {r m r2 : Nat} {l : List (Int × Value)} {done : List Int} {o : Obj} (h : MIter H r m l done) (h1 : r ≠ r2) (h2 : m ≠ r2) : MIter (H.setIfInBounds r2 o) r m l done := by
  obtain ⟨es, clock, seen, ds, g1, g2, g3⟩ := h
  exact ⟨es, clock, seen, ds, by rw [Array.getElem?_setIfInBounds_ne (Ne.symm h1)]; exact g1, by rw [Array.getElem?_setIfInBounds_ne (Ne.symm h2)]; exact g2, g3⟩

/-- What is known between two steps of the walk. -/
def CpI (H0 : Heap) (r4 r1 r2 : Nat) (l : List (Int × Value)) (H : Heap) : Prop :=
  ∃ done l2, H.size = H0.size ∧ (∀ j, j ≠ r4 → j ≠ r2 → H[j]? = H0[j]?) ∧ MIter H r4 r1 l done ∧ MapIs H r2 l2 ∧ l2.map (·.1) = done ∧ done.Nodup ∧ ∀ p ∈ l2, p ∈ l
def keysAt (H : Heap) (r : Nat) : List Int := match H[r]? with
  | some (.map es _) => es.toList.map fun e => keyI e.key
  | _ => []
theorem keysAt_is {H : Heap} {r : Nat} {l : List (Int × Value)} (h : MapIs H r l) : keysAt H r = l.map (·.1) := by
  obtain ⟨es, clock, h1, h2, _⟩ := h
  unfold keysAt
  rw [h1]
  have := congrArg (List.map fun p => keyI p.1) h2
  simpa [List.map_map, Function.comp_def, keyI] using this
theorem filter_less {L : List Int} {d : List Int} {k : Int} (hk : k ∈ L) (hd : k ∉ d) : (L.filter fun x => !(d ++ [k]).contains x).length < (L.filter fun x => !d.contains x).length := by
  have e : (L.filter fun x => !(d ++ [k]).contains x) = (L.filter fun x => !d.contains x).filter fun x => x != k := by
    rw [List.filter_filter]
    apply List.filter_congr
    intro x _
    simp [Bool.not_or, Bool.and_comm]
    rfl
  rw [e]
  refine List.length_filter_lt_length_iff_exists.2 ⟨k, ?_, by simp⟩
  rw [List.mem_filter]
  exact ⟨hk, by simpa using hd⟩
end Go.Ex
end

namespace Go.Ex
open Go Go.Vc Go.Proofs
set_option maxHeartbeats 2000000 in
theorem o_cpy_ok {Ok : St → Prop} [Okay Ok] {S : Sy} {cH : He} {n : Nat} {k : Sy → He → Nat → St} (h : Ok (o_cpy S cH n k)) : ∃ S' cH' n', Ok (k S' cH' n') ∧
    ∀ E Pr aS H X K, SR E 0 S aS → Rel E Pr n cH H → (∀ E' aS' H', E.le E' → SR E' 0 S' aS' → Rel E' Pr n' cH' H' → K.ret aS' H') → Sem Tryz.prog X Tryz.f94.ntmps c94T K aS H := by
  unfold o_cpy at h
  obtain ⟨b1, h, eS1⟩ := onP0_ok h
  obtain ⟨b3, h, eS3⟩ := onP0_ok h
  obtain ⟨b2, h, eS2⟩ := onP0_ok h
  obtain ⟨k1, N1, t1, eb1, hN1, h⟩ := onC_ok h
  obtain ⟨k3, N3, t3, eb3, hN3, h⟩ := onC_ok h
  obtain ⟨m1, em1, h⟩ := onMap_ok h
  obtain ⟨m2, em2, h⟩ := onMap_ok h
  obtain ⟨l1, el1, h⟩ := onMB_ok h
  obtain ⟨el2, h⟩ := onMB0_ok h
  obtain ⟨c1, h⟩ := bi_ok h
  rw [Bool.and_eq_true] at c1
  obtain ⟨hm2s, cH2, h, e2, o2⟩ := hset_ok h
  obtain ⟨c2, h⟩ := bi_ok h
  rw [Bool.and_eq_true] at c2
  obtain ⟨cH3, h, hw3⟩ := wrC_ok h
  obtain ⟨S', hS1, hS2, hS3⟩ := ss_law 2 (.ptr b2 0) S0 (by omega)
  rw [hS1] at h
  refine ⟨S', cH3, n, h, ?_⟩
  clear h hS1
  have hne12 : m1 ≠ m2 := fun e => by
    have := c1.2
    rw [e, Nat.beq_refl] at this
    cases this
  intro E Pr aS H X K hs hr hK a w ha hw
  subst hw
  obtain ⟨s1, g1, v1⟩ := hs.get 1 (by omega)
  obtain ⟨s3, g3, v3⟩ := hs.get 3 (by omega)
  obtain ⟨s2, g2, v2⟩ := hs.get 2 (by omega)
  have t1' := ha.agree 1 s1 g1
  have t3' := ha.agree 3 s3 g3
  have t2' := ha.agree 2 s2 g2
  rw [eS1] at v1
  rw [eS3] at v3
  rw [eS2] at v2
  obtain ⟨r1, q1, hE1, e1⟩ := v1
  obtain ⟨r3, q3, hE3, e3⟩ := v3
  obtain ⟨r2, q2, hE2, e2'⟩ := v2
  rw [e1] at t1'
  rw [e3] at t3'
  rw [e2'] at t2'
  obtain ⟨u1, hu1, hv1⟩ := hr.cellI eb1 (i := 2) (by omega) hE1
  rw [em1] at hv1
  obtain ⟨rm1, qm1, hEm1, rfl⟩ := hv1
  obtain ⟨u2, hu2, hv2⟩ := hr.cellI eb3 (i := 2) (by omega) hE3
  rw [em2] at hv2
  obtain ⟨rm2, qm2, hEm2, rfl⟩ := hv2
  obtain ⟨hlt1, l1', hM1, hR1⟩ := (⟨(hr.blk m1 rm1 qm1 hEm1).1, by have := (hr.blk m1 rm1 qm1 hEm1).2; rw [el1] at this; exact this⟩ : rm1 < w.heap.size ∧ BR E qm1 (.map l1) w.heap[rm1]?)
  obtain ⟨hlt2, l2', hM2, hR2⟩ := (⟨(hr.blk m2 rm2 qm2 hEm2).1, by have := (hr.blk m2 rm2 qm2 hEm2).2; rw [el2] at this; exact this⟩ : rm2 < w.heap.size ∧ BR E qm2 (.map .nil) w.heap[rm2]?)
  have hl2 : l2' = [] := by
    rcases l2' with _ | ⟨x, l2'⟩
    · rfl
    · have := hR2.2 x.1
      simp only [lk] at this
      exact absurd List.mem_cons_self (this x.2)
  subst hl2
  have hM1' : MapIs w.heap rm1 l1' := hM1
  have hM2' : MapIs w.heap rm2 [] := hM2
  have hrne : rm1 ≠ rm2 := fun e => by
    subst e
    exact hne12 (hr.inj m1 m2 rm1 qm1 qm2 hEm1 hEm2 (by rw [el1]; trivial) (by rw [el2]; simp))
  have hr3 : r3 ≠ rm2 := fun e => by
    subst e
    obtain ⟨es, clock, hx, _⟩ := hM2
    rw [show hcell w.heap r3 2 = none by simp [hcell, hx]] at hu2
    cases hu2
  have haB : Ag Tryz.f94.ntmps [(1, .v (.pointer (some ⟨r1, 0, none⟩))), (3, .v (.pointer (some ⟨r3, 0, none⟩))), (2, .v (.pointer (some ⟨r2, 0, none⟩)))] a :=
    ag_of ha.size ha.defers [(1, .pointer (some ⟨r1, 0, none⟩)), (3, .pointer (some ⟨r3, 0, none⟩)), (2, .pointer (some ⟨r2, 0, none⟩))] (by
      intro x hx; simp only [List.mem_cons, List.mem_nil_iff, or_false] at hx; rcases hx with rfl | rfl | rfl <;> assumption)
  unfold c94T
  refine wp_seq (wp_mono (partS_wp Tryz.mixed (Cp2 r1 r3 w.heap fun _ H' => w.heap.size + 1 = H'.size ∧ (∀ j, j < w.heap.size → j ≠ rm2 → H'[j]? = w.heap[j]?) ∧ ∃ l2, MapIs H' rm2 l2 ∧ (l2.map (·.1)).Nodup ∧ (∀ p ∈ l2, p ∈ l1') ∧ ∀ p ∈ l1', p.1 ∈ l2.map (·.1)) ?_ Tryz.func94 rfl rfl haB (haB.pick (by
    intro x hx; simp only [List.mem_cons, List.mem_nil_iff, or_false] at hx; rcases hx with rfl | rfl <;> rfl)) rfl) ?_)
  · refine ⟨some rm1, hu1, rm1, l1', rfl, hM1', fun r4 H5 hn => ?_⟩
    obtain ⟨rfl, hs5, hk5, hi5⟩ := hn
    have hM25 : MapIs H5 rm2 [] := by
      obtain ⟨es, clock, hx, hy⟩ := hM2'
      exact ⟨es, clock, by rw [hk5 rm2 hlt2]; exact hx, hy⟩
    refine ⟨CpI H5 w.heap.size rm1 rm2 l1', fun H => ((l1'.map (·.1)).filter fun x => !(keysAt H rm2).contains x).length, ⟨[], [], rfl, fun _ _ _ => rfl, hi5, hM25, rfl, List.nodup_nil, fun p hp => (by cases hp)⟩, ?_⟩
    rintro H8 ⟨done, l2, hs8, hk8, hi8, hm8, hkeys, hnd, hsub⟩
    refine ⟨rm1, l1', done, hi8, ?_, fun hall => ?_⟩
    · intro k12 v13 H14 hmem hnot hst
      obtain ⟨hs14, hk14, hi14⟩ := hst
      refine ⟨fun _ => ?_, fun h => by cases h⟩
      obtain ⟨ya, yl, yc, rfl⟩ : ∃ ya yl yc, v13 = .slice ya yl yc := by
        have := hR1.2 k12
        split at this
        · rename_i cv hcv
          obtain ⟨v, h1, h2⟩ := this
          obtain ⟨a', l', c', rfl⟩ := isSl_ok (allSlC_ok c1.1 _ _ hcv) h2
          have := nodup_map_inj hR1.1 h1 hmem rfl
          cases this
          exact ⟨_, _, _, rfl⟩
        · exact absurd hmem (this v13)
      have hm14 : MapIs H14 rm2 l2 := by
        obtain ⟨es, clock, hx, hy⟩ := hm8
        exact ⟨es, clock, by rw [hk14 rm2 (by omega)]; exact hx, hy⟩
      have hc14 : hcell H14 r3 2 = some (.map (some rm2)) := by
        have hlt3 := hcell_lt hu2
        unfold hcell at hu2 ⊢
        rw [hk14 r3 (by omega), hk8 r3 (by omega) hr3, hk5 r3 hlt3]
        exact hu2
      refine ⟨rm1, l1', done, k12, hi14, ya, yl, yc, hmem, some rm2, hc14, rm2, l2, rfl, hm14, fun H25 hp => ?_⟩
      have hkn : k12 ∉ l2.map (·.1) := by rw [hkeys]; exact hnot
      rw [mapSet_new hkn] at hp
      obtain ⟨hm25, hx25⟩ := Go.Proofs.MapPut.is hp (by rw [hs14, hs8]; omega)
      have hp' := hp
      obtain ⟨es, clock, _, rfl, _⟩ := hp'
      have hmu1 : keysAt H8 rm2 = done := by rw [keysAt_is hm8, hkeys]
      have hmu2 : keysAt (H14.setIfInBounds rm2 (.map es clock)) rm2 = done ++ [k12] := by rw [keysAt_is hm25, List.map_append, hkeys]; rfl
      refine ⟨⟨done ++ [k12], _, by simp [hs14, hs8], fun j hj1 hj2 => ?_, MIter.set hi14 (by omega) hrne, hm25, by rw [List.map_append, hkeys]; rfl, ?_, fun p hp => ?_⟩, ?_⟩
      · rw [Array.getElem?_setIfInBounds_ne (Ne.symm hj2), hk14 j hj1, hk8 j hj1 hj2]
      · rw [List.nodup_append]
        refine ⟨hnd, by simp, fun a ha b hb => ?_⟩
        simp only [List.mem_singleton] at hb
        subst hb
        rintro rfl
        exact hnot ha
      · rcases List.mem_append.1 hp with h | h
        · exact hsub p h
        · simp only [List.mem_singleton] at h
          subst h
          exact hmem
      · show List.length _ < List.length _
        simp only [hmu1, hmu2]
        exact filter_less (List.mem_map.2 ⟨_, hmem, rfl⟩) hnot
    · refine ⟨(fun h => by cases h), fun _ => ⟨by omega, fun j hj hne => ?_, l2, hm8, by rw [hkeys]; exact hnd, hsub, fun p hp => by rw [hkeys]; exact hall p hp⟩⟩
      rw [hk8 j (by omega) hne, hk5 j hj]
  · rintro e a1 w1 ⟨rfl, hs1, vs, hl, ⟨hsz, hkp, l2, hm, hnd, hsub, hall⟩, ha1⟩
    have haC : Ag Tryz.f94.ntmps [(3, .v (.pointer (some ⟨r3, 0, none⟩))), (2, .v (.pointer (some ⟨r2, 0, none⟩)))] a1 := ha1.pick (by
      intro x hx; simp only [List.mem_cons, List.mem_nil_iff, or_false] at hx; rcases hx with rfl | rfl <;> rfl)
    have hMR : MR E l1 l2 := by
      refine ⟨hnd, fun n => ?_⟩
      have := hR1.2 n
      split at this
      · rename_i cv hcv
        obtain ⟨v, h1, h2⟩ := this
        have := hall _ h1
        obtain ⟨p, hp, hpe⟩ := List.mem_map.1 this
        have := nodup_map_inj hR1.1 (hsub p hp) h1 hpe
        subst this
        exact ⟨v, hp, h2⟩
      · intro v hv
        exact this v (hsub _ hv)
    have hr1 : Rel E Pr n cH2 w1.heap := by
      have hg := hr.garb (w1.heap[w.heap.size]'(by omega))
      refine hg.put hEm2 (by rw [el2]; trivial) e2 o2 (by simp; omega) (fun j hj => ?_) ⟨l2, hm, hMR⟩
      by_cases hj2 : j < w.heap.size
      · rw [hkp j hj2 hj, Array.getElem?_push, if_neg (by omega)]
      · by_cases hj3 : j = w.heap.size
        · subst hj3
          rw [Array.getElem?_eq_getElem (by omega), Array.getElem?_push, if_pos rfl]
        · rw [Array.getElem?_eq_none (by omega), Array.getElem?_eq_none (by simp; omega)]
    have hb3 : b3 ≠ m2 := fun e => by rw [e, el2] at eb3; cases eb3
    have eb3' : hg b3 cH2 = .cells k3 N3 t3 := by rw [o2 b3 (hr.small _ _ hE3) hb3]; exact eb3
    obtain ⟨z0, hz0, hy0⟩ := hr1.cellI eb3' (i := 0) (by omega) hE3
    obtain ⟨z1, hz1, hy1⟩ := hr1.cellI eb3' (i := 1) (by omega) hE3
    obtain ⟨z2, hz2, hy2⟩ := hr1.cellI eb3' (i := 2) (by omega) hE3
    obtain ⟨ya, yl, yc, rfl⟩ := isSl_ok c2.1 hy0
    obtain ⟨pr, po, rfl⟩ := isPtr_ok c2.2 hy1
    have hy2' := hy2
    rw [em2] at hy2'
    obtain ⟨rq, qq, hq1, rfl⟩ := hy2'
    obtain ⟨f1, _, f2⟩ := hw3 E Pr n w1.heap r2 q2 _ hE2 hr1 (LR.cons' hy0 (LR.cons' hy1 (LR.cons' hy2 LR.nil')))
    refine wp_seq (wp_mono (part_wp Tryz.mixed (Cp6 r3 r2 w1.heap fun _ H' => Rel E Pr n cH3 H') ⟨ya, yl, yc, hz0, _, hz1, _, hz2, f1, fun H6 hp => f2 H6 hp⟩ Tryz.func94 rfl rfl haC haC rfl) ?_)
    rintro e a2 w2 ⟨rfl, hs2, vs, hl, hr2, ha2⟩
    refine wp_ret ⟨(List.range 256).map fun t => (t, .v (a2.tmps.getD t undef)), w2, ha2.size, fun t s ht => ?_, by rw [ha2.defers]; rfl, hs1.trans hs2, hK E _ _ (En.le.refl E) ?_ hr2⟩
    · rw [get_tab] at ht
      split at ht
      · cases ht; rfl
      · cases ht
    · refine ⟨fun t ht => ⟨.v (a2.tmps.getD t undef), by rw [get_tab, if_pos (by simpa using ht)], ?_⟩, fun g hg => by omega, by rw [get_tab, if_neg (by simp [wideKey])]⟩
      by_cases e : t = 2
      · subst e
        rw [hS2]
        exact ⟨r2, q2, hE2, ha2.agree 2 (.v (.pointer (some ⟨r2, 0, none⟩))) rfl⟩
      · rw [hS3 t ht e, sg_S0 t ht]; trivial
end Go.Ex

section
open Go Go.Vc
namespace Go.Proofs
set_option maxRecDepth 100000
/-- (*pentimento/guard.Guard).Fail -/
theorem FailV (x0 : Option Addr) (x1 : Int) (H : Heap) (R X : Value → Heap → Prop) : WalkX Tryz.prog 159 [] [(.pointer x0), (.int .i64 x1)] H R X = (
 ((((x1 : Int) ≠ 0) → (
 ∃ b1 o2 : Nat, x0 = some (⟨b1, o2, none⟩ : Addr) ∧ (
 Cells H b1 o2 1 ∧ ∀ H3 : Heap, Puts H b1 o2 [(.int .i64 x1)] H3 → (
 X (.iface 229 (.agg #[(.pointer x0)])) H3)))) ∧ (¬ ((x1 : Int) ≠ 0) → (
 R (.tuple #[]) H)))) := by kernel_rfl


/-- (*pentimento/guard.Guard).Want -/
theorem WantV (x0 : Option Addr) (x1 : Bool) (x2 : Int) (H : Heap) (R X : Value → Heap → Prop) : WalkX Tryz.prog 104 [] [(.pointer x0), (.bool x1), (.int .i64 x2)] H R X = (
 (((x1 = false) → (
 DoesX (X := X) Tryz.prog 159 [(.pointer x0), (.int .i64 x2)] H fun v1 H2 => v1 = (.tuple #[]) ∧ (
 R (.tuple #[]) H2))) ∧ (¬ (x1 = false) → (
 R (.tuple #[]) H)))) := by kernel_rfl


end Go.Proofs
end

section
open Go Go.Vc
namespace Go.Proofs
theorem assert229 (W : World) (v : Value) : (Instr.typeAssert (.iface 229 v) 20 229 true).run Tryz.prog W = .ok (.tuple #[v, .bool true]) W := by kernel_rfl
theorem eqIn143 (d : Nat) (a : Addr) (W : World) : (Op.equalIn (d + 1) 143 (.pointer (some a)) (.pointer (some a))).run Tryz.prog W = .ok true W := by
  simp [Op.equalIn, run_underlying Tryz.underlying143, sameAddr]
theorem neq143 (a : Addr) (W : World) : (binOp .neq 143 (.pointer (some a)) (.pointer (some a))).run Tryz.prog W = .ok (.bool false) W := by
  have h : (Op.equal 143 (.pointer (some a)) (.pointer (some a))).run Tryz.prog W = .ok true W := eqIn143 9999 a W
  simp only [binOp]
  simp [h]
set_option linter.unusedSimpArgs false in
set_option maxHeartbeats 400000 in
theorem back_given (g e : Nat) (n m : Int) (w : World) (hg : w.cell? ⟨g, 0, none⟩ = some (.int .i64 n)) (he : w.cell? ⟨e, 0, none⟩ = some (.int .i64 m)) (hz : w.frozen? ⟨e, 0, none⟩ = false) :
    CallsD Tryz.prog 196 #[.pointer (some ⟨g, 0, none⟩), .pointer (some ⟨e, 0, none⟩)] (.panicking ({ v := .iface 229 (.agg #[.pointer (some ⟨g, 0, none⟩)]), recovered := false } :: [])) w fun en u' w' =>
      en = .returned (.tuple #[]) ∧ u' = .panicking ({ v := .iface 229 (.agg #[.pointer (some ⟨g, 0, none⟩)]), recovered := true } :: []) ∧ w' = (w.alloc (.cells #[.pointer (some ⟨g, 0, none⟩)] 229)).setCell ⟨e, 0, none⟩ (.int .i64 n) := by
  refine callsD_of_wpS Tryz.func196 rfl fun c₀ cs hu => ?_
  apply wpS_seq
  apply wpS_region
  simp [wpOpsS, go_sem, recoverD, hu, Tryz.ntmps196, Exit.thenS]
  refine wpS_of_wp ?_
  apply wp_block
  apply wp_seq
  apply wp_region
  simp [wpOps, go_sem, Exit.then]
  repeat left
  refine wp_cond (t := false) (by simp [Act.eval]) ?_
  simp only [Bool.false_eq_true, if_false]
  apply wp_seq
  apply wp_region
  simp [wpOps, go_sem, Exit.then, assert229]
  repeat left
  refine wp_cond (t := true) (by simp [Act.eval]) ?_
  simp only [if_true]
  apply wp_seq
  apply wp_region
  simp [wpOps, go_sem, Exit.then]
  repeat left
  apply wp_seq
  apply wp_seq
  apply wp_region
  simp [wpOps, go_sem, Exit.then, neq143]
  repeat left
  refine wp_cond (t := false) (by simp [Act.eval]) ?_
  simp only [Bool.false_eq_true, if_false]
  apply wp_skip
  simp only [Exit.then]
  have lt_of : ∀ {b : Nat} {v : Value}, w.cell? ⟨b, 0, none⟩ = some v → b < w.heap.size := fun {b v} h => by
    rw [Go.Vc.cell_hcell] at h
    exact Go.Vc.hcell_lt h
  have hgl := lt_of hg
  have hel := lt_of he
  have hg2 : (w.alloc (.cells #[.pointer (some ⟨g, 0, none⟩)] 229)).cell? ⟨g, 0, none⟩ = some (.int .i64 n) := by
    rw [World.cell?_alloc_some _ _ _ (by rw [hg]; rfl)]; exact hg
  have he2 : (w.alloc (.cells #[.pointer (some ⟨g, 0, none⟩)] 229)).cell? ⟨e, 0, none⟩ = some (.int .i64 m) := by
    rw [World.cell?_alloc_some _ _ _ (by rw [he]; rfl)]; exact he
  have hz2 : (w.alloc (.cells #[.pointer (some ⟨g, 0, none⟩)] 229)).frozen? ⟨e, 0, none⟩ = false := by
    rw [Go.RowKit.frozen?_alloc_cells]
    exact hz
  apply wp_region
  simp [wpOps, go_sem, Exit.then, hg2, he2, hz2]
  repeat left
  exact ⟨rfl, _, rfl, .tuple #[], by simp [results, Tryz.results196], rfl, rfl, rfl⟩
set_option linter.unusedSimpArgs false in
set_option maxHeartbeats 400000 in
theorem back_idle (g e : Nat) (w : World) :
    CallsD Tryz.prog 196 #[.pointer (some ⟨g, 0, none⟩), .pointer (some ⟨e, 0, none⟩)] .returning w fun en u' w' =>
      en = .returned (.tuple #[]) ∧ u' = .returning ∧ w' = w := by
  refine callsD_of_wpS Tryz.func196 rfl fun c₀ cs hu => ?_
  apply wpS_seq
  apply wpS_region
  simp [wpOpsS, go_sem, recoverD, hu, Tryz.ntmps196, Exit.thenS]
  refine wpS_of_wp ?_
  apply wp_block
  apply wp_seq
  apply wp_region
  simp [wpOps, go_sem, Exit.then]
  repeat left
  refine wp_cond (t := true) (by simp [Act.eval]) ?_
  simp only [if_true]
  apply wp_region
  simp [wpOps, go_sem]
  repeat left
  cases c₀
  simp_all [bodyPostS, results, Tryz.results196]
theorem eqIn151 (d : Nat) (k : FuncId) (first cap : Array Value) (W : World) : (Op.equalIn (d + 1) 151 (.func (.func k) first cap) .nilFunc).run Tryz.prog W = .ok false W := by
  simp [Op.equalIn, run_underlying Tryz.underlying151]
theorem eql151 (k : FuncId) (first cap : Array Value) (W : World) : (binOp .eql 151 (.func (.func k) first cap) .nilFunc).run Tryz.prog W = .ok (.bool false) W := by
  have h : (Op.equal 151 (.func (.func k) first cap) .nilFunc).run Tryz.prog W = .ok false W := eqIn151 9999 k first cap W
  simp only [binOp]
  simp [h]
theorem build225 (W : World) : (Instr.build 225 #[]).run Tryz.prog W = .ok (.agg #[.int .i64 0]) W := by kernel_rfl
set_option linter.unusedSimpArgs false in
set_option maxHeartbeats 400000 in
theorem do_walk (k : FuncId) (first cap : Array Value) (w : World) {R : Ending → World → Prop} (hcf : ∀ args w, (callFunc k args).run Tryz.prog w = .ok (.enter k args) w) {Q : World → Prop} {X : Int → World → Prop}
    (h : Calls Tryz.prog k (first.push (.pointer (some ⟨w.heap.size + 1, 0, none⟩)) ++ cap) ((w.alloc (.cells #[.int .i64 0] 26)).alloc (.cells #[.int .i64 0] 225)) fun e w' =>
      (e = .returned (.tuple #[]) ∧ w'.cell? ⟨w.heap.size, 0, none⟩ = some (.int .i64 0) ∧ w'.frozen? ⟨w.heap.size, 0, none⟩ = false ∧ Q (w'.setCell ⟨w.heap.size, 0, none⟩ (.int .i64 0))) ∨
      ∃ n, e = .panicked [{ v := .iface 229 (.agg #[.pointer (some ⟨w.heap.size + 1, 0, none⟩)]), recovered := false }] ∧ w'.cell? ⟨w.heap.size + 1, 0, none⟩ = some (.int .i64 n) ∧ w'.cell? ⟨w.heap.size, 0, none⟩ = some (.int .i64 0) ∧ w'.frozen? ⟨w.heap.size, 0, none⟩ = false ∧
        X n ((w'.alloc (.cells #[.pointer (some ⟨w.heap.size + 1, 0, none⟩)] 229)).setCell ⟨w.heap.size, 0, none⟩ (.int .i64 n)))
    (hQ : ∀ w', Q w' → w'.cell? ⟨w.heap.size, 0, none⟩ = some (.int .i64 0) → R (.returned (.int .i64 0)) w') (hX : ∀ n w', X n w' → w'.cell? ⟨w.heap.size, 0, none⟩ = some (.int .i64 n) → R (.returned (.int .i64 n)) w') : Calls Tryz.prog 157 #[.func (.func k) first cap] w R := by
  refine calls_of_wp_defers Tryz.func157 rfl ?_
  apply wp_seq
  apply wp_region
  simp [wpOps, go_sem, Tryz.ntmps157, Exit.then]
  repeat left
  apply wp_seq
  apply wp_seq
  apply wp_region
  simp [wpOps, go_sem, Exit.then, eql151]
  repeat left
  refine wp_cond (t := false) (by simp [Act.eval]) ?_
  simp only [Bool.false_eq_true, if_false]
  apply wp_skip
  simp only [Exit.then]
  apply wp_seq
  apply wp_region
  simp [wpOps, go_sem, Exit.then, build225]
  repeat left
  apply wp_seq
  apply wp_region
  simp [wpOps, go_sem, Exit.then]
  repeat left
  apply wp_seq
  apply wp_region
  simp [wpOps, go_sem, Exit.then, hcf]
  repeat left
  refine h.mono ?_
  rintro e w' (⟨rfl, hc, hz, hq⟩ | ⟨n, rfl, hg, hc, hz, hx⟩)
  · show Code.wp _ _ _ _ _
    apply wp_seq
    apply wp_region
    simp [wpOps, go_sem, Exit.then, hc, hz]
    repeat left
    apply wp_ret
    refine leaves_cons (f := 196) (args := #[.pointer (some ⟨w.heap.size + 1, 0, none⟩), .pointer (some ⟨w.heap.size, 0, none⟩)]) (by simp) (by simp [go_sem]) ?_
    refine (back_idle _ _ _).mono ?_
    rintro e u' w'' ⟨rfl, rfl, rfl⟩
    have hc2 : (w'.setCell ⟨w.heap.size, 0, none⟩ (.int .i64 0)).cell? ⟨w.heap.size, 0, none⟩ = some (.int .i64 0) := by simp [go_sem, hc]
    refine ⟨.int .i64 0, ?_, hQ _ hq hc2⟩
    simp [results, Tryz.results157, go_sem, hc]
  · show bodyPostD _ _ _ _ _ _
    refine leaves_cons (f := 196) (args := #[.pointer (some ⟨w.heap.size + 1, 0, none⟩), .pointer (some ⟨w.heap.size, 0, none⟩)]) (by simp) (by simp [go_sem]) ?_
    refine (back_given _ _ _ _ _ hg hc hz).mono ?_
    rintro e u' w'' ⟨rfl, rfl, rfl⟩
    have hc3 : (w'.alloc (.cells #[.pointer (some ⟨w.heap.size + 1, 0, none⟩)] 229)).cell? ⟨w.heap.size, 0, none⟩ = some (.int .i64 0) := by
      rw [World.cell?_alloc_some _ _ _ (by rw [hc]; rfl)]; exact hc
    have hc2 : ((w'.alloc (.cells #[.pointer (some ⟨w.heap.size + 1, 0, none⟩)] 229)).setCell ⟨w.heap.size, 0, none⟩ (.int .i64 n)).cell? ⟨w.heap.size, 0, none⟩ = some (.int .i64 n) := by simp [go_sem, hc3]
    refine ⟨.int .i64 n, ?_, hX _ _ hx hc2⟩
    simp [results, Tryz.results157, go_sem, hc3]
end Go.Proofs
end

section
open Go Go.Vc
namespace Go.Proofs
theorem sim_set (w : World) (b o : Nat) (v : Value) : Sim w (w.setCell ⟨b, o, none⟩ v) := (heap_setCells b [v] o w).2
/-- A call within a guard: what is done goes well, or is given up; its own panic is recovered. -/
theorem guard_ok {H : Heap} {k : FuncId} {first cap : List Value} {Q : Value → Heap → Prop}
    (hcf : ∀ args w, (callFunc k args).run Tryz.prog w = .ok (.enter k args) w)
    (h : ∀ e g H1 H2, New H e [.int .i64 0] 26 H1 → New H1 g [.int .i64 0] 225 H2 →
      DoesX Tryz.prog k (first ++ [.pointer (some ⟨g, 0, none⟩)] ++ cap) H2
        (fun v H' => v = .tuple #[] ∧ Blk H' e [.int .i64 0] ∧ ∀ H3, Puts H' e 0 [.int .i64 0] H3 → Q (.int .i64 0) H3)
        (fun p H' => ∃ n, p = .iface 229 (.agg #[.pointer (some ⟨g, 0, none⟩)]) ∧ hcell H' g 0 = some (.int .i64 n) ∧ Blk H' e [.int .i64 0] ∧ ∀ b H3 H4, New H' b [.pointer (some ⟨g, 0, none⟩)] 229 H3 → Puts H3 e 0 [.int .i64 n] H4 → Q (.int .i64 n) H4)) :
    Does Tryz.prog 157 [.func (.func k) first.toArray cap.toArray] H Q := by
  intro w hw
  subst hw
  have hd := h w.heap.size (w.heap.size + 1) (w.heap.push (.cells #[.int .i64 0] 26)) ((w.heap.push (.cells #[.int .i64 0] 26)).push (.cells #[.int .i64 0] 225)) ⟨rfl, rfl⟩ ⟨by simp, rfl⟩
  have hd2 := hd ((w.alloc (.cells #[.int .i64 0] 26)).alloc (.cells #[.int .i64 0] 225)) rfl
  refine do_walk k first.toArray cap.toArray w hcf (Q := fun w' => Sim w w' ∧ Q (.int .i64 0) w'.heap) (X := fun n w' => Sim w w' ∧ Q (.int .i64 n) w'.heap) ?_ ?_ ?_
  · have ea : first.toArray.push (Value.pointer (some ⟨w.heap.size + 1, 0, none⟩)) ++ cap.toArray = (first ++ [Value.pointer (some ⟨w.heap.size + 1, 0, none⟩)] ++ cap).toArray := by simp
    rw [ea]
    refine hd2.mono ?_
    rintro e w' (⟨v, rfl, hs, rfl, hb, hq⟩ | ⟨p, rfl, hs, n, rfl, hg, hb, hx⟩)
    · left
      have hs' : Sim w w' := ⟨hs.os, hs.tape, hs.output⟩
      have hs2 := sim_set w' w.heap.size 0 (.int .i64 0)
      refine ⟨rfl, by rw [cell_hcell, hb.cell]; rfl, by rw [frozen_eq]; exact hb.free 0, ⟨hs2.os.trans hs'.os, hs2.tape.trans hs'.tape, hs2.output.trans hs'.output⟩, ?_⟩
      rw [heap_setCell]
      exact hq _ rfl
    · right
      have hs' : Sim w w' := ⟨hs.os, hs.tape, hs.output⟩
      have hs2 := sim_set (w'.alloc (.cells #[.pointer (some ⟨w.heap.size + 1, 0, none⟩)] 229)) w.heap.size 0 (.int .i64 n)
      have hs3 := sim_alloc w' (.cells #[.pointer (some ⟨w.heap.size + 1, 0, none⟩)] 229)
      refine ⟨n, rfl, by rw [cell_hcell]; exact hg, by rw [cell_hcell, hb.cell]; rfl, by rw [frozen_eq]; exact hb.free 0, ⟨(hs2.os.trans hs3.os).trans hs'.os, (hs2.tape.trans hs3.tape).trans hs'.tape, (hs2.output.trans hs3.output).trans hs'.output⟩, ?_⟩
      rw [heap_setCell]
      exact hx w'.heap.size _ _ ⟨rfl, rfl⟩ rfl
  · rintro w' ⟨hs, hq⟩ _
    exact ⟨_, rfl, hs, hq⟩
  · rintro n w' ⟨hs, hq⟩ _
    exact ⟨_, rfl, hs, hq⟩
end Go.Proofs
end

namespace Go.Ex
open Go Go.Vc Go.Proofs
theorem gd_ok (M : Mc) (hP : M.P = Tryz.prog) (hG : M.G = ⟨157, 229⟩) : GdOk M := by
  unfold GdOk
  rw [hP, hG]
  refine ⟨26, 225, 229, fun k first cap H Q hh h => guard_ok (fun args w => ?_) h⟩
  unfold hb at hh
  split at hh
  · rename_i fn hf
    simp only [Bool.and_eq_true, Bool.not_eq_true'] at hh
    obtain ⟨h1, h2⟩ := hh
    have hb' : fn.body.isNone = false := by cases e : fn.body with
      | none => rw [e] at h1; cases h1
      | some _ => rfl
    simp only [Sem.run_bind, Sem.run_pure, Result.andThen_ok, callFunc, run_program, hf, h2, hb', Bool.false_eq_true, if_false]
  · cases hh
end Go.Ex

section
/-! The machine for the object layer. -/
namespace Go.Ex
open Go Go.Vc Go.Proofs
noncomputable def MO (g : Nat) : Option OF := bif Nat.beq g 152 then some o_equal else bif Nat.beq g 211 then some o_sorted else bif Nat.beq g 163 then some o_collect else none
noncomputable def peq (p : Pa) : Pa → Bool := Pa.rec (motive := fun _ => Pa → Bool) (fun q => Pa.rec (motive := fun _ => Bool) true (fun _ _ => false) (fun _ _ => false) q) (fun _ ih q => Pa.rec (motive := fun _ => Bool) false (fun q _ => ih q) (fun _ _ => false) q) (fun _ ih q => Pa.rec (motive := fun _ => Bool) false (fun _ _ => false) (fun q _ => ih q) q) p
noncomputable def MT0 (f : Nat) (p : Pa) : Option (Sy → He → Nat → (Sy → He → Nat → St) → St) := bif Nat.beq f 94 then bif peq p p94 then some o_cpy else none else none
noncomputable def MB : Mc := ⟨Tryz.prog, 0, MO, fun _ _ => none, ⟨157, 229⟩, MT0⟩
noncomputable def MT (f : Nat) (p : Pa) : Option (Sy → He → Nat → (Sy → He → Nat → St) → St) := bif Nat.beq f 94 then bif peq p p94 then some o_cpy else none else bif Nat.beq f 40 then bif peq p p40 then some (o_fmt MB 100000) else none else none
noncomputable def MM : Mc := ⟨Tryz.prog, 0, MO, fun _ _ => none, ⟨157, 229⟩, MT⟩
end Go.Ex
end

section
/-! ObjectKnown, run. -/
namespace Go.Ex
open Go Go.Vc Go.Proofs
noncomputable def isT (s : St) : Bool := St.rec (motive := fun _ => Bool) (fun _ _ _ _ => false) (fun _ => false) (fun v _ _ => sBoolB v) s
  where sBoolB (v : CV) : Bool := CV.rec (motive := fun _ => Bool) false (fun _ _ => false) (fun b => b) (fun _ _ => false) (fun _ => false) (fun _ _ => false) false (fun _ _ _ _ => false) (fun _ _ _ _ => false) false false (fun _ => false) false (fun _ _ _ _ _ => false) false (fun _ _ _ => false) false (fun _ _ => false) (fun _ _ => false) false (fun _ _ _ _ => false) v
theorem isT_ok {s : St} (h : isT s = true) : ∃ HV nV, s = .done (.bool true) HV nV := by
  cases s with
  | mk _ _ _ _ => cases h
  | stuck _ => cases h
  | done v H n =>
    cases v with
    | bool b =>
      have h : b = true := h
      subst h
      exact ⟨H, n, rfl⟩
    | _ => cases h
theorem MO_ok : OrcOk MM := by
  intro g o ho Ok _ l cH n k h
  have ho : MO g = some o := ho
  unfold MO at ho
  cases h1 : Nat.beq g 152 with
  | true =>
    rw [h1] at ho
    have e := Nat.eq_of_beq_eq_true h1
    subst e
    have ho : some o_equal = some o := ho
    cases ho
    exact o_equal_ok h
  | false =>
  rw [h1] at ho
  cases h2 : Nat.beq g 211 with
  | true =>
    rw [h2] at ho
    have e := Nat.eq_of_beq_eq_true h2
    subst e
    have ho : some o_sorted = some o := ho
    cases ho
    exact o_sorted_ok h
  | false =>
  rw [h2] at ho
  cases h3 : Nat.beq g 163 with
  | true =>
    rw [h3] at ho
    have e := Nat.eq_of_beq_eq_true h3
    subst e
    have ho : some o_collect = some o := ho
    cases ho
    exact o_collect_ok h
  | false =>
  rw [h3] at ho
  cases ho
theorem MO_okB : OrcOk MB := MO_ok
theorem peq_ok : ∀ {p q : Pa}, peq p q = true → p = q
  | .z, .z, _ => rfl
  | .z, .o _, h => by cases h
  | .z, .i _, h => by cases h
  | .o p, .z, h => by cases h
  | .o p, .o q, h => by rw [peq_ok (p := p) (q := q) h]
  | .o p, .i _, h => by cases h
  | .i p, .z, h => by cases h
  | .i p, .o _, h => by cases h
  | .i p, .i q, h => by rw [peq_ok (p := p) (q := q) h]
theorem GdB : GdOk MB := gd_ok _ rfl rfl
theorem MT0_ok {f : Nat} {p : Pa} {o : Sy → He → Nat → (Sy → He → Nat → St) → St} (ho : MT0 f p = some o) : f = 94 ∧ p = p94 ∧ o = o_cpy := by
  unfold MT0 at ho
  cases h1 : Nat.beq f 94 with
  | false => rw [h1] at ho; cases ho
  | true =>
    rw [h1] at ho
    cases h2 : peq p p94 with
    | false => rw [h2] at ho; cases ho
    | true =>
      rw [h2] at ho
      have ho : some o_cpy = some o := ho
      cases ho
      exact ⟨Nat.eq_of_beq_eq_true h1, peq_ok h2, rfl⟩
theorem cpy_sem {Ok : St → Prop} [Okay Ok] {S : Sy} {cH : He} {n : Nat} {k : Sy → He → Nat → St} (h : Ok (o_cpy S cH n k)) : ∃ S' cH' n', Ok (k S' cH' n') ∧
    ∀ E Pr aS H X K, SR E 0 S aS → Rel E Pr n cH H → (∀ E' aS' H', E.le E' → SR E' 0 S' aS' → Rel E' Pr n' cH' H' → K.ret aS' H') → Sem Tryz.prog X (ntm Tryz.prog 94) (codeAt Tryz.prog 94 p94) K aS H := by
  rw [ntm94, c94_eq]
  exact o_cpy_ok h
theorem MB_cor : CorOk MB := by
  refine ⟨(fun f p o ho => (by cases ho)), fun f p o ho Ok _ S cH n k h => ?_⟩
  obtain ⟨rfl, rfl, rfl⟩ := MT0_ok ho
  exact cpy_sem h
theorem fmt_sem {Ok : St → Prop} [Okay Ok] {fuel : Nat} {S : Sy} {cH : He} {n : Nat} {k : Sy → He → Nat → St} (h : Ok (o_fmt MB fuel S cH n k)) : ∃ S' cH' n', Ok (k S' cH' n') ∧
    ∀ E Pr aS H X K, SR E 0 S aS → Rel E Pr n cH H → (∀ E' aS' H', E.le E' → SR E' 0 S' aS' → Rel E' Pr n' cH' H' → K.ret aS' H') → Sem Tryz.prog X (ntm Tryz.prog 40) (codeAt Tryz.prog 40 p40) K aS H := by
  rw [ntm40, c40_eq]
  exact o_fmt_ok rfl MO_okB MB_cor GdB rfl h
theorem MM_cor : CorOk MM := by
  refine ⟨(fun f p o ho => (by cases ho)), fun f p o ho Ok _ S cH n k h => ?_⟩
  have ho : MT f p = some o := ho
  unfold MT at ho
  cases h1 : Nat.beq f 94 with
  | true =>
    rw [h1] at ho
    have ho : (bif peq p p94 then some o_cpy else none) = some o := ho
    cases h2 : peq p p94 with
    | false => rw [h2] at ho; cases ho
    | true =>
      rw [h2] at ho
      have ho : some o_cpy = some o := ho
      cases ho
      obtain rfl := Nat.eq_of_beq_eq_true h1
      obtain rfl := peq_ok h2
      exact cpy_sem h
  | false =>
    rw [h1] at ho
    cases h3 : Nat.beq f 40 with
    | false => rw [h3] at ho; cases ho
    | true =>
      rw [h3] at ho
      have ho : (bif peq p p40 then some (o_fmt MB 100000) else none) = some o := ho
      cases h2 : peq p p40 with
      | false => rw [h2] at ho; cases ho
      | true =>
        rw [h2] at ho
        have ho : some (o_fmt MB 100000) = some o := ho
        cases ho
        obtain rfl := Nat.eq_of_beq_eq_true h3
        obtain rfl := peq_ok h2
        exact fmt_sem h
theorem GdM : GdOk MM := gd_ok _ rfl rfl
/-- A closed law of the object layer, run. -/
theorem law_run {m g : Nat} (h : isT (run MM m (goin MM.P g .nil (.fin g) .nil H0 0)) = true) (H : Heap) : Does Tryz.prog g [] H fun v H' => v = .bool true ∧ Ext [] H H' := by
  obtain ⟨HV, nV, e⟩ := isT_ok h
  exact law_of_run MO_ok MM_cor GdM Tryz.mixed rfl e H
end Go.Ex
end

