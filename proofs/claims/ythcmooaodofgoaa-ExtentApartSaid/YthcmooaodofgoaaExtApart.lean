/-
  The law ExtentApart over the contracts. No condition.
-/
import Derived.Test.YthcmooaodofgoaaExtPlay

section
open Go Go.Vc
namespace Go.Vc

/-- Like 'Own', but the slice may stand anywhere in its block; nothing is said of the block of a slice without room. -/
def OwnO (H : Heap) (size : Nat) (a : Option Addr) (len cap : Nat) (xs : List Value) : Prop :=
  xs.length = len * size ∧ len ≤ cap ∧ cap ≤ maxLen ∧ (∀ x, a = some x → x.spot = none) ∧ (cap = 0 ∨ ∃ b pre tail, a = some ⟨b, pre.length, none⟩ ∧ Blk H b (pre ++ (xs ++ tail)) ∧ (xs ++ tail).length = cap * size)

theorem OwnO.nil (H : Heap) (size : Nat) : OwnO H size none 0 0 [] := ⟨by simp, Nat.le_refl _, by unfold maxLen; omega, by simp, .inl rfl⟩

theorem OwnO.row {H : Heap} {size : Nat} {a : Option Addr} {len cap : Nat} {xs : List Value} (h : OwnO H size a len cap xs) (l c : Nat) : SRow H size len (.slice a l c) xs := by
  obtain ⟨h1, h2, h3, h0, h4⟩ := h
  refine ⟨h1, ?_⟩
  rcases h4 with rfl | ⟨b, pre, tail, rfl, hb, _⟩
  · have : len = 0 := by omega
    subst this
    have hx : xs = [] := by simpa using h1
    subst hx
    cases a with
    | none => rfl
    | some x => exact ⟨h0 x rfl, fun j u hj => by simp at hj⟩
  · refine ⟨rfl, fun j u hj => ?_⟩
    have hlt : j < xs.length := (List.getElem?_eq_some_iff.1 hj).1
    show hcell H b (pre.length + j) = some u
    rw [hb.cell, List.getElem?_append_right (by omega), Nat.add_sub_cancel_left, List.getElem?_append_left hlt]
    exact hj

theorem OwnO.ext {M : List Nat} {H H' : Heap} {size : Nat} {a : Option Addr} {len cap : Nat} {xs : List Value} (h : OwnO H size a len cap xs) (he : Ext M H H') (hm : ∀ k, k ∈ blkOf a → k ∉ M) : OwnO H' size a len cap xs := by
  obtain ⟨h1, h2, h3, h0, h4⟩ := h
  refine ⟨h1, h2, h3, h0, ?_⟩
  rcases h4 with h4 | ⟨b, pre, tail, rfl, hb, hl⟩
  · exact .inl h4
  · exact .inr ⟨b, pre, tail, rfl, hb.ext he (hm b (by simp [blkOf])), hl⟩

theorem OwnO.room {H : Heap} {size : Nat} {a : Option Addr} {len cap n : Nat} {xs : List Value} (h : OwnO H size a len cap xs) (hn : 0 < n) (hle : len + n ≤ cap) : roomOf H a (len * size) (n * size) := by
  obtain ⟨o1, o2, o3, o0, o4⟩ := h
  rcases o4 with rfl | ⟨b, pre, tail, rfl, hb, hl⟩
  · omega
  · refine ⟨rfl, hb.cells _ _ ?_⟩
    rw [List.length_append, hl]
    have : len * size + n * size ≤ cap * size := by rw [← Nat.add_mul]; exact Nat.mul_le_mul_right _ hle
    simp only
    omega

theorem App.ownO {H H' : Heap} {size : Nat} {e : TypeId} {z : List Value} {a : Option Addr} {len cap : Nat} {old news xs : List Value} {n : Nat} {a' : Option Addr} {cap' : Nat} (h : App H size e z a len cap old news n a' cap' H') (ho : OwnO H size a len cap xs)
    (hro : old = xs) (hn : news.length = n * size) (hz : z.length = size) (hpos : 0 < n) :
    OwnO H' size a' (len + n) cap' (xs ++ news) ∧ Ext (blkOf a) H H' ∧ (∀ k, k ∈ blkOf a' → k ∈ blkOf a ∨ H.size ≤ k) := by
  subst hro
  obtain ⟨o1, o2, o3, o0, o4⟩ := ho
  rcases h with ⟨hle, rfl, rfl, hH⟩ | ⟨hlt, rfl, hge, hm, rfl⟩
  · rcases o4 with rfl | ⟨b, pre, tail, rfl, hb, hl⟩
    · omega
    · simp only at hH
      subst hH
      have hfit : len * size + news.length ≤ (old ++ tail).length := by
        rw [hl, hn, ← Nat.add_mul]
        exact Nat.mul_le_mul_right _ hle
      have hb' := hsets_blk news (pre.length + len * size) H _ hb (by rw [List.length_append]; omega)
      have hs : splice (pre ++ (old ++ tail)) (pre.length + len * size) news = pre ++ ((old ++ news) ++ tail.drop news.length) := by
        unfold splice
        rw [← o1, List.take_append, List.take_of_length_le (by omega), Nat.add_sub_cancel_left, List.take_left', List.drop_append, List.drop_of_length_le (by omega)]
        · have : pre.length + old.length + news.length - pre.length = old.length + news.length := by omega
          rw [this, List.drop_append]
          simp
        · rfl
      rw [hs] at hb'
      refine ⟨⟨by rw [List.length_append, o1, hn, Nat.add_mul], hle, o3, o0, .inr ⟨b, pre, _, rfl, hb', ?_⟩⟩, (hsets_ext news _).1, fun k hk => .inl hk⟩
      rw [← hl]
      rw [List.length_append] at hfit
      simp only [List.length_append, List.length_drop]
      omega
  · have hsz : (List.replicate (cap' - (len + n)) z).flatten.length = (cap' - (len + n)) * size := by simp [hz]
    have hblk : Blk (H.push (.cells (old ++ news ++ (List.replicate (cap' - (len + n)) z).flatten).toArray e)) H.size (old ++ news ++ (List.replicate (cap' - (len + n)) z).flatten) := ⟨e, by simp⟩
    refine ⟨⟨by rw [List.length_append, o1, hn, Nat.add_mul], hge, hm, by rintro x ⟨rfl⟩; rfl, .inr ⟨H.size, [], _, rfl, hblk, ?_⟩⟩, ⟨by simp, fun k hk _ => by rw [Array.getElem?_push, if_neg (by omega)]⟩, fun k hk => .inr (by
      simp only [blkOf, List.mem_singleton] at hk
      omega)⟩
    rw [List.length_append, List.length_append, hsz, o1, hn, ← Nat.add_mul, ← Nat.add_mul]
    congr 1
    omega

/-- One element appended. -/
theorem append_oneO {H : Heap} {size w : Nat} {e e' : TypeId} {z vs xs : List Value} {a : Option Addr} {len cap : Nat} {R : Option Addr → Nat → Heap → Prop} (ho : OwnO H size a len cap xs) (hv : vs.length = size) (h1 : ∀ u ∈ vs, Value.oneCell' u = true)
    (hz : z.length = size) (hw : (len + 1) * w ≤ 140737488355328)
    (k : ∀ a' c' H', OwnO H' size a' (len + 1) c' (xs ++ vs) → Ext (blkOf a) H H' → (∀ k, k ∈ blkOf a' → k ∈ blkOf a ∨ H.size ≤ k) → R a' c' H') (b : Nat) (H2 : Heap) (hn : New H b vs e H2) :
    ∃ old news : List Value, SRow H2 size len (.slice a len cap) old ∧ SRow H2 size 1 (.slice (some ⟨b, 0, none⟩) 1 1) news ∧ (∀ u ∈ news, Value.oneCell' u = true) ∧ (len + 1) * w ≤ 140737488355328 ∧
      (len + 1 ≤ cap → roomOf H2 a (len * size) (1 * size)) ∧ ∀ a' c' H', App H2 size e' z a len cap old news 1 a' c' H' → R a' c' H' := by
  have hx := hn.ext
  have ho2 := ho.ext hx (by simp)
  have hb := hn.blk
  refine ⟨xs, vs, ho2.row len cap, ⟨by omega, rfl, fun j u hj => ?_⟩, h1, hw, fun hle => ho2.room (by decide) hle, fun a' c' H' happ => ?_⟩
  · show hcell H2 b (0 + j) = some u
    rw [Nat.zero_add, hb.cell]
    exact hj
  · obtain ⟨g1, g2, g3⟩ := happ.ownO ho2 rfl (by omega) hz (by decide)
    have hs := hn.size
    exact k a' c' H' g1 ((hx.any).trans g2) (fun i hi => by
      rcases g3 i hi with h | h
      · exact .inl h
      · exact .inr (by omega))

/-- The first element left out. -/
theorem OwnO.tail {H : Heap} {a : Option Addr} {len cap : Nat} {x : Value} {xs : List Value} (h : OwnO H 1 a (len + 1) cap (x :: xs)) {a' : Option Addr} (e : a' = if cap = Int.toNat 1 then a else Option.map (fun x => Addr.add x (Int.toNat 1 * 1)) a) :
    OwnO H 1 a' (len + 1 - Int.toNat 1) (cap - Int.toNat 1) xs ∧ blkOf a' = blkOf a := by
  obtain ⟨o1, o2, o3, o0, o4⟩ := h
  simp only [List.length_cons] at o1
  have e1 : Int.toNat 1 = 1 := rfl
  rw [e1] at e ⊢
  by_cases hc : cap = 1
  · rw [if_pos hc] at e
    subst e
    exact ⟨⟨by omega, by omega, by omega, o0, .inl (by omega)⟩, rfl⟩
  · rw [if_neg hc] at e
    rcases o4 with rfl | ⟨b, pre, tail, rfl, hb, hl⟩
    · omega
    · subst e
      refine ⟨⟨by omega, by omega, by omega, by rintro y ⟨rfl⟩; rfl, .inr ⟨b, pre ++ [x], tail, ?_, ?_, ?_⟩⟩, rfl⟩
      · simp [Addr.add]
      · simpa using hb
      · simp only [List.cons_append, List.length_cons] at hl
        omega

end Go.Vc
end

section
open Go Go.Vc
namespace Go.Proofs

theorem cntF_congr {p q : Nat → Bool} : ∀ {n : Nat}, (∀ i, i < n → p i = q i) → cntF p n = cntF q n
  | 0, _ => rfl
  | n + 1, h => by
    unfold cntF
    rw [cntF_congr (n := n) (fun i hi => h i (by omega)), h n (by omega)]

theorem cntF_one {p q : Nat → Bool} {i : Nat} (hp : p i = false) (hq : q i = true) (hne : ∀ j, j ≠ i → p j = q j) : ∀ {n : Nat}, i < n → cntF p n = cntF q n + 1
  | 0, h => absurd h (by omega)
  | n + 1, h => by
    unfold cntF
    by_cases e : i = n
    · subst e
      rw [cntF_congr (p := p) (q := q) (n := i) (fun j hj => hne j (by omega)), hp, hq]
      simp
    · rw [cntF_one hp hq hne (n := n) (by omega), hne n (fun e' => e e'.symm)]
      omega

theorem onB_set_in (bs : List Bool) (x : Int) (on : Bool) (h : 0 ≤ x ∧ x < bs.length) : setB bs x on = bs.set x.toNat on := setB_in h on

/-- Blocks turned on: so many fewer are free. -/
theorem cnt_on : ∀ (xs : List Int) (bs : List Bool), xs.Nodup → (∀ x ∈ xs, 0 ≤ x ∧ x < bs.length ∧ onB bs x.toNat = false) → cntF (onB bs) bs.length = cntF (onB (setAll bs xs true)) bs.length + xs.length
  | [], bs, _, _ => by simp [setAll]
  | x :: xs, bs, hn, h => by
    rw [List.nodup_cons] at hn
    obtain ⟨h0, h1, h2⟩ := h x (by simp)
    have e : setAll bs (x :: xs) true = setAll (setB bs x true) xs true := rfl
    have ih := cnt_on xs (setB bs x true) hn.2 (fun y hy => by
      obtain ⟨g0, g1, g2⟩ := h y (by simp [hy])
      refine ⟨g0, by rw [setB_length]; exact g1, ?_⟩
      rw [onB_setB _ _ _ ⟨h0, h1⟩, if_neg, g2]
      rintro e
      have : y = x := by omega
      subst this
      exact hn.1 hy)
    rw [setB_length] at ih
    rw [e, List.length_cons, ← Nat.add_assoc, ← ih]
    refine cntF_one (i := x.toNat) h2 ?_ (fun j hj => ?_) (by omega)
    · rw [onB_setB _ _ _ ⟨h0, h1⟩, if_pos (by omega)]
    · rw [onB_setB _ _ _ ⟨h0, h1⟩, if_neg (by omega)]

/-- Blocks turned off: so many more are free. -/
theorem cnt_off : ∀ (xs : List Int) (bs : List Bool), xs.Nodup → (∀ x ∈ xs, 0 ≤ x ∧ x < bs.length ∧ onB bs x.toNat = true) → cntF (onB (setAll bs xs false)) bs.length = cntF (onB bs) bs.length + xs.length
  | [], bs, _, _ => by simp [setAll]
  | x :: xs, bs, hn, h => by
    rw [List.nodup_cons] at hn
    obtain ⟨h0, h1, h2⟩ := h x (by simp)
    have e : setAll bs (x :: xs) false = setAll (setB bs x false) xs false := rfl
    have ih := cnt_off xs (setB bs x false) hn.2 (fun y hy => by
      obtain ⟨g0, g1, g2⟩ := h y (by simp [hy])
      refine ⟨g0, by rw [setB_length]; exact g1, ?_⟩
      rw [onB_setB _ _ _ ⟨h0, h1⟩, if_neg, g2]
      rintro e
      have : y = x := by omega
      subst this
      exact hn.1 hy)
    rw [setB_length] at ih
    have : cntF (onB (setB bs x false)) bs.length = cntF (onB bs) bs.length + 1 := by
      refine cntF_one (i := x.toNat) ?_ h2 (fun j hj => ?_) (by omega)
      · rw [onB_setB _ _ _ ⟨h0, h1⟩, if_pos (by omega)]
      · rw [onB_setB _ _ _ ⟨h0, h1⟩, if_neg (by omega)]
    rw [e, ih, this, List.length_cons]
    omega

/-- Between what is found all are on. -/
theorem offs_gap (p : Nat → Bool) : ∀ (f k c j : Nat) (b : Int), (offs p f k c)[j]? = some b → ∀ last : Int, (match j with | 0 => last = (k : Int) - 1 | i + 1 => (offs p f k c)[i]? = some last) → last < b ∧ ∀ q : Nat, last < (q : Int) → (q : Int) < b → p q = true
  | 0, k, c, j, b, h, _, _ => by simp [offs] at h
  | f + 1, k, 0, j, b, h, _, _ => by simp [offs] at h
  | f + 1, k, c + 1, j, b, h, last, hl => by
    rw [offs] at h hl
    cases hp : p k with
    | true =>
      rw [hp] at h hl
      simp only at h hl
      cases j with
      | zero =>
        obtain ⟨h1, h2⟩ := offs_gap p f (k + 1) (c + 1) 0 b h (((k + 1 : Nat) : Int) - 1) rfl
        simp only at hl
        refine ⟨by omega, fun q hq1 hq2 => ?_⟩
        by_cases e : q = k
        · subst e; exact hp
        · exact h2 q (by omega) hq2
      | succ i => exact offs_gap p f (k + 1) (c + 1) (i + 1) b h last hl
    | false =>
      rw [hp] at h hl
      simp only at h hl
      cases j with
      | zero =>
        simp only [List.getElem?_cons_zero, Option.some.injEq] at h
        subst h
        exact ⟨by omega, fun q hq1 hq2 => by omega⟩
      | succ i =>
        simp only [List.getElem?_cons_succ] at h hl
        cases i with
        | zero =>
          simp only [List.getElem?_cons_zero, Option.some.injEq] at hl
          subst hl
          exact offs_gap p f (k + 1) c 0 b h k (by simp only; omega)
        | succ i =>
          simp only [List.getElem?_cons_succ] at hl
          exact offs_gap p f (k + 1) c (i + 1) b h last hl

theorem getb_ok {H : Heap} {pb : Nat} {a : Option Addr} {c : Nat} {bs : List Bool} (h : IsB H pb a c bs) (k : Int) : Does Try.prog 16 [.pointer (some ⟨pb, 0, none⟩), .int .i64 k] H fun v H' => v = .bool (decide (0 ≤ k) && (decide (k < bs.length) && onB bs k.toNat)) ∧ H = H' := by
  obtain ⟨xs, hm, hb⟩ := h
  refine (get_ok hm k).mono ?_
  rintro _ _ ⟨rfl, rfl⟩
  exact ⟨by rw [getB, hb.bits], rfl⟩

theorem copyb_ok {H : Heap} {pb : Nat} {a : Option Addr} {c : Nat} {bs : List Bool} (h : IsB H pb a c bs) : Does Try.prog 23 [.pointer (some ⟨pb, 0, none⟩)] H fun v H' =>
    ∃ pb' a' c', v = .pointer (some ⟨pb', 0, none⟩) ∧ IsB H' pb' a' c' bs ∧ Ext [] H H' ∧ H.size ≤ pb' ∧ (∀ k, k ∈ blkOf a' → H.size ≤ k) := by
  obtain ⟨xs, hm, hb⟩ := h
  refine (copy_ok hm).mono ?_
  rintro _ H' ⟨pb', a', c', rfl, h1, h2, h3, h4⟩
  exact ⟨pb', a', c', rfl, ⟨xs, h1, hb⟩, h2, h3, h4⟩

theorem bytesb_ok {H : Heap} {pb : Nat} {a : Option Addr} {c : Nat} {bs : List Bool} (h : IsB H pb a c bs) : Does Try.prog 18 [.pointer (some ⟨pb, 0, none⟩)] H fun v H' =>
    ∃ a' c' xs, BytesAre bs xs ∧ v = .slice a' xs.length c' ∧ Own H' 1 a' xs.length c' (bytesV xs) ∧ Ext [] H H' ∧ (∀ k, k ∈ blkOf a' → H.size ≤ k) := by
  obtain ⟨xs, hm, hb⟩ := h
  refine (bytes_ok hm).mono ?_
  rintro _ H' ⟨a', c', rfl, h1, h2, h3⟩
  exact ⟨a', c', xs, hb, rfl, h1, h2, h3⟩

theorem Held.tail {bs : List Bool} {l : List Pc} {ls : List (List Pc)} (h : Held bs (l :: ls)) : Held (setAll bs (blocksI l) false) ls := by
  have h1 := h.shrink (i := 0) (l := l) rfl 0
  simp only [Int.toNat_zero, List.drop_zero, List.take_zero, List.set_cons_zero] at h1
  exact ⟨fun m hm => h1.right m (by simp [hm]), fun m hm => h1.on m (by simp [hm]), fun i k m m' hik hm hm' => h1.once (i + 1) (k + 1) m m' (by omega) (by simpa using hm) (by simpa using hm')⟩

theorem right_small {l : List Pc} {e : Int} (h : RightP l 0 e) (he : e ≤ 4096) : SmallP l := ⟨h.1, fun i p hp => by
  have := right_in h p (List.mem_of_getElem? hp)
  exact ⟨this.1, by omega⟩⟩

theorem right_total {l : List Pc} {e : Int} (h : RightP l 0 e) (he : e ≤ 4096) : countF l = (blocksI l).length := by
  rw [countF_yes (right_small h he), ← blocksI_length (right_pos h)]

theorem right_at {l : List Pc} {e : Int} (h : RightP l 0 e) (he : e ≤ 4096) {j : Nat} {b : Int} (hj : (blocksI l)[j]? = some b) : atF l j = (b, true) := by
  have ht := blocksI_length (right_pos h)
  have hlt := (List.getElem?_eq_some_iff.1 hj).1
  rw [atF_yes ⟨right_small h he, by omega, by omega⟩]
  have e1 : blocksW l = blocksI l := blocksW_I fun p hp => by have := right_in h p hp; omega
  rw [e1, Int.toNat_natCast, List.getD_eq_getElem?_getD, hj, Option.getD_some]

end Go.Proofs
end

section
open Go Go.Vc
namespace Go.Proofs

theorem eapart_law (H : Heap) (n0 : Int) (_ : (Lit.int .i64 n0).wf = true) (b1 : Option Addr) (len1 cap1 : Nat) (z1 : List Int) (e1 : z1.length = len1) (_ : len1 ≤ maxLen) (s1 : SRow H 1 len1 (.slice b1 len1 cap1) (z1.map fun n => .int .i64 n)) (_ : ∀ n ∈ z1, (Lit.int .i64 n).wf = true)
    (b2 : Option Addr) (len2 cap2 : Nat) (z2 : List Int) (e2 : z2.length = len2) (_ : len2 ≤ maxLen) (s2 : SRow H 1 len2 (.slice b2 len2 cap2) (z2.map fun n => .int .i64 n)) (_ : ∀ n ∈ z2, (Lit.int .i64 n).wf = true)
    (b3 : Option Addr) (len3 cap3 : Nat) (z3 : List (List Value)) (e3 : z3.length = len3) (_ : len3 ≤ maxLen) (s3 : SRow H 1 len3 (.slice b3 len3 cap3) z3.flatten) (w3 : ∀ r ∈ z3, CellsAre [.b] r) :
    Does Try.prog 8 [.int .i64 n0, .slice b1 len1 cap1, .slice b2 len2 cap2, .slice b3 len3 cap3] H fun v H' => v = .bool true ∧ Ext [] H H' := by
  have hon := ints_of_row e1 s1
  have htk := ints_of_row e2 s2
  refine Fn_of_vc Try.mixed (vc_eapart _ _ _ _ _ _ _ _ _ _ _ _) ?_
  refine (pick_ok n0 60 H (by decide) (by decide)).mono ?_
  rintro _ _ ⟨rfl, rfl⟩
  have p0 := Int.emod_nonneg n0 (show (60 : Int) ≠ 0 by decide)
  have p1 := Int.emod_lt_of_pos n0 (show (0 : Int) < 60 by decide)
  refine ⟨_, rfl, ⟨by omega, by omega⟩, ?_⟩
  obtain ⟨n, hn⟩ : ∃ n : Nat, 8 + n0 % 60 = n := ⟨(8 + n0 % 60).toNat, by omega⟩
  rw [hn]
  have hn1 : 8 ≤ n ∧ n ≤ 68 := by omega
  refine (of_ok hon n (by omega) (by omega)).mono ?_
  rintro _ H5 ⟨pb, bb, c, qb, rb, rfl, hpr⟩
  have hn2 : ∀ {x : Addr}, ¬ ((some x : Option Addr) = none) := by intro x e; cases e
  refine ⟨_, _, rfl, (known7_ok H5).mono ?_⟩
  rintro _ H9 ⟨rfl, hx9⟩
  have hpr := hpr.more hx9
  refine ⟨_, rfl, fun e => (by cases e), fun _ => ⟨fun e => absurd e hn2, fun _ => ?_⟩⟩
  let V : Option Addr → Nat → Prop := fun a k => k = bb ∨ k ∈ blkOf a
  let J : Nat → Option Addr → Nat → Nat → Heap → Prop := fun m a l ca H' => ∃ bs vs ls, IsB H' pb (some ⟨bb, 0, none⟩) c bs ∧ Ext [] H H' ∧ OwnO H' 1 a l ca vs ∧ vs.length = ls.length ∧
    (∀ (i : Nat) (q : List Pc), ls[i]? = some q → ∃ a' n' c', vs[i]? = some (.slice a' n' c') ∧ PS H' (V a) a' n' c' q) ∧ (∀ k, k ∈ blkOf a → H.size ≤ k ∧ k ≠ pb ∧ k ≠ bb ∧ k < H'.size) ∧ Held bs ls ∧ bs.length = n ∧ l ≤ m
  have j0 : J 0 none 0 0 H9 := ⟨_, [], [], hpr.map, hpr.ext, OwnO.nil _ _, rfl, fun i q hq => by simp at hq, fun k hk => (by cases hk), held_nil _, ofF_length _ _, Nat.le_refl _⟩
  have fpb := hpr.fp
  have fbb := hpr.fb
  have dpb := hpr.d4
  refine ⟨fun a l ca i H' => ∃ j : Nat, i = j ∧ j ≤ len2 ∧ j ≤ 12 ∧ J j a l ca H', fun _ _ _ i _ => len2 - i.toNat, ⟨0, rfl, Nat.zero_le _, Nat.zero_le _, j0⟩, ?_⟩
  rintro a13 l14 c15 _ H17 ⟨j, rfl, hj, hj12, bs, vs, ls, hm, hx17, hown, hvl, hat, hka, hheld, hbl, hlj⟩
  refine ⟨fun h1 => ⟨fun h2 => ?_, fun h2 => ⟨rfl, hx17⟩⟩, fun h1 => ⟨rfl, hx17⟩⟩
  obtain ⟨t, htj⟩ : ∃ t, z2[j]? = some t := ⟨_, List.getElem?_eq_getElem (by omega)⟩
  obtain ⟨bt, ot, rfl, ct⟩ := htk.get j t htj
  refine ⟨by omega, h1, bt, ot, rfl, t, hcell_ext ct hx17 (by simp), (pick_ok t 9 H17 (by decide) (by decide)).mono ?_⟩
  rintro _ _ ⟨rfl, rfl⟩
  obtain ⟨k, hk⟩ : ∃ k : Nat, t % 9 = k := ⟨(t % 9).toNat, by omega⟩
  have hk9 : k ≤ 8 := by omega
  rw [hk]
  refine ⟨_, rfl, (copyb_ok hm).mono ?_⟩
  rintro _ H25 ⟨wb, wa, wc, rfl, hwas, hx25, hwb, hwa⟩
  have hm25 := hm.ext hx25 (by simp) (by simp)
  have hbn : bs.length ≤ 100000 := by omega
  refine ⟨_, rfl, (take_ok hm25 0 k (by decide) (by omega) hbn).mono ?_⟩
  rintro _ H28 ⟨bs1, hg1, hb28, hx28⟩
  obtain ⟨rfl, p1, pn1, pc1, rfl, hp1, hpc1, hp61, hpf1⟩ := hg1.val
  have hx28' : Ext [bb] H25 H28 := hx28
  have lbb17 : bb < H17.size := hm.lt.2 bb (by simp [blkOf])
  have s25 := hx25.size
  have s28 := hx28.size
  have hxx28 : Ext [] H H28 := (hx17.trans hx25).trans' hx28' (by intro i hi; simp only [List.mem_singleton] at hi; subst hi; exact .inl fbb)
  have hwas28 := hwas.ext hx28' (by simp; omega) (by intro i hi; have := hwa i hi; simp only [List.mem_singleton]; omega)
  have hown28 := (hown.ext hx25 (by simp)).ext hx28' (by intro i hi; have := (hka i hi).2.2.1; simpa using this)
  have hat28 : ∀ (i : Nat) (q : List Pc), ls[i]? = some q → ∃ a' n' c', vs[i]? = some (.slice a' n' c') ∧ PS H28 (V a13) a' n' c' q := fun i q hq => by
    obtain ⟨a', n', c', g1, g2⟩ := hat i q hq
    exact ⟨a', n', c', g1, (g2.ext hx25 (by simp)).ext hx28' (by intro k hk; simp only [List.mem_singleton] at hk; exact .inl hk)⟩
  have hka28 : ∀ k, k ∈ blkOf a13 → H.size ≤ k ∧ k ≠ pb ∧ k ≠ bb ∧ k < H28.size := fun k hk => ⟨(hka k hk).1, (hka k hk).2.1, (hka k hk).2.2.1, by have := (hka k hk).2.2.2; omega⟩
  refine ⟨_, _, _, _, rfl, fun e => absurd e hn2, fun _ => ⟨fun h3 => ?_, fun h3 => ?_⟩⟩
  · have e1 : growB bs [] 0 k = bs := by unfold growB; rw [if_neg (by simp [h3])]
    rw [e1] at hb28
    refine (bytesb_ok hwas28).mono ?_
    rintro _ H34 ⟨a35, c37, xs, hby, rfl, ho35, hx34, hf35⟩
    have hb34 := hb28.ext hx34 (by simp) (by simp)
    refine ⟨_, _, _, rfl, xs, ho35.row _ _, (bytesb_ok hb34).mono ?_⟩
    rintro _ H40 ⟨a41, c43, ys, hby2, rfl, ho41, hx40, hf41⟩
    have e := hby.one hby2
    subst e
    have hx3440 := hx34.trans hx40
    refine ⟨_, _, _, rfl, (ho35.ext hx40 (by simp)).row _ _, xs, ho41.row _ _, fun e => absurd rfl e, fun _ => ⟨⟨by omega, by omega⟩, ⟨j + 1, by omega, by omega, by omega, bs, vs, ls, hb34.ext hx40 (by simp) (by simp), hxx28.trans hx3440, hown28.ext hx3440 (by simp), hvl, fun i q hq => ?_, fun i hi => ?_, hheld, hbl, by omega⟩, by dsimp only; omega⟩⟩
    · obtain ⟨a', n', c', g1, g2⟩ := hat28 i q hq
      exact ⟨a', n', c', g1, g2.ext hx3440 (by simp)⟩
    · have := hka28 i hi
      have := hx3440.size
      exact ⟨by omega, by omega, by omega, by omega⟩
  have hgo : growOk bs [] 0 k := decP_iff.1 (by simpa using h3)
  have eB : growB bs [] 0 k = setAll bs (foundF bs 0 k) true := by unfold growB; rw [if_pos (decP_iff.2 hgo)]; rfl
  have eO : growO bs [] 0 k = growF bs [] 0 k := by unfold growO; rw [if_pos (decP_iff.2 hgo)]
  have hheld2 := hheld.take hgo
  have eblk : blocksI (growF bs [] 0 k) = foundF bs 0 k := by
    have := (piecesF_spec (blocksI [] ++ foundF bs 0 k)).2.2
    simpa [growF, blocksI] using this
  rw [eO] at hp1
  rw [eB] at hb28
  have hlB : (setAll bs (foundF bs 0 k) true).length = n := by rw [setAll_length, hbl]
  have hfl : (foundF bs 0 k).length = k := by
    have := hgo.2.2.1
    simpa using this
  have hRout : RightP (growF bs [] 0 k) 0 n := by
    have := hheld2.right (growF bs [] 0 k) (by simp)
    rw [show (setAll bs (foundF bs 0 (k : Int).toNat) true).length = n by rw [setAll_length, hbl]] at this
    exact this
  have hfs : ∀ x ∈ foundF bs 0 k, 0 ≤ x ∧ x < bs.length ∧ onB bs x.toNat = false := fun x hx => found_spec (k := 0) (n := (k : Int)) hx
  have hfr : ∀ x ∈ foundF bs 0 k, 0 ≤ x ∧ x < (bs.length : Int) := fun x hx => ⟨(hfs x hx).1, (hfs x hx).2.1⟩
  refine (count_ok hp1).mono ?_
  rintro _ H46 ⟨rfl, hx46⟩
  have ecount : countF (growF bs [] 0 k) = k := by rw [right_total hRout (by omega), eblk, hfl]
  refine ⟨_, rfl, fun e => absurd ecount e, fun _ => (freeb_ok (hwas28.ext hx46 (by simp) (by simp))).mono ?_⟩
  rintro _ _ ⟨rfl, rfl⟩
  refine ⟨_, rfl, (freeb_ok (hb28.ext hx46 (by simp) (by simp))).mono ?_⟩
  rintro _ _ ⟨rfl, rfl⟩
  have hcnt := cnt_on (foundF bs 0 k) bs (offs_nodup _ _ _ _) hfs
  have hcl := cntF_le (onB bs) bs.length
  rw [hlB]
  rw [hbl] at hcnt hcl
  rw [hbl]
  refine ⟨_, rfl, ⟨by omega, by omega⟩, fun e => absurd (by omega) e, fun _ => (right_ok (hp1.ext hx46 (by simp)) hpc1 0 n (by decide) (by decide) (by omega)).mono ?_⟩
  rintro _ H55 ⟨rfl, hx55⟩
  have hx4655 := hx46.trans hx55
  have hwas55 := hwas28.ext hx4655 (by simp) (by simp)
  have hb55 := hb28.ext hx4655 (by simp) (by simp)
  have hp55 := hp1.ext hx4655 (by simp)
  refine ⟨_, rfl, fun e => absurd (e.symm.trans (decP_iff.2 hRout)) (by decide), fun _ => ?_⟩
  refine ⟨fun last q H' => ∃ i : Nat, q = i ∧ i ≤ k ∧ Ext [] H55 H' ∧ (match i with | 0 => last = -1 | u + 1 => (foundF bs 0 k)[u]? = some last), fun _ q _ => k - q.toNat, ⟨0, rfl, Nat.zero_le _, Ext.refl _ _, rfl⟩, ?_⟩
  rintro last _ H61 ⟨i, rfl, hi, hx61, hlast⟩
  refine ⟨fun h4 => ?_, fun h4 => ?_⟩
  · obtain ⟨b, hbi⟩ : ∃ b, (foundF bs 0 k)[i]? = some b := ⟨_, List.getElem?_eq_getElem (by omega)⟩
    have hbm := List.mem_of_getElem? hbi
    obtain ⟨g0, g1, g2⟩ := hfs b hbm
    have hgap := offs_gap (onB bs) (bs.length - (0 : Int).toNat) (0 : Int).toNat k i b hbi last (by
      cases i with
      | zero => simpa using hlast
      | succ u => exact hlast)
    refine (at_ok (hp55.ext hx61 (by simp)) i).mono ?_
    rintro _ H63 ⟨rfl, hx63⟩
    rw [right_at hRout (by omega) (by rw [eblk]; exact hbi)]
    have hx6163 := hx61.trans hx63
    have hw63 := hwas55.ext hx6163 (by simp) (by simp)
    have hb63 := hb55.ext hx6163 (by simp) (by simp)
    refine ⟨_, _, rfl, fun e => (by cases e), fun _ => ⟨fun e => absurd hgap.1 (by simp only at e; omega), fun _ => (getb_ok hw63 b).mono ?_⟩⟩
    rintro _ _ ⟨rfl, rfl⟩
    refine ⟨_, rfl, fun e => ?_, fun _ => (getb_ok hb63 b).mono ?_⟩
    · simp only [g2, Bool.and_false] at e
      cases e
    rintro _ _ ⟨rfl, rfl⟩
    refine ⟨_, rfl, fun e => ?_, fun _ => ⟨⟨by
      have : -1 ≤ last := by
        cases i with
        | zero => simp only at hlast; omega
        | succ u => have := hfr last (List.mem_of_getElem? hlast); omega
      omega, by have := hgap.1; omega⟩, ?_⟩⟩
    · rw [onB_setAll _ _ _ hfr, if_pos (by rw [show ((b.toNat : Nat) : Int) = b by omega]; exact hbm), hlB] at e
      have h5 : decide (0 ≤ b) = true := by simp [g0]
      have h6 : decide (b < (n : Int)) = true := by simp; omega
      rw [h5, h6] at e
      cases e
    · have hlast0 : -1 ≤ last := by
        cases i with
        | zero => simp only at hlast; omega
        | succ u => have := hfr last (List.mem_of_getElem? hlast); omega
      refine ⟨fun q H' => ∃ u : Nat, q = u ∧ last < q ∧ q ≤ b ∧ Ext [] H63 H', fun q _ => b.toNat - q.toNat, ⟨(last + 1).toNat, by omega, by omega, by omega, Ext.refl _ _⟩, ?_⟩
      rintro _ H75 ⟨u, rfl, hu1, hu2, hx75⟩
      refine ⟨fun h7 => (getb_ok (hw63.ext hx75 (by simp) (by simp)) u).mono ?_, fun h7 => ⟨⟨by omega, by omega⟩, ⟨i + 1, by omega, by omega, hx6163.trans hx75, hbi⟩, by dsimp only; omega⟩⟩
      rintro _ _ ⟨rfl, rfl⟩
      have h8 := hgap.2 u hu1 h7
      refine ⟨_, rfl, fun e => ?_, fun _ => ⟨⟨by omega, by omega⟩, ⟨u + 1, by omega, by omega, by omega, hx75⟩, by dsimp only; omega⟩⟩
      rw [Int.toNat_natCast, h8] at e
      have h5 : decide ((0 : Int) ≤ u) = true := by simp
      have h6 : decide ((u : Int) < (bs.length : Int)) = true := by simp; omega
      rw [h5, h6] at e
      cases e
  · -- appended
    have hx5561 := hx4655.trans hx61
    have hxx61 := hxx28.trans hx5561
    have hb61 := hb28.ext hx5561 (by simp) (by simp)
    have hown61 := hown28.ext hx5561 (by simp)
    have ps1 : PS H61 (V a13) p1 pn1 pc1 (growF bs [] 0 k) := ⟨hp1.ext hx5561 (by simp), hpc1, hp61, fun i hi => ⟨by have := hpf1 i hi; have := hx5561.size; omega, by
      have := hpf1 i hi
      rintro (rfl | hv)
      · omega
      · have := (hka i hv).2.2.2; omega⟩⟩
    refine append_oneO hown61 rfl (by intro u hu; simp only [List.mem_singleton] at hu; subst hu; rfl) rfl (by omega) ?_
    intro a83 c84 H85 ho85 hx85 hf85
    have s61 := hx5561.size
    have hb85 := hb61.ext hx85 (fun hh => (hka28 _ hh).2.1 rfl) (by intro i hi hh; simp only [blkOf, List.mem_singleton] at hi; subst hi; exact (hka28 _ hh).2.2.1 rfl)
    have hxx85 : Ext [] H H85 := hxx61.trans' hx85 (fun i hi => .inl (hka28 i hi).1)
    have hka85 : ∀ k, k ∈ blkOf a83 → H.size ≤ k ∧ k ≠ pb ∧ k ≠ bb ∧ k < H85.size := fun i hi => by
      have h9 : i < H85.size := by
        obtain ⟨_, o2, _, _, o4⟩ := id ho85
        rcases o4 with rfl | ⟨b, pre, tail, rfl, hb, _⟩
        · omega
        · simp only [blkOf, List.mem_singleton] at hi; subst hi; exact hb.lt
      rcases hf85 i hi with h6 | h6
      · exact ⟨(hka28 i h6).1, (hka28 i h6).2.1, (hka28 i h6).2.2.1, h9⟩
      · have := hm.lt.1
        have := hxx61.size
        exact ⟨by omega, by omega, by omega, h9⟩
    have keep : ∀ {a' n' c' q}, PS H61 (V a13) a' n' c' q → PS H85 (V a83) a' n' c' q := fun hq =>
      ⟨(hq.ext hx85 (fun i hi => .inr hi)).pcs, hq.cap, hq.few, fun i hi => ⟨Nat.lt_of_lt_of_le (hq.off i hi).1 hx85.size, fun hv => by
        rcases hv with rfl | hv
        · exact (hq.off _ hi).2 (.inl rfl)
        · rcases hf85 i hv with h6 | h6
          · exact (hq.off i hi).2 (.inr h6)
          · have := (hq.off i hi).1; omega⟩⟩
    have hat85 : ∀ (i : Nat) (q : List Pc), (ls ++ [growF bs [] 0 k])[i]? = some q → ∃ a' n' c', (vs ++ [Value.slice p1 pn1 pc1])[i]? = some (.slice a' n' c') ∧ PS H85 (V a83) a' n' c' q := fun i q hq => by
      by_cases hlt : i < ls.length
      · rw [List.getElem?_append_left hlt] at hq
        obtain ⟨a', n', c', g1, g2⟩ := hat28 i q hq
        exact ⟨a', n', c', by rw [List.getElem?_append_left (by omega)]; exact g1, keep (g2.ext hx5561 (by simp))⟩
      · rw [List.getElem?_append_right (by omega)] at hq
        have e : i - ls.length = 0 := by
          have := (List.getElem?_eq_some_iff.1 hq).1
          simp at this; omega
        rw [e] at hq
        simp only [List.getElem?_cons_zero, Option.some.injEq] at hq
        subst hq
        exact ⟨p1, pn1, pc1, by rw [List.getElem?_append_right (by omega), hvl, e]; rfl, keep ps1⟩
    have fin : In64 ((j : Int) + 1) ∧ (∃ j' : Nat, (j : Int) + 1 = j' ∧ j' ≤ len2 ∧ j' ≤ 12 ∧ J j' a83 (l14 + 1) c84 H85) ∧ len2 - ((j : Int) + 1).toNat < len2 - (j : Int).toNat :=
      ⟨⟨by omega, by omega⟩, ⟨j + 1, by omega, by omega, by omega, _, _, _, hb85, hxx85, ho85, by simp [hvl], hat85, hka85, hheld2, hlB, by omega⟩, by omega⟩
    refine ⟨fun h5 => ?_, fun h5 => fin⟩
    obtain ⟨r, hr⟩ : ∃ r, z3[j]? = some r := ⟨_, List.getElem?_eq_getElem (by omega)⟩
    have hcr := w3 r (List.mem_of_getElem? hr)
    have hlen3 : ∀ r ∈ z3, r.length = 1 := fun r hr => (w3 r hr).length
    have h30 := flatten_at (j := 0) hlen3 hr (by decide)
    match r, hcr with
    | [.bool on], _ =>
    obtain ⟨b86, o87, rfl, c86⟩ := s3.at (h30.trans rfl)
    refine ⟨by omega, h5, b86, o87, rfl, on, by rw [Int.toNat_natCast]; have := hcell_ext c86 hxx85 (by simp); rwa [show o87 + (j * 1 + 0) = o87 + j by omega] at this, fun h6 => ?_, fun h6 => fin⟩
    -- given back
    obtain ⟨x, xs, hxs⟩ : ∃ x xs, ls ++ [growF bs [] 0 k] = x :: xs := by
      cases ls with
      | nil => exact ⟨_, _, rfl⟩
      | cons y ys => exact ⟨_, _, rfl⟩
    obtain ⟨v, vs', hvs⟩ : ∃ v vs', vs ++ [Value.slice p1 pn1 pc1] = v :: vs' := by
      cases vs with
      | nil => exact ⟨_, _, rfl⟩
      | cons y ys => exact ⟨_, _, rfl⟩
    have hheld3 : Held (setAll bs (foundF bs 0 k) true) (x :: xs) := by rw [← hxs]; exact hheld2
    rw [hxs, hvs] at hat85
    rw [hvs] at ho85
    have hRx := hheld3.right x (by simp)
    rw [hlB] at hRx
    obtain ⟨a91, l92, c93, g1, g2⟩ := hat85 0 x rfl
    obtain ⟨b89, o90, eb, gc⟩ := (ho85.row (l14 + 1) c84).get g1
    refine ⟨by decide, by omega, b89, o90, eb, a91, l92, c93, gc, (freeb_ok hb85).mono ?_⟩
    rintro _ _ ⟨rfl, rfl⟩
    refine ⟨_, rfl, (shrink_ok hb85 g2.pcs (fun i hi hi' => (g2.off i hi).2 (.inl (by simpa [blkOf] using hi'))) g2.cap 0 (by decide) (by omega)).mono ?_⟩
    rintro _ H98 ⟨bs2, hs2, hb98, hx98⟩
    obtain ⟨rfl, a99, l100, c101, rfl, hp99, _, _, _⟩ := hs2.val
    have hRx' : RightP x 0 (setAll bs (foundF bs 0 k) true).length := by rw [hlB]; exact hRx
    have eS : shrinkB (setAll bs (foundF bs 0 k) true) x 0 = setAll (setAll bs (foundF bs 0 k) true) (blocksI x) false := by unfold shrinkB; rw [if_pos (decP_iff.2 hRx')]; rfl
    have eS2 : shrinkO (setAll bs (foundF bs 0 k) true) x 0 = [] := by unfold shrinkO; rw [if_pos (decP_iff.2 hRx')]; rfl
    rw [eS] at hb98
    have l100z : l100 = 0 := by
      have := hp99.leng
      rw [eS2] at this
      exact this.symm
    have hx98' : Ext [bb] H85 H98 := hx98
    refine ⟨_, _, _, rfl, fun e => absurd (by omega) e, fun _ => (freeb_ok hb98).mono ?_⟩
    rintro _ _ ⟨rfl, rfl⟩
    have g298 := g2.ext hx98' (by intro k hk; simp only [List.mem_singleton] at hk; exact .inl hk)
    refine ⟨_, rfl, (count_ok g298.pcs).mono ?_⟩
    rintro _ H106 ⟨rfl, hx106⟩
    have hcnt2 := cnt_off (blocksI x) (setAll bs (foundF bs 0 k) true) (right_nodup hRx) (fun y hy => by
      have := right_range hRx y hy
      exact ⟨this.1, by rw [hlB]; exact this.2, hheld3.on x (by simp) y hy⟩)
    rw [right_total hRx (by omega)]
    simp only [setAll_length, hbl]
    rw [hlB] at hcnt2
    have hcl2 := cntF_le (onB (setAll bs (foundF bs 0 k) true)) n
    have hbx := blocksI_length (right_pos hRx)
    have hcl3 := cntF_le (onB (setAll (setAll bs (foundF bs 0 k) true) (blocksI x) false)) n
    refine ⟨_, rfl, ⟨by omega, by omega⟩, fun e => absurd (by omega) e, fun _ => ⟨by decide, by omega, fun a108 h108 => ?_⟩⟩
    obtain ⟨hot, hbo⟩ := OwnO.tail ho85 h108
    have hxbb : ∀ i, i ∈ blkOf a83 → i ∉ [bb] := fun i hi => by simpa using (hka85 i hi).2.2.1
    refine ⟨⟨by omega, by omega⟩, ⟨j + 1, by omega, by omega, by omega, _, vs', xs, hb98.ext hx106 (by simp) (by simp), (hxx85.trans' hx98' (by intro i hi; simp only [List.mem_singleton] at hi; subst hi; exact .inl fbb)).trans hx106, (hot.ext hx98' (by rw [hbo]; exact hxbb)).ext hx106 (by simp), ?_, fun i q hq => ?_, fun i hi => ?_, hheld3.tail, by rw [setAll_length, hlB], ?_⟩, by omega⟩
    · have h7 : (vs ++ [Value.slice p1 pn1 pc1]).length = (ls ++ [growF bs [] 0 k]).length := by simp [hvl]
      rw [hxs, hvs] at h7
      simpa using h7
    · obtain ⟨a', n', c', q1, q2⟩ := hat85 (i + 1) q (by simpa using hq)
      refine ⟨a', n', c', by simpa using q1, ((q2.ext hx98' (by intro k hk; simp only [List.mem_singleton] at hk; exact .inl hk)).ext hx106 (by simp)).mono (fun k hv => .inl ?_)⟩
      show k = bb ∨ k ∈ blkOf a83
      rw [← hbo]
      exact hv
    · rw [hbo] at hi
      have := hka85 i hi
      have := hx98.size
      have := hx106.size
      exact ⟨by omega, by omega, by omega, by omega⟩
    · show l14 + 1 - Int.toNat 1 ≤ j + 1
      have : Int.toNat 1 = 1 := rfl
      omega

end Go.Proofs
end

