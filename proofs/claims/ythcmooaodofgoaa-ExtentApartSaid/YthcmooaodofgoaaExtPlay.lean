/-
  The law ExtentPlays over the contracts. No condition.
-/
import Derived.Test.YthcmooaodofgoaaExtRaw

section
open Go Go.Vc
namespace Go.Proofs

theorem onB_setB (bs : List Bool) (x : Int) (on : Bool) (h : 0 ≤ x ∧ x < bs.length) (i : Nat) : onB (setB bs x on) i = if (i : Int) = x then on else onB bs i := by
  rw [setB_in h, onB_set _ _ _ _ (by omega)]
  by_cases e : (i : Int) = x
  · rw [if_pos e, if_pos (by omega)]
  · rw [if_neg e, if_neg (by omega)]

theorem onB_setAll : ∀ (xs : List Int) (bs : List Bool) (on : Bool), (∀ x ∈ xs, 0 ≤ x ∧ x < bs.length) → ∀ i : Nat, onB (setAll bs xs on) i = if (i : Int) ∈ xs then on else onB bs i
  | [], bs, on, _, i => by simp [setAll]
  | x :: xs, bs, on, h, i => by
    have e : setAll bs (x :: xs) on = setAll (setB bs x on) xs on := rfl
    rw [e, onB_setAll xs _ on (fun y hy => by rw [setB_length]; exact h y (by simp [hy])) i, onB_setB _ _ _ (h x (by simp))]
    by_cases h1 : (i : Int) ∈ xs
    · rw [if_pos h1, if_pos (by simp [h1])]
    · rw [if_neg h1]
      by_cases h2 : (i : Int) = x
      · rw [if_pos h2, if_pos (by simp [h2])]
      · rw [if_neg h2, if_neg (by simp [h1, h2])]

/-- What the reference finds: off, in order. -/
theorem offs_spec (p : Nat → Bool) : ∀ (f k c : Nat) (x : Int), x ∈ offs p f k c → (k : Int) ≤ x ∧ x < (k : Int) + f ∧ p x.toNat = false
  | 0, k, c, x, h => by simp [offs] at h
  | f + 1, k, 0, x, h => by simp [offs] at h
  | f + 1, k, c + 1, x, h => by
    rw [offs] at h
    split at h
    · have := offs_spec p f (k + 1) (c + 1) x h
      exact ⟨by omega, by omega, this.2.2⟩
    · rename_i hp
      rcases List.mem_cons.1 h with rfl | h
      · refine ⟨by omega, by omega, by simpa using hp⟩
      · have := offs_spec p f (k + 1) c x h
        exact ⟨by omega, by omega, this.2.2⟩

theorem offs_nodup (p : Nat → Bool) : ∀ (f k c : Nat), (offs p f k c).Nodup
  | 0, k, c => by simp [offs]
  | f + 1, k, 0 => by simp [offs]
  | f + 1, k, c + 1 => by
    rw [offs]
    split
    · exact offs_nodup p f (k + 1) (c + 1)
    · rw [List.nodup_cons]
      refine ⟨fun h => ?_, offs_nodup p f (k + 1) c⟩
      have := (offs_spec p f (k + 1) c _ h).1
      omega

theorem blocksI_rev_cons (rs : List Pc) (q : Pc) : blocksI (q :: rs).reverse = blocksI rs.reverse ++ blkI q := by
  rw [List.reverse_cons, blocksI_append]
  simp [blocksI]

theorem blkI_one (b : Int) : blkI ⟨b, 1⟩ = [b] := by simp [blkI]

theorem blkI_succ (q : Pc) (h : 0 ≤ q.c) : blkI ⟨q.s, q.c + 1⟩ = blkI q ++ [q.s + q.c] := by
  unfold blkI
  have : (q.c + 1).toNat = q.c.toNat + 1 := by omega
  simp only [this, List.range_succ, List.map_append, List.map_cons, List.map_nil]
  rw [show ((q.c.toNat : Nat) : Int) = q.c by omega]

theorem pushB_pos {rs : List Pc} (h : ∀ p ∈ rs, 1 ≤ p.c) (b : Int) : ∀ p ∈ pushB rs b, 1 ≤ p.c := by
  intro p hp
  cases rs with
  | nil => simp only [pushB, List.mem_singleton] at hp; subst hp; simp
  | cons q r =>
    simp only [pushB] at hp
    have hq := h q (by simp)
    split at hp
    · rcases List.mem_cons.1 hp with rfl | hp
      · simp only; omega
      · exact h p (by simp [hp])
    · rcases List.mem_cons.1 hp with rfl | hp
      · simp
      · exact h p hp

theorem pushB_blocks {rs : List Pc} (h : ∀ p ∈ rs, 1 ≤ p.c) (b : Int) : blocksI (pushB rs b).reverse = blocksI rs.reverse ++ [b] := by
  cases rs with
  | nil => simp [pushB, blocksI, blkI]
  | cons q r =>
    have hq := h q (by simp)
    simp only [pushB]
    split
    · rename_i e
      rw [blocksI_rev_cons, blocksI_rev_cons, blkI_succ q (by omega), e, List.append_assoc]
    · rw [blocksI_rev_cons, blkI_one]

/-- Neighbours (the last first) do not touch. -/
def RNorm : List Pc → Prop
  | p :: q :: r => q.s + q.c ≠ p.s ∧ RNorm (q :: r)
  | _ => True

theorem pushB_norm {rs : List Pc} (h : RNorm rs) (b : Int) : RNorm (pushB rs b) := by
  match rs, h with
  | [], _ => trivial
  | [q], _ =>
    simp only [pushB]
    split
    · trivial
    · rename_i e; exact ⟨e, trivial⟩
  | q :: q' :: r, h =>
    simp only [pushB]
    split
    · exact ⟨h.1, h.2⟩
    · rename_i e; exact ⟨e, h⟩

theorem foldB_all : ∀ (xs : List Int) (rs : List Pc), (∀ p ∈ rs, 1 ≤ p.c) → RNorm rs → (∀ p ∈ xs.foldl pushB rs, 1 ≤ p.c) ∧ RNorm (xs.foldl pushB rs) ∧ blocksI (xs.foldl pushB rs).reverse = blocksI rs.reverse ++ xs
  | [], rs, h1, h2 => ⟨h1, h2, by simp⟩
  | x :: xs, rs, h1, h2 => by
    obtain ⟨h3, h4, h5⟩ := foldB_all xs (pushB rs x) (pushB_pos h1 x) (pushB_norm h2 x)
    refine ⟨h3, h4, ?_⟩
    rw [List.foldl_cons, h5, pushB_blocks h1]
    simp

theorem rnorm_at : ∀ {rs : List Pc}, RNorm rs → ∀ {i : Nat} {p q : Pc}, rs[i]? = some p → rs[i + 1]? = some q → q.s + q.c ≠ p.s
  | p :: q :: r, h, 0, a, b, ha, hb => by
    simp only [List.getElem?_cons_zero, Option.some.injEq, List.getElem?_cons_succ] at ha hb
    subst ha; subst hb
    exact h.1
  | p :: q :: r, h, i + 1, a, b, ha, hb => by
    simp only [List.getElem?_cons_succ] at ha hb
    exact rnorm_at (rs := q :: r) h.2 (i := i) (by simpa using ha) (by simpa using hb)
  | [p], h, i, a, b, ha, hb => by
    cases i <;> simp at hb
  | [], h, i, a, b, ha, hb => by simp at ha

theorem piecesF_spec (xs : List Int) : (∀ p ∈ piecesF xs, 1 ≤ p.c) ∧ (∀ (i : Nat) (p q : Pc), (piecesF xs)[i]? = some q → (piecesF xs)[i + 1]? = some p → q.s + q.c ≠ p.s) ∧ blocksI (piecesF xs) = xs := by
  obtain ⟨h1, h2, h3⟩ := foldB_all xs [] (by simp) trivial
  refine ⟨fun p hp => h1 p (by simpa [piecesF] using hp), fun i p q hq hp => ?_, by simpa [piecesF, blocksI] using h3⟩
  unfold piecesF at hq hp
  obtain ⟨hi, _⟩ := List.getElem?_eq_some_iff.1 hp
  rw [List.length_reverse] at hi
  rw [List.getElem?_reverse (by omega)] at hq hp
  refine rnorm_at h2 hp ?_
  rw [show (xs.foldl pushB []).length - 1 - (i + 1) + 1 = (xs.foldl pushB []).length - 1 - i by omega]
  exact hq

theorem mem_blkI_iff {p : Pc} {x : Int} : x ∈ blkI p ↔ p.s ≤ x ∧ x < p.s + p.c := by
  refine ⟨mem_blkI, fun h => ?_⟩
  simp only [blkI, List.mem_map, List.mem_range]
  exact ⟨(x - p.s).toNat, by omega, by omega⟩

/-- Blocks that stand once are apart. -/
theorem apart_of_nodup : ∀ {l : List Pc}, (∀ p ∈ l, 1 ≤ p.c) → (blocksI l).Nodup → ∀ (i k : Nat) (p q : Pc), k < i → l[i]? = some p → l[k]? = some q → apartP q p
  | [], _, _, i, k, p, q, _, hp, _ => by simp at hp
  | r :: l, hpos, hn, i + 1, 0, p, q, _, hp, hq => by
    simp only [List.getElem?_cons_zero, Option.some.injEq] at hq
    subst hq
    simp only [List.getElem?_cons_succ] at hp
    have hpl := List.mem_of_getElem? hp
    rw [blocksI_cons, List.nodup_append] at hn
    have h1 := hpos r (by simp)
    have h2 := hpos p (by simp [hpl])
    unfold apartP
    rcases Int.lt_or_le p.s (r.s + r.c) with h3 | h3
    · rcases Int.lt_or_le r.s (p.s + p.c) with h4 | h4
      · exfalso
        refine hn.2.2 (max r.s p.s) (mem_blkI_iff.2 (by omega)) (max r.s p.s) ?_ rfl
        simp only [blocksI, List.mem_flatten, List.mem_map]
        exact ⟨_, ⟨p, hpl, rfl⟩, mem_blkI_iff.2 (by omega)⟩
      · exact .inr h4
    · exact .inl h3
  | r :: l, hpos, hn, i + 1, k + 1, p, q, hk, hp, hq => by
    rw [blocksI_cons, List.nodup_append] at hn
    exact apart_of_nodup (l := l) (fun p hp => hpos p (by simp [hp])) hn.2.1 i k p q (by omega) (by simpa using hp) (by simpa using hq)

theorem mem_blocksI_of {l : List Pc} {p : Pc} (hp : p ∈ l) {x : Int} (h : p.s ≤ x ∧ x < p.s + p.c) : x ∈ blocksI l := by
  simp only [blocksI, List.mem_flatten, List.mem_map]
  exact ⟨_, ⟨p, hp, rfl⟩, mem_blkI_iff.2 h⟩

theorem right_pieces {xs : List Int} {a e : Int} (h6 : (piecesF xs).length ≤ 6) (hr : ∀ x ∈ xs, a ≤ x ∧ x < e) (hn : xs.Nodup) : RightP (piecesF xs) a e := by
  obtain ⟨h1, h2, h3⟩ := piecesF_spec xs
  refine ⟨h6, fun i p hp => ⟨?_, fun k q hk hq => ⟨apart_of_nodup h1 (by rw [h3]; exact hn) i k p q hk hp hq, fun e => ?_⟩⟩⟩
  · have hpm := List.mem_of_getElem? hp
    have hc := h1 p hpm
    have b1 := hr p.s (by rw [← h3]; exact mem_blocksI_of hpm (by omega))
    have b2 := hr (p.s + p.c - 1) (by rw [← h3]; exact mem_blocksI_of hpm (by omega))
    exact ⟨hc, by omega, by omega, by omega⟩
  · subst e
    exact h2 k p q hq hp

theorem nodup_of_apart : ∀ {l : List Pc}, (∀ (i k : Nat) (p q : Pc), k < i → l[i]? = some p → l[k]? = some q → apartP q p) → (blocksI l).Nodup
  | [], _ => by simp [blocksI]
  | r :: l, h => by
    rw [blocksI_cons, List.nodup_append]
    refine ⟨?_, nodup_of_apart (l := l) (fun i k p q hk hp hq => h (i + 1) (k + 1) p q (by omega) (by simpa using hp) (by simpa using hq)), fun x hx y hy e => ?_⟩
    · unfold blkI
      unfold List.Nodup
      rw [List.pairwise_map]
      exact List.nodup_range.imp fun h1 e => h1 (by omega)
    · subst e
      obtain ⟨p, hp, hx'⟩ := mem_blocksI hy
      have hxr := mem_blkI hx
      obtain ⟨i, hi, rfl⟩ := List.mem_iff_getElem.1 hp
      have := h (i + 1) 0 _ r (by omega) (by simp [List.getElem?_eq_getElem hi]; rfl) rfl
      unfold apartP at this
      omega

theorem right_nodup {l : List Pc} {a e : Int} (h : RightP l a e) : (blocksI l).Nodup := nodup_of_apart fun i k p q hk hp hq => ((h.2 i p hp).2 k q hk hq).1

theorem right_range {l : List Pc} {a e : Int} (h : RightP l a e) : ∀ x ∈ blocksI l, a ≤ x ∧ x < e := by
  intro x hx
  obtain ⟨p, hp, h1⟩ := mem_blocksI hx
  have := right_in h p hp
  omega

/-- Pieces that are held: right ones, each block on, each once. -/
structure Held (bs : List Bool) (ls : List (List Pc)) : Prop where
  right : ∀ l ∈ ls, RightP l 0 bs.length
  on : ∀ l ∈ ls, ∀ x ∈ blocksI l, onB bs x.toNat = true
  once : ∀ (i k : Nat) (l m : List Pc), i ≠ k → ls[i]? = some l → ls[k]? = some m → ∀ x, x ∈ blocksI l → x ∉ blocksI m

theorem held_nil (bs : List Bool) : Held bs [] := ⟨by simp, by simp, by simp⟩

section
variable {bs : List Bool} {ls : List (List Pc)}

theorem found_spec {k n : Int} {x : Int} (h : x ∈ foundF bs k n.toNat) : 0 ≤ x ∧ x < bs.length ∧ onB bs x.toNat = false := by
  have := offs_spec _ _ _ _ _ h
  refine ⟨by omega, ?_, this.2.2⟩
  by_cases hk : k.toNat ≤ bs.length <;> omega

/-- What Grow does to pieces that are held. -/
theorem Held.grow (h : Held bs ls) {i : Nat} {l : List Pc} (hl : ls[i]? = some l) {k n : Int} (hg : growOk bs l k n) : Held (setAll bs (foundF bs k n.toNat) true) (ls.set i (growF bs l k n)) := by
  have hfs : ∀ x ∈ foundF bs k n.toNat, 0 ≤ x ∧ x < bs.length ∧ onB bs x.toNat = false := fun x hx => found_spec hx
  have hfr : ∀ x ∈ foundF bs k n.toNat, 0 ≤ x ∧ x < (bs.length : Int) := fun x hx => ⟨(hfs x hx).1, (hfs x hx).2.1⟩
  have hlm := List.mem_of_getElem? hl
  have hil : i < ls.length := (List.getElem?_eq_some_iff.1 hl).1
  have hblk : blocksI (growF bs l k n) = blocksI l ++ foundF bs k n.toNat := (piecesF_spec _).2.2
  have hRl := h.right l hlm
  have hon : ∀ x, 0 ≤ x → onB (setAll bs (foundF bs k n.toNat) true) x.toNat = (if x ∈ foundF bs k n.toNat then true else onB bs x.toNat) := fun x hx => by
    rw [onB_setAll _ _ _ hfr, show ((x.toNat : Nat) : Int) = x by omega]
  refine ⟨fun m hm => ?_, fun m hm x hx => ?_, fun a b m m' hab hm hm' x hx hx' => ?_⟩
  · rw [setAll_length]
    rcases List.mem_or_eq_of_mem_set hm with hm | rfl
    · exact h.right m hm
    · refine right_pieces hg.2.2.2 (fun x hx => ?_) ?_
      · rcases List.mem_append.1 hx with hx | hx
        · exact right_range hRl x hx
        · exact hfr x hx
      · rw [List.nodup_append]
        refine ⟨right_nodup hRl, offs_nodup _ _ _ _, fun x hx y hy e => ?_⟩
        subst e
        have h1 := h.on l hlm x hx
        have h2 := (hfs x hy).2.2
        rw [h1] at h2
        cases h2
  · rcases List.mem_or_eq_of_mem_set hm with hm | rfl
    · have h0 := right_range (h.right m hm) x hx
      rw [hon x h0.1, h.on m hm x hx]
      split <;> rfl
    · rw [hblk] at hx
      rcases List.mem_append.1 hx with hx | hx
      · have h0 := right_range hRl x hx
        rw [hon x h0.1, h.on l hlm x hx]
        split <;> rfl
      · rw [hon x (hfr x hx).1, if_pos hx]
  · have off : ∀ (c : Nat) (q : List Pc), c ≠ i → ls[c]? = some q → x ∈ blocksI q → x ∈ blocksI (growF bs l k n) → False := by
      intro c q hc hq hxq hxg
      rw [hblk] at hxg
      rcases List.mem_append.1 hxg with h1 | h1
      · exact h.once i c l q (Ne.symm hc) hl hq x h1 hxq
      · have h2 := h.on q (List.mem_of_getElem? hq) x hxq
        have h3 := (hfs x h1).2.2
        rw [h2] at h3
        cases h3
    by_cases ha : i = a
    · subst ha
      rw [List.getElem?_set_self hil, Option.some.injEq] at hm
      rw [List.getElem?_set_ne hab] at hm'
      subst hm
      exact off b m' (Ne.symm hab) hm' hx' hx
    · rw [List.getElem?_set_ne ha] at hm
      by_cases hb : i = b
      · subst hb
        rw [List.getElem?_set_self hil, Option.some.injEq] at hm'
        subst hm'
        exact off a m hab hm hx hx'
      · rw [List.getElem?_set_ne hb] at hm'
        exact h.once a b m m' hab hm hm' x hx hx'

theorem Held.push (h : Held bs ls) : Held bs (ls ++ [[]]) := by
  refine ⟨fun l hl => ?_, fun l hl x hx => ?_, fun i k l m hik hl hm x hx hx' => ?_⟩
  · rcases List.mem_append.1 hl with hl | hl
    · exact h.right l hl
    · simp only [List.mem_singleton] at hl; subst hl; exact right_nil _ _
  · rcases List.mem_append.1 hl with hl | hl
    · exact h.on l hl x hx
    · simp only [List.mem_singleton] at hl; subst hl; simp [blocksI] at hx
  · by_cases h1 : i < ls.length
    · rw [List.getElem?_append_left h1] at hl
      by_cases h2 : k < ls.length
      · rw [List.getElem?_append_left h2] at hm
        exact h.once i k l m hik hl hm x hx hx'
      · rw [List.getElem?_append_right (by omega)] at hm
        have := List.mem_of_getElem? hm
        simp only [List.mem_singleton] at this; subst this; simp [blocksI] at hx'
    · rw [List.getElem?_append_right (by omega)] at hl
      have := List.mem_of_getElem? hl
      simp only [List.mem_singleton] at this; subst this; simp [blocksI] at hx

/-- What Take does. -/
theorem Held.take (h : Held bs ls) {k n : Int} (hg : growOk bs [] k n) : Held (setAll bs (foundF bs k n.toNat) true) (ls ++ [growF bs [] k n]) := by
  have := h.push.grow (i := ls.length) (l := []) (by simp) hg
  simpa using this

theorem Held.shrink (h : Held bs ls) {i : Nat} {l : List Pc} (hl : ls[i]? = some l) (n : Int) : Held (setAll bs ((blocksI l).drop n.toNat) false) (ls.set i (piecesF ((blocksI l).take n.toNat))) := by
  have hlm := List.mem_of_getElem? hl
  have hRl := h.right l hlm
  have hil : i < ls.length := (List.getElem?_eq_some_iff.1 hl).1
  have hdr : ∀ x ∈ (blocksI l).drop n.toNat, 0 ≤ x ∧ x < (bs.length : Int) := fun x hx => right_range hRl x (List.mem_of_mem_drop hx)
  have hblk : blocksI (piecesF ((blocksI l).take n.toNat)) = (blocksI l).take n.toNat := (piecesF_spec _).2.2
  have hnd := right_nodup hRl
  have hon : ∀ x, 0 ≤ x → x ∉ (blocksI l).drop n.toNat → onB (setAll bs ((blocksI l).drop n.toNat) false) x.toNat = onB bs x.toNat := fun x hx h1 => by
    rw [onB_setAll _ _ _ hdr, show ((x.toNat : Nat) : Int) = x by omega, if_neg h1]
  have hdis : ∀ x, x ∈ (blocksI l).take n.toNat → x ∉ (blocksI l).drop n.toNat := fun x h1 h2 => by
    rw [← List.take_append_drop n.toNat (blocksI l), List.nodup_append] at hnd
    exact hnd.2.2 x h1 x h2 rfl
  refine ⟨fun m hm => ?_, fun m hm x hx => ?_, fun a b m m' hab hm hm' x hx hx' => ?_⟩
  · rw [setAll_length]
    rcases List.mem_or_eq_of_mem_set hm with hm | rfl
    · exact h.right m hm
    · refine right_pieces ?_ (fun x hx => right_range hRl x (List.mem_of_mem_take hx)) (hnd.sublist (List.take_sublist _ _))
      rw [← keepP_pieces hRl]
      have := keepP_length l n.toNat
      have := hRl.1
      omega
  · obtain ⟨j, hj⟩ := List.mem_iff_getElem?.1 hm
    by_cases hji : i = j
    · subst hji
      rw [List.getElem?_set_self hil, Option.some.injEq] at hj
      subst hj
      rw [hblk] at hx
      have hxl := List.mem_of_mem_take hx
      rw [hon x (right_range hRl x hxl).1 (hdis x hx)]
      exact h.on l hlm x hxl
    · rw [List.getElem?_set_ne hji] at hj
      have hmm := List.mem_of_getElem? hj
      rw [hon x (right_range (h.right m hmm) x hx).1 (fun h1 => h.once i j l m hji hl hj x (List.mem_of_mem_drop h1) hx)]
      exact h.on m hmm x hx
  · by_cases ha : i = a
    · subst ha
      rw [List.getElem?_set_self hil, Option.some.injEq] at hm
      rw [List.getElem?_set_ne hab] at hm'
      subst hm
      rw [hblk] at hx
      exact h.once i b l m' hab hl hm' x (List.mem_of_mem_take hx) hx'
    · rw [List.getElem?_set_ne ha] at hm
      by_cases hb : i = b
      · subst hb
        rw [List.getElem?_set_self hil, Option.some.injEq] at hm'
        subst hm'
        rw [hblk] at hx'
        exact h.once a i m l hab hm hl x hx (List.mem_of_mem_take hx')
      · rw [List.getElem?_set_ne hb] at hm'
        exact h.once a b m m' hab hm hm' x hx hx'
end

end Go.Proofs
end

section
open Go Go.Vc
namespace Go.Proofs

/-- Where a slice of pieces stands: apart from what is written. -/
structure PS (H' : Heap) (V : Nat → Prop) (a : Option Addr) (n c : Nat) (l : List Pc) : Prop where
  pcs : Pcs H' a n l
  cap : n ≤ c
  few : n ≤ 6
  off : ∀ k, k ∈ blkOf a → k < H'.size ∧ ¬ V k

theorem PS.ext {H1 H2 : Heap} {V : Nat → Prop} {M : List Nat} {a : Option Addr} {n c : Nat} {l : List Pc} (h : PS H1 V a n c l) (he : Ext M H1 H2) (hm : ∀ k, k ∈ M → V k) : PS H2 V a n c l :=
  ⟨h.pcs.ext he fun k hk hk' => (h.off k hk).2 (hm k hk'), h.cap, h.few, fun k hk => ⟨Nat.lt_of_lt_of_le (h.off k hk).1 he.size, (h.off k hk).2⟩⟩

theorem PS.mono {H1 : Heap} {V V' : Nat → Prop} {a : Option Addr} {n c : Nat} {l : List Pc} (h : PS H1 V a n c l) (hm : ∀ k, V' k → V k ∨ H1.size ≤ k) : PS H1 V' a n c l :=
  ⟨h.pcs, h.cap, h.few, fun k hk => ⟨(h.off k hk).1, fun hv => by
    rcases hm k hv with h1 | h1
    · exact (h.off k hk).2 h1
    · have := (h.off k hk).1; omega⟩⟩

/-- A list of slices of pieces. -/
structure LP (H' : Heap) (V : Nat → Prop) (a : Option Addr) (n c : Nat) (vs : List Value) (ls : List (List Pc)) : Prop where
  own : Own H' 1 a n c vs
  len : vs.length = ls.length
  at_ : ∀ (i : Nat) (l : List Pc), ls[i]? = some l → ∃ a' n' c', vs[i]? = some (.slice a' n' c') ∧ PS H' V a' n' c' l

theorem LP.num {H' : Heap} {V : Nat → Prop} {a : Option Addr} {n c : Nat} {vs : List Value} {ls : List (List Pc)} (h : LP H' V a n c vs ls) : ls.length = n := by
  have := h.own.1
  have := h.len
  omega

theorem LP.ext {H1 H2 : Heap} {V : Nat → Prop} {M : List Nat} {a : Option Addr} {n c : Nat} {vs : List Value} {ls : List (List Pc)} (h : LP H1 V a n c vs ls) (he : Ext M H1 H2) (hm : ∀ k, k ∈ M → V k) (hd : ∀ k, k ∈ blkOf a → k ∉ M) : LP H2 V a n c vs ls :=
  ⟨h.own.ext he hd, h.len, fun i l hl => by
    obtain ⟨a', n', c', h1, h2⟩ := h.at_ i l hl
    exact ⟨a', n', c', h1, h2.ext he hm⟩⟩

theorem LP.mono {H1 : Heap} {V V' : Nat → Prop} {a : Option Addr} {n c : Nat} {vs : List Value} {ls : List (List Pc)} (h : LP H1 V a n c vs ls) (hm : ∀ k, V' k → V k ∨ H1.size ≤ k) : LP H1 V' a n c vs ls :=
  ⟨h.own, h.len, fun i l hl => by
    obtain ⟨a', n', c', h1, h2⟩ := h.at_ i l hl
    exact ⟨a', n', c', h1, h2.mono hm⟩⟩

theorem LP.get {H1 : Heap} {V : Nat → Prop} {a : Option Addr} {n c : Nat} {vs : List Value} {ls : List (List Pc)} (h : LP H1 V a n c vs ls) {i : Nat} {l : List Pc} (hl : ls[i]? = some l) :
    ∃ b o a' n' c', a = some ⟨b, o, none⟩ ∧ hcell H1 b (o + i) = some (.slice a' n' c') ∧ PS H1 V a' n' c' l := by
  obtain ⟨a', n', c', h1, h2⟩ := h.at_ i l hl
  obtain ⟨b, o, rfl, hc⟩ := (h.own.row n c).get h1
  exact ⟨b, o, a', n', c', rfl, hc, h2⟩

theorem LP.put {H1 : Heap} {V : Nat → Prop} {a : Option Addr} {n c : Nat} {vs : List Value} {ls : List (List Pc)} (h : LP H1 V a n c vs ls) (hV : ∀ k, k ∈ blkOf a → V k) {i : Nat} (hi : i < n) :
    ∃ b, a = some ⟨b, 0, none⟩ ∧ Cells H1 b (0 + i) 1 ∧ ∀ a' n' c' l H2, PS H1 V a' n' c' l → Puts H1 b (0 + i) [.slice a' n' c'] H2 → LP H2 V a n c (vs.set i (.slice a' n' c')) (ls.set i l) ∧ Ext (blkOf a) H1 H2 := by
  have hnum := h.num
  have hlen := h.len
  obtain ⟨o1, o2, o3, o4⟩ := h.own
  rcases o4 with ⟨rfl, rfl⟩ | ⟨bb, tail, rfl, hb, hbl⟩
  · omega
  have hin : 0 + i + 1 ≤ (vs ++ tail).length := by rw [List.length_append]; omega
  refine ⟨bb, rfl, hb.cells 1 _ hin, fun a' n' c' l H2 hps hp => ?_⟩
  have hb2 := hp.blk hb hin
  have he : Ext (blkOf (some ⟨bb, 0, none⟩)) H1 H2 := hp.ext
  refine ⟨⟨⟨by rw [List.length_set]; exact o1, o2, o3, .inr ⟨bb, tail, rfl, ?_, by rw [← hbl]; simp⟩⟩, by simp [hlen], fun j m hj => ?_⟩, he⟩
  · rw [splice_one _ _ _ (by omega), Nat.zero_add, List.set_append_left _ _ (by omega)] at hb2
    exact hb2
  · by_cases e : i = j
    · subst e
      rw [List.getElem?_set_self (by omega), Option.some.injEq] at hj
      subst hj
      exact ⟨a', n', c', by rw [List.getElem?_set_self (by omega)], hps.ext he hV⟩
    · rw [List.getElem?_set_ne e] at hj
      obtain ⟨a1, n1, c1, h1, h2⟩ := h.at_ j m hj
      exact ⟨a1, n1, c1, by rw [List.getElem?_set_ne e]; exact h1, h2.ext he hV⟩

theorem LP.push {H1 : Heap} {V V' : Nat → Prop} {a : Option Addr} {n c : Nat} {vs : List Value} {ls : List (List Pc)} (h : LP H1 V a n c vs ls) (hV : ∀ k, k ∈ blkOf a → V k) {p : Option Addr} {pn pc : Nat} {l : List Pc} (hp : PS H1 V p pn pc l)
    {H2 : Heap} {a' : Option Addr} {c' : Nat} (ho : Own H2 1 a' (n + 1) c' (vs ++ [.slice p pn pc])) (he : Ext (blkOf a) H1 H2) (hV' : ∀ k, V' k → V k ∨ H1.size ≤ k) : LP H2 V' a' (n + 1) c' (vs ++ [.slice p pn pc]) (ls ++ [l]) := by
  have hlen := h.len
  have keep : ∀ {q : Option Addr} {qn qc : Nat} {m : List Pc}, PS H1 V q qn qc m → PS H2 V' q qn qc m := fun hq =>
    ⟨(hq.ext he hV).pcs, hq.cap, hq.few, fun k hk => ⟨Nat.lt_of_lt_of_le (hq.off k hk).1 he.size, fun hv => by
      rcases hV' k hv with h1 | h1
      · exact (hq.off k hk).2 h1
      · have := (hq.off k hk).1; omega⟩⟩
  refine ⟨ho, by simp [hlen], fun j m hj => ?_⟩
  by_cases hlt : j < ls.length
  · rw [List.getElem?_append_left hlt] at hj
    obtain ⟨a1, n1, c1, h1, h2⟩ := h.at_ j m hj
    exact ⟨a1, n1, c1, by rw [List.getElem?_append_left (by omega)]; exact h1, keep h2⟩
  · rw [List.getElem?_append_right (by omega)] at hj
    have e : j - ls.length = 0 := by
      have := (List.getElem?_eq_some_iff.1 hj).1
      simp at this; omega
    rw [e] at hj
    simp only [List.getElem?_cons_zero, Option.some.injEq] at hj
    subst hj
    exact ⟨p, pn, pc, by rw [List.getElem?_append_right (by omega), hlen, e]; rfl, keep hp⟩

/-- The whole: a map, its reference, and a list for each. -/
structure St (H H' : Heap) (pb bb c qb rb : Nat) (bs rs : List Bool) (a1 : Option Addr) (n1 c1 : Nat) (v1 : List Value) (l1 : List (List Pc)) (a2 : Option Addr) (n2 c2 : Nat) (v2 : List Value) (l2 : List (List Pc)) : Prop where
  map : IsB H' pb (some ⟨bb, 0, none⟩) c bs
  ref : IsRef H' qb (some ⟨rb, 0, none⟩) bs.length rs
  same : rs.length = bs.length
  ext : Ext [] H H'
  fp : H.size ≤ pb
  fb : H.size ≤ bb
  fq : H.size ≤ qb
  fr : H.size ≤ rb
  d1 : qb ≠ bb
  d2 : rb ≠ bb
  d3 : pb ≠ rb
  d4 : pb ≠ bb
  d5 : qb ≠ rb
  k1 : ∀ k, k ∈ blkOf a1 → H.size ≤ k ∧ k ≠ pb ∧ k ≠ bb ∧ k ≠ qb ∧ k ≠ rb ∧ k ∉ blkOf a2
  k2 : ∀ k, k ∈ blkOf a2 → H.size ≤ k ∧ k ≠ pb ∧ k ≠ bb ∧ k ≠ qb ∧ k ≠ rb ∧ k ∉ blkOf a1
  o1 : LP H' (fun k => k = bb ∨ k = rb ∨ k ∈ blkOf a1 ∨ k ∈ blkOf a2) a1 n1 c1 v1 l1
  o2 : LP H' (fun k => k = bb ∨ k = rb ∨ k ∈ blkOf a1 ∨ k ∈ blkOf a2) a2 n2 c2 v2 l2

section
variable {H H1 H2 : Heap} {pb bb c qb rb : Nat} {bs rs bs' rs' : List Bool} {a1 : Option Addr} {n1 c1 : Nat} {v1 : List Value} {l1 : List (List Pc)} {a2 : Option Addr} {n2 c2 : Nat} {v2 : List Value} {l2 : List (List Pc)}

theorem St.more (h : St H H1 pb bb c qb rb bs rs a1 n1 c1 v1 l1 a2 n2 c2 v2 l2) (hx : Ext [] H1 H2) : St H H2 pb bb c qb rb bs rs a1 n1 c1 v1 l1 a2 n2 c2 v2 l2 :=
  ⟨h.map.ext hx (by simp) (by simp), h.ref.ext hx (by simp) (by simp), h.same, h.ext.trans hx, h.fp, h.fb, h.fq, h.fr, h.d1, h.d2, h.d3, h.d4, h.d5, h.k1, h.k2, h.o1.ext hx (by simp) (by simp), h.o2.ext hx (by simp) (by simp)⟩

theorem St.lts (h : St H H1 pb bb c qb rb bs rs a1 n1 c1 v1 l1 a2 n2 c2 v2 l2) : pb < H1.size ∧ bb < H1.size ∧ qb < H1.size ∧ rb < H1.size ∧ (∀ k, k ∈ blkOf a1 → k < H1.size) ∧ (∀ k, k ∈ blkOf a2 → k < H1.size) :=
  ⟨h.map.lt.1, h.map.lt.2 bb (by simp [blkOf]), h.ref.lt.1, h.ref.lt.2 rb (by simp [blkOf]), h.o1.own.lt, h.o2.own.lt⟩

theorem St.turnMap (h : St H H1 pb bb c qb rb bs rs a1 n1 c1 v1 l1 a2 n2 c2 v2 l2) (hb : IsB H2 pb (some ⟨bb, 0, none⟩) c bs') (hx : Ext (blkOf (some ⟨bb, 0, none⟩)) H1 H2) (hl : bs'.length = bs.length) : St H H2 pb bb c qb rb bs' rs a1 n1 c1 v1 l1 a2 n2 c2 v2 l2 := by
  have hx' : Ext [bb] H1 H2 := hx
  refine ⟨hb, by rw [hl]; exact h.ref.ext hx' (by simpa using h.d1) (by simpa [blkOf] using h.d2), by rw [hl]; exact h.same, h.ext.trans' hx' ?_, h.fp, h.fb, h.fq, h.fr, h.d1, h.d2, h.d3, h.d4, h.d5, h.k1, h.k2, h.o1.ext hx' ?_ ?_, h.o2.ext hx' ?_ ?_⟩
  · intro i hi; simp only [List.mem_singleton] at hi; subst hi; exact .inl h.fb
  · intro k hk; simp only [List.mem_singleton] at hk; exact .inl hk
  · intro k hk; have := h.k1 k hk; simp only [List.mem_singleton]; exact this.2.2.1
  · intro k hk; simp only [List.mem_singleton] at hk; exact .inl hk
  · intro k hk; have := h.k2 k hk; simp only [List.mem_singleton]; exact this.2.2.1

theorem St.turnRef (h : St H H1 pb bb c qb rb bs rs a1 n1 c1 v1 l1 a2 n2 c2 v2 l2) (hb : IsRef H2 qb (some ⟨rb, 0, none⟩) bs.length rs') (hx : Ext (blkOf (some ⟨rb, 0, none⟩)) H1 H2) (hl : rs'.length = bs.length) : St H H2 pb bb c qb rb bs rs' a1 n1 c1 v1 l1 a2 n2 c2 v2 l2 := by
  have hx' : Ext [rb] H1 H2 := hx
  refine ⟨h.map.ext hx' (by simpa using h.d3) (by simpa [blkOf] using fun e => h.d2 e.symm), hb, hl, h.ext.trans' hx' ?_, h.fp, h.fb, h.fq, h.fr, h.d1, h.d2, h.d3, h.d4, h.d5, h.k1, h.k2, h.o1.ext hx' ?_ ?_, h.o2.ext hx' ?_ ?_⟩
  · intro i hi; simp only [List.mem_singleton] at hi; subst hi; exact .inl h.fr
  · intro k hk; simp only [List.mem_singleton] at hk; exact .inr (.inl hk)
  · intro k hk; have := h.k1 k hk; simp only [List.mem_singleton]; exact this.2.2.2.2.1
  · intro k hk; simp only [List.mem_singleton] at hk; exact .inr (.inl hk)
  · intro k hk; have := h.k2 k hk; simp only [List.mem_singleton]; exact this.2.2.2.2.1

/-- New pieces stand apart. -/
theorem St.fresh (h : St H H1 pb bb c qb rb bs rs a1 n1 c1 v1 l1 a2 n2 c2 v2 l2) {p : Option Addr} {pn pc : Nat} {l : List Pc} (hp : Pcs H2 p pn l) (hc : pn ≤ pc) (h6 : pn ≤ 6) (hf : ∀ k, k ∈ blkOf p → H1.size ≤ k ∧ k < H2.size) :
    PS H2 (fun k => k = bb ∨ k = rb ∨ k ∈ blkOf a1 ∨ k ∈ blkOf a2) p pn pc l := by
  obtain ⟨_, e1, _, e2, e3, e4⟩ := h.lts
  refine ⟨hp, hc, h6, fun k hk => ⟨(hf k hk).2, ?_⟩⟩
  have := (hf k hk).1
  rintro (rfl | rfl | hv | hv)
  · omega
  · omega
  · have := e3 k hv; omega
  · have := e4 k hv; omega

theorem St.put1 (h : St H H1 pb bb c qb rb bs rs a1 n1 c1 v1 l1 a2 n2 c2 v2 l2) {i : Nat} (hi : i < n1) :
    ∃ b, a1 = some ⟨b, 0, none⟩ ∧ Cells H1 b (0 + i) 1 ∧ ∀ a' n' c' l H2, PS H1 (fun k => k = bb ∨ k = rb ∨ k ∈ blkOf a1 ∨ k ∈ blkOf a2) a' n' c' l → Puts H1 b (0 + i) [.slice a' n' c'] H2 →
      St H H2 pb bb c qb rb bs rs a1 n1 c1 (v1.set i (.slice a' n' c')) (l1.set i l) a2 n2 c2 v2 l2 ∧ Ext (blkOf a1) H1 H2 := by
  obtain ⟨b, e, hc, hp⟩ := h.o1.put (fun k hk => .inr (.inr (.inl hk))) hi
  refine ⟨b, e, hc, fun a' n' c' l H2 hps hput => ?_⟩
  obtain ⟨ho, hx⟩ := hp a' n' c' l H2 hps hput
  refine ⟨⟨h.map.ext hx (fun hk => (h.k1 _ hk).2.1 rfl) ?_, h.ref.ext hx (fun hk => (h.k1 _ hk).2.2.2.1 rfl) ?_, h.same, h.ext.trans' hx (fun k hk => .inl (h.k1 k hk).1), h.fp, h.fb, h.fq, h.fr, h.d1, h.d2, h.d3, h.d4, h.d5, h.k1, h.k2, ho, h.o2.ext hx (fun k hk => .inr (.inr (.inl hk))) (fun k hk => (h.k2 k hk).2.2.2.2.2)⟩, hx⟩
  · intro k hk hk'; simp only [blkOf, List.mem_singleton] at hk; subst hk; exact (h.k1 _ hk').2.2.1 rfl
  · intro k hk hk'; simp only [blkOf, List.mem_singleton] at hk; subst hk; exact (h.k1 _ hk').2.2.2.2.1 rfl

theorem St.put2 (h : St H H1 pb bb c qb rb bs rs a1 n1 c1 v1 l1 a2 n2 c2 v2 l2) {i : Nat} (hi : i < n2) :
    ∃ b, a2 = some ⟨b, 0, none⟩ ∧ Cells H1 b (0 + i) 1 ∧ ∀ a' n' c' l H2, PS H1 (fun k => k = bb ∨ k = rb ∨ k ∈ blkOf a1 ∨ k ∈ blkOf a2) a' n' c' l → Puts H1 b (0 + i) [.slice a' n' c'] H2 →
      St H H2 pb bb c qb rb bs rs a1 n1 c1 v1 l1 a2 n2 c2 (v2.set i (.slice a' n' c')) (l2.set i l) ∧ Ext (blkOf a2) H1 H2 := by
  obtain ⟨b, e, hc, hp⟩ := h.o2.put (fun k hk => .inr (.inr (.inr hk))) hi
  refine ⟨b, e, hc, fun a' n' c' l H2 hps hput => ?_⟩
  obtain ⟨ho, hx⟩ := hp a' n' c' l H2 hps hput
  refine ⟨⟨h.map.ext hx (fun hk => (h.k2 _ hk).2.1 rfl) ?_, h.ref.ext hx (fun hk => (h.k2 _ hk).2.2.2.1 rfl) ?_, h.same, h.ext.trans' hx (fun k hk => .inl (h.k2 k hk).1), h.fp, h.fb, h.fq, h.fr, h.d1, h.d2, h.d3, h.d4, h.d5, h.k1, h.k2, h.o1.ext hx (fun k hk => .inr (.inr (.inr hk))) (fun k hk => (h.k1 k hk).2.2.2.2.2), ho⟩, hx⟩
  · intro k hk hk'; simp only [blkOf, List.mem_singleton] at hk; subst hk; exact (h.k2 _ hk').2.2.1 rfl
  · intro k hk hk'; simp only [blkOf, List.mem_singleton] at hk; subst hk; exact (h.k2 _ hk').2.2.2.2.1 rfl

/-- A slice of pieces appended to the first list. -/
theorem St.push1 (h : St H H1 pb bb c qb rb bs rs a1 n1 c1 v1 l1 a2 n2 c2 v2 l2) {p : Option Addr} {pn pc : Nat} {l : List Pc} (hp : PS H1 (fun k => k = bb ∨ k = rb ∨ k ∈ blkOf a1 ∨ k ∈ blkOf a2) p pn pc l)
    {a' : Option Addr} {c' : Nat} (ho : Own H2 1 a' (n1 + 1) c' (v1 ++ [.slice p pn pc])) (he : Ext (blkOf a1) H1 H2) (hk : ∀ k, k ∈ blkOf a' → k ∈ blkOf a1 ∨ H1.size ≤ k) :
    St H H2 pb bb c qb rb bs rs a' (n1 + 1) c' (v1 ++ [.slice p pn pc]) (l1 ++ [l]) a2 n2 c2 v2 l2 := by
  obtain ⟨e0, e1, e5, e2, e3, e4⟩ := h.lts
  have hs := h.ext.size
  have hV : ∀ k, (k = bb ∨ k = rb ∨ k ∈ blkOf a' ∨ k ∈ blkOf a2) → (k = bb ∨ k = rb ∨ k ∈ blkOf a1 ∨ k ∈ blkOf a2) ∨ H1.size ≤ k := by
    rintro k (hv | hv | hv | hv)
    · exact .inl (.inl hv)
    · exact .inl (.inr (.inl hv))
    · rcases hk k hv with h1 | h1
      · exact .inl (.inr (.inr (.inl h1)))
      · exact .inr h1
    · exact .inl (.inr (.inr (.inr hv)))
  have hV2 : ∀ k, (k = bb ∨ k = rb ∨ (k ∈ blkOf a1 ∨ k ∈ blkOf a') ∨ k ∈ blkOf a2) → (k = bb ∨ k = rb ∨ k ∈ blkOf a1 ∨ k ∈ blkOf a2) ∨ H1.size ≤ k := by
    rintro k (hv | hv | (hv | hv) | hv)
    · exact .inl (.inl hv)
    · exact .inl (.inr (.inl hv))
    · exact .inl (.inr (.inr (.inl hv)))
    · rcases hk k hv with h1 | h1
      · exact .inl (.inr (.inr (.inl h1)))
      · exact .inr h1
    · exact .inl (.inr (.inr (.inr hv)))
  refine ⟨h.map.ext he (fun hk => (h.k1 _ hk).2.1 rfl) ?_, h.ref.ext he (fun hk => (h.k1 _ hk).2.2.2.1 rfl) ?_, h.same, h.ext.trans' he (fun k hk => .inl (h.k1 k hk).1), h.fp, h.fb, h.fq, h.fr, h.d1, h.d2, h.d3, h.d4, h.d5, ?_, ?_, h.o1.push (fun k hk => .inr (.inr (.inl hk))) hp ho he hV,
    ((h.o2.mono hV2).ext he (fun k hk => .inr (.inr (.inl (.inl hk)))) (fun k hk => (h.k2 k hk).2.2.2.2.2)).mono ?_⟩
  · intro k hk hk'; simp only [blkOf, List.mem_singleton] at hk; subst hk; exact (h.k1 _ hk').2.2.1 rfl
  · intro k hk hk'; simp only [blkOf, List.mem_singleton] at hk; subst hk; exact (h.k1 _ hk').2.2.2.2.1 rfl
  · intro k hk'
    rcases hk k hk' with h1 | h1
    · exact h.k1 k h1
    · exact ⟨by omega, by omega, by omega, by omega, by omega, fun h2 => by have := e4 k h2; omega⟩
  · intro k hk'
    obtain ⟨q1, q2, q3, q4, q5, q6⟩ := h.k2 k hk'
    refine ⟨q1, q2, q3, q4, q5, fun h2 => ?_⟩
    rcases hk k h2 with h1 | h1
    · exact q6 h1
    · have := e4 k hk'; omega
  · rintro k (hv | hv | hv | hv)
    · exact .inl (.inl hv)
    · exact .inl (.inr (.inl hv))
    · exact .inl (.inr (.inr (.inl (.inr hv))))
    · exact .inl (.inr (.inr (.inr hv)))

/-- A slice of pieces appended to the second list. -/
theorem St.push2 (h : St H H1 pb bb c qb rb bs rs a1 n1 c1 v1 l1 a2 n2 c2 v2 l2) {p : Option Addr} {pn pc : Nat} {l : List Pc} (hp : PS H1 (fun k => k = bb ∨ k = rb ∨ k ∈ blkOf a1 ∨ k ∈ blkOf a2) p pn pc l)
    {a' : Option Addr} {c' : Nat} (ho : Own H2 1 a' (n2 + 1) c' (v2 ++ [.slice p pn pc])) (he : Ext (blkOf a2) H1 H2) (hk : ∀ k, k ∈ blkOf a' → k ∈ blkOf a2 ∨ H1.size ≤ k) :
    St H H2 pb bb c qb rb bs rs a1 n1 c1 v1 l1 a' (n2 + 1) c' (v2 ++ [.slice p pn pc]) (l2 ++ [l]) := by
  obtain ⟨e0, e1, e5, e2, e3, e4⟩ := h.lts
  have hs := h.ext.size
  have hV : ∀ k, (k = bb ∨ k = rb ∨ k ∈ blkOf a1 ∨ k ∈ blkOf a') → (k = bb ∨ k = rb ∨ k ∈ blkOf a1 ∨ k ∈ blkOf a2) ∨ H1.size ≤ k := by
    rintro k (hv | hv | hv | hv)
    · exact .inl (.inl hv)
    · exact .inl (.inr (.inl hv))
    · exact .inl (.inr (.inr (.inl hv)))
    · rcases hk k hv with h1 | h1
      · exact .inl (.inr (.inr (.inr h1)))
      · exact .inr h1
  have hV2 : ∀ k, (k = bb ∨ k = rb ∨ k ∈ blkOf a1 ∨ (k ∈ blkOf a2 ∨ k ∈ blkOf a')) → (k = bb ∨ k = rb ∨ k ∈ blkOf a1 ∨ k ∈ blkOf a2) ∨ H1.size ≤ k := by
    rintro k (hv | hv | hv | (hv | hv))
    · exact .inl (.inl hv)
    · exact .inl (.inr (.inl hv))
    · exact .inl (.inr (.inr (.inl hv)))
    · exact .inl (.inr (.inr (.inr hv)))
    · rcases hk k hv with h1 | h1
      · exact .inl (.inr (.inr (.inr h1)))
      · exact .inr h1
  refine ⟨h.map.ext he (fun hk => (h.k2 _ hk).2.1 rfl) ?_, h.ref.ext he (fun hk => (h.k2 _ hk).2.2.2.1 rfl) ?_, h.same, h.ext.trans' he (fun k hk => .inl (h.k2 k hk).1), h.fp, h.fb, h.fq, h.fr, h.d1, h.d2, h.d3, h.d4, h.d5, ?_, ?_,
    ((h.o1.mono hV2).ext he (fun k hk => .inr (.inr (.inr (.inl hk)))) (fun k hk => (h.k1 k hk).2.2.2.2.2)).mono ?_, h.o2.push (fun k hk => .inr (.inr (.inr hk))) hp ho he hV⟩
  · intro k hk hk'; simp only [blkOf, List.mem_singleton] at hk; subst hk; exact (h.k2 _ hk').2.2.1 rfl
  · intro k hk hk'; simp only [blkOf, List.mem_singleton] at hk; subst hk; exact (h.k2 _ hk').2.2.2.2.1 rfl
  · intro k hk'
    obtain ⟨q1, q2, q3, q4, q5, q6⟩ := h.k1 k hk'
    refine ⟨q1, q2, q3, q4, q5, fun h2 => ?_⟩
    rcases hk k h2 with h1 | h1
    · exact q6 h1
    · have := e3 k hk'; omega
  · intro k hk'
    rcases hk k hk' with h1 | h1
    · exact h.k2 k h1
    · exact ⟨by omega, by omega, by omega, by omega, by omega, fun h2 => by have := e3 k h2; omega⟩
  · rintro k (hv | hv | hv | hv)
    · exact .inl (.inl hv)
    · exact .inl (.inr (.inl hv))
    · exact .inl (.inr (.inr (.inl hv)))
    · exact .inl (.inr (.inr (.inr (.inr hv))))
end

end Go.Proofs
end

section
open Go Go.Vc
namespace Go.Proofs

theorem quad_at {H : Heap} {a : Option Addr} {len cap : Nat} {rows : List (List Value)} (hl : rows.length = len) (hs : SRow H 4 len (.slice a len cap) rows.flatten) (hw : ∀ r ∈ rows, CellsAre [.i .i64, .i .i64, .i .i64, .i .i64] r) (i : Nat) (hi : i < len) :
    ∃ b o x y z w, a = some ⟨b, o, none⟩ ∧ hcell H b (o + i * 4) = some (.int .i64 x) ∧ hcell H b ((o + i * 4) + 1) = some (.int .i64 y) ∧ hcell H b (((o + i * 4) + 1) + 1) = some (.int .i64 z) ∧ hcell H b ((((o + i * 4) + 1) + 1) + 1) = some (.int .i64 w) := by
  have hr : rows[i]? = some (rows[i]'(by omega)) := List.getElem?_eq_getElem (by omega)
  have hc := hw _ (List.getElem_mem (show i < rows.length by omega))
  have hlen : ∀ r ∈ rows, r.length = 4 := fun r hr => (hw r hr).length
  generalize rows[i]'(by omega) = r at *
  have h0 := flatten_at (j := 0) hlen hr (by decide)
  have h1 := flatten_at (j := 1) hlen hr (by decide)
  have h2 := flatten_at (j := 2) hlen hr (by decide)
  have h3 := flatten_at (j := 3) hlen hr (by decide)
  match r, hc with
  | [.int k z0, .int k1 z1, .int k2 z2, .int k3 z3], hc =>
    obtain ⟨⟨rfl, _⟩, ⟨rfl, _⟩, ⟨rfl, _⟩, ⟨rfl, _⟩, _⟩ := hc
    obtain ⟨b, o, rfl, c0⟩ := hs.at (h0.trans rfl)
    obtain ⟨b1, o1, e1, c1⟩ := hs.at (h1.trans rfl)
    obtain ⟨b2, o2, e2, c2⟩ := hs.at (h2.trans rfl)
    obtain ⟨b3, o3, e3, c3⟩ := hs.at (h3.trans rfl)
    cases e1
    cases e2
    cases e3
    exact ⟨b, o, z0, z1, z2, z3, rfl, c0, c1, c2, c3⟩

theorem decP_iff {p : Prop} : decP p = true ↔ p := ⟨fun h => @of_decide_eq_true _ (Classical.propDecidable _) h, fun h => (decP_true h).symm⟩

theorem eplays_law (H : Heap) (n0 : Int) (_ : (Lit.int .i64 n0).wf = true) (b1 : Option Addr) (len1 cap1 : Nat) (z1 : List Int) (e1 : z1.length = len1) (_ : len1 ≤ maxLen) (s1 : SRow H 1 len1 (.slice b1 len1 cap1) (z1.map fun n => .int .i64 n)) (_ : ∀ n ∈ z1, (Lit.int .i64 n).wf = true)
    (b2 : Option Addr) (len2 cap2 : Nat) (z2 : List (List Value)) (e2 : z2.length = len2) (_ : len2 ≤ maxLen) (s2 : SRow H 4 len2 (.slice b2 len2 cap2) z2.flatten) (w2 : ∀ r ∈ z2, CellsAre [.i .i64, .i .i64, .i .i64, .i .i64] r) :
    Does Try.prog 7 [.int .i64 n0, .slice b1 len1 cap1, .slice b2 len2 cap2] H fun v H' => v = .bool true ∧ Ext [] H H' := by
  have hon := ints_of_row e1 s1
  refine Fn_of_vc Try.mixed (vc_eplays _ _ _ _ _ _ _ _ _) ?_
  refine (pick_ok n0 50 H (by decide) (by decide)).mono ?_
  rintro _ _ ⟨rfl, rfl⟩
  have p0 := Int.emod_nonneg n0 (show (50 : Int) ≠ 0 by decide)
  have p1 := Int.emod_lt_of_pos n0 (show (0 : Int) < 50 by decide)
  refine ⟨_, rfl, ⟨by omega, by omega⟩, ?_⟩
  obtain ⟨n, hn⟩ : ∃ n : Nat, 1 + n0 % 50 = n := ⟨(1 + n0 % 50).toNat, by omega⟩
  rw [hn]
  have hn1 : 1 ≤ n ∧ n ≤ 50 := by omega
  refine (of_ok hon n hn1.1 (by omega)).mono ?_
  rintro _ H5 ⟨pb, bb, c, qb, rb, rfl, hpr⟩
  have hn2 : ∀ {x : Addr}, ¬ ((some x : Option Addr) = none) := by intro x e; cases e
  refine ⟨_, _, rfl, (known7_ok H5).mono ?_⟩
  rintro _ H9 ⟨rfl, hx9⟩
  have hpr := hpr.more hx9
  refine ⟨_, rfl, fun e => (by cases e), fun _ => ⟨fun e => absurd e hn2, fun _ => ?_⟩⟩
  let J : Nat → Option Addr → Nat → Nat → Option Addr → Nat → Nat → Heap → Prop := fun m a l ca a' l' ca' H' => ∃ bs v1 v2 ls, St H H' pb bb c qb rb bs bs a l ca v1 ls a' l' ca' v2 ls ∧ Held bs ls ∧ bs.length = n ∧ ls.length ≤ m
  have j0 : J 0 none 0 0 none 0 0 H9 := ⟨_, [], [], [], ⟨hpr.map, hpr.ref, rfl, hpr.ext, hpr.fp, hpr.fb, hpr.fq, hpr.fr, hpr.d1, hpr.d2, hpr.d3, hpr.d4, hpr.d5, fun k hk => (by cases hk), fun k hk => (by cases hk), ⟨Own.nil _ _, rfl, fun i l hl => by simp at hl⟩, ⟨Own.nil _ _, rfl, fun i l hl => by simp at hl⟩⟩, held_nil _, ofF_length _ _, Nat.le_refl _⟩
  refine ⟨fun a l ca a' l' ca' i H' => ∃ j : Nat, i = j ∧ j ≤ len2 ∧ j ≤ 30 ∧ J j a l ca a' l' ca' H', fun _ _ _ _ _ _ i _ => len2 - i.toNat, ⟨0, rfl, Nat.zero_le _, Nat.zero_le _, j0⟩, ?_⟩
  rintro a13 l14 c15 a16 l17 c18 _ H20 ⟨j, rfl, hj, hj30, bs, v1, v2, ls, st, hheld, hbl, hlj⟩
  refine ⟨fun h1 => ⟨fun h2 => ?_, fun h2 => ⟨rfl, st.ext⟩⟩, fun h1 => ⟨rfl, st.ext⟩⟩
  have hlen1 := st.o1.num
  have hlen2 := st.o2.num
  obtain ⟨b, o, w0, w1, w2', w3, rfl, c0, c1, c2, c3⟩ := quad_at e2 s2 w2 j (by omega)
  refine ⟨by omega, h1, b, o, rfl, _, hcell_ext c0 st.ext (by simp), _, hcell_ext c1 st.ext (by simp), _, hcell_ext c2 st.ext (by simp), _, hcell_ext c3 st.ext (by simp), fun b27 H28 hnew => ⟨hnew.blk.cells 4 0 (by simp), fun H29 hput => ?_⟩⟩
  obtain ⟨hb27, hx29, e29, s29⟩ := new_put hnew hput rfl
  have st := st.more hx29
  refine ⟨w2', hb27.cell 2, ⟨by omega, by omega⟩, (pick_ok w2' ((n : Int) + 4) H29 (by omega) (by omega)).mono ?_⟩
  rintro _ _ ⟨rfl, rfl⟩
  have q0 := Int.emod_nonneg w2' (show (n : Int) + 4 ≠ 0 by omega)
  have q1 := Int.emod_lt_of_pos w2' (show (0 : Int) < (n : Int) + 4 by omega)
  refine ⟨_, rfl, ⟨by omega, by omega⟩, w3, hb27.cell 3, (pick_ok w3 12 H29 (by decide) (by decide)).mono ?_⟩
  rintro _ _ ⟨rfl, rfl⟩
  refine ⟨_, rfl, ⟨by omega, by omega⟩, w0, hb27.cell 0, (pick_ok w0 6 H29 (by decide) (by decide)).mono ?_⟩
  rintro _ _ ⟨rfl, rfl⟩
  obtain ⟨fr, hfr⟩ : ∃ fr : Int, w2' % ((n : Int) + 4) - 2 = fr := ⟨_, rfl⟩
  obtain ⟨k, hk⟩ : ∃ k : Int, w3 % 12 - 1 = k := ⟨_, rfl⟩
  have hfr' : -2 ≤ fr ∧ fr ≤ 100 := by omega
  have hk' : -1 ≤ k ∧ k ≤ 10 := by omega
  obtain ⟨wh, hwh⟩ : ∃ wh : Int, w0 % 6 = wh := ⟨_, rfl⟩
  rw [hfr, hk, hwh]
  refine ⟨_, rfl, fun H' => H29 = H' ∧ (1 < wh → l14 ≠ 0), ⟨fun h3 => ⟨fun h4 => ?_, fun h4 => ⟨rfl, fun _ e => h4 (by omega)⟩⟩, fun h3 => ⟨rfl, fun e => absurd e h3⟩⟩, ?_⟩
  · exact ⟨⟨by omega, by omega⟩, ⟨j + 1, by omega, by omega, by omega, bs, v1, v2, ls, st, hheld, hbl, by omega⟩, by dsimp only; omega⟩
  rintro _ ⟨rfl, hwl⟩
  refine ⟨fun t H' => H29 = H' ∧ 0 ≤ t ∧ (t < l14 ∨ l14 = 0), ⟨fun h3 => ?_, fun h3 => ⟨rfl, Int.le_refl _, .inr (by omega)⟩⟩, ?_⟩
  · refine ⟨w1, hb27.cell 1, (pick_ok w1 l14 H29 h3 (by omega)).mono ?_⟩
    rintro _ _ ⟨rfl, rfl⟩
    exact ⟨_, rfl, rfl, Int.emod_nonneg w1 (by omega), .inl (Int.emod_lt_of_pos w1 h3)⟩
  rintro at_ _ ⟨rfl, hat0, hat1⟩
  have hbn : bs.length ≤ 100000 := by omega
  refine ⟨fun a l ca a' l' ca' H' => J (j + 1) a l ca a' l' ca' H', ⟨fun h3 => ?_, fun h3 => ⟨fun h4 => ?_, fun h4 => ?_⟩⟩, ?_⟩
  · -- Take
    refine (take_ok st.map fr k (by omega) (by omega) hbn).mono ?_
    rintro _ H51 ⟨bs1, hg1, hb51, hx51⟩
    obtain ⟨rfl, p1, pn1, pc1, rfl, hp1, hpc1, hp61, hpf1⟩ := hg1.val
    have st2 := st.turnMap hb51 hx51 (growB_length _ _ _ _)
    have st' := st
    refine ⟨_, _, _, _, rfl, (rgrow_ok (by have := st2.ref; rw [growB_length] at this; exact this) (pcs_nil H51) fr k (by omega) (by omega) hbn).mono ?_⟩
    rintro _ H57 ⟨bs2, hg2, hb57, hx57⟩
    obtain ⟨rfl, p2, pn2, pc2, rfl, hp2, hpc2, hp62, hpf2⟩ := hg2.val
    have st3 := st2.turnRef (rs' := growB bs [] fr k) (by rw [growB_length]; exact hb57) hx57 rfl
    have ps1 := (st.fresh hp1 hpc1 hp61 hpf1).ext hx57 (fun i hi => by simp only [blkOf, List.mem_singleton] at hi; exact .inr (.inl hi))
    have ps2 := st2.fresh hp2 hpc2 hp62 hpf2
    refine ⟨_, _, _, _, rfl, fun e => absurd Iff.rfl e, fun _ => (same_ok ps1.pcs ps2.pcs (by omega)).mono ?_⟩
    rintro _ _ ⟨rfl, rfl⟩
    refine ⟨_, rfl, fun e => absurd e (by simp), fun _ => ⟨fun h5 => ?_, fun h5 => ?_⟩⟩
    · have hgo := decP_iff.1 h5
      refine append_one st3.o1.own rfl (by intro u hu; simp only [List.mem_singleton] at hu; subst hu; rfl) rfl (by omega) ?_
      intro a69 c70 H71 ho71 hx71 hf71
      have st4 := st3.push1 ps1 ho71 hx71 hf71
      have ps2' : PS H71 (fun k => k = bb ∨ k = rb ∨ k ∈ blkOf a69 ∨ k ∈ blkOf a16) p2 pn2 pc2 (growO bs [] fr k) := by
        have st4f := (ps2.ext (M := blkOf a13) hx71 (fun i hi => .inr (.inr (.inl hi))))
        refine ⟨st4f.pcs, st4f.cap, st4f.few, fun i hi => ⟨(st4f.off i hi).1, fun hv => ?_⟩⟩
        rcases hv with hv | hv | hv | hv
        · exact (ps2.off i hi).2 (.inl hv)
        · exact (ps2.off i hi).2 (.inr (.inl hv))
        · rcases hf71 i hv with h6 | h6
          · exact (ps2.off i hi).2 (.inr (.inr (.inl h6)))
          · have := (ps2.off i hi).1; omega
        · exact (ps2.off i hi).2 (.inr (.inr (.inr hv)))
      refine append_one st4.o2.own rfl (by intro u hu; simp only [List.mem_singleton] at hu; subst hu; rfl) rfl (by omega) ?_
      intro a76 c77 H78 ho78 hx78 hf78
      have st5 := st4.push2 ps2' ho78 hx78 hf78
      refine ⟨_, _, _, _, st5, ?_, by rw [growB_length, hbl], by simp; omega⟩
      have e1 : growB bs [] fr k = setAll bs (foundF bs fr k.toNat) true := by unfold growB; rw [if_pos h5]
      have e2 : growO bs [] fr k = growF bs [] fr k := by unfold growO; rw [if_pos h5]
      rw [e1, e2]
      exact hheld.take hgo
    · have e1 : growB bs [] fr k = bs := by unfold growB; rw [if_neg (by simp [h5])]
      rw [e1] at st3
      exact ⟨bs, v1, v2, ls, st3, hheld, hbl, by omega⟩
  · -- Grow
    have hl14 : l14 ≠ 0 := hwl (by omega)
    have hatl : at_ < l14 := by omega
    obtain ⟨l, hl⟩ : ∃ l, ls[at_.toNat]? = some l := ⟨_, List.getElem?_eq_getElem (by omega)⟩
    obtain ⟨b79, o80, x1, xn1, xc1, rfl, k1, px1⟩ := st.o1.get hl
    refine ⟨hat0, hatl, b79, o80, rfl, _, _, _, k1, (grow_ok st.map px1.pcs (fun i hi hi' => (px1.off i hi).2 (.inl (by simpa [blkOf] using hi'))) px1.cap fr k (by omega) (by omega) hbn).mono ?_⟩
    rintro _ H85 ⟨bs1, hg1, hb85, hx85⟩
    obtain ⟨rfl, p1, pn1, pc1, rfl, hp1, hpc1, hp61, hpf1⟩ := hg1.val
    have st2 := st.turnMap hb85 hx85 (growB_length _ _ _ _)
    obtain ⟨b90, o91, x2, xn2, xc2, rfl, k2, px2⟩ := st2.o2.get hl
    refine ⟨_, _, _, _, rfl, hat0, by omega, b90, o91, rfl, _, _, _, k2, (rgrow_ok (by have := st2.ref; rw [growB_length] at this; exact this) px2.pcs fr k (by omega) (by omega) hbn).mono ?_⟩
    rintro _ H96 ⟨bs2, hg2, hb96, hx96⟩
    obtain ⟨rfl, p2, pn2, pc2, rfl, hp2, hpc2, hp62, hpf2⟩ := hg2.val
    have st3 := st2.turnRef (rs' := growB bs l fr k) (by rw [growB_length]; exact hb96) hx96 rfl
    have ps1 := (st.fresh hp1 hpc1 hp61 hpf1).ext hx96 (fun i hi => by simp only [blkOf, List.mem_singleton] at hi; exact .inr (.inl hi))
    have ps2 := st2.fresh hp2 hpc2 hp62 hpf2
    refine ⟨_, _, _, _, rfl, fun e => absurd Iff.rfl e, fun _ => (same_ok ps1.pcs ps2.pcs (by omega)).mono ?_⟩
    rintro _ _ ⟨rfl, rfl⟩
    refine ⟨_, rfl, fun e => absurd e (by simp), fun _ => ⟨fun h5 => ?_, fun h5 => ?_⟩⟩
    · have hgo := decP_iff.1 h5
      obtain ⟨b104, eb, kc1, kp1⟩ := st3.put1 (i := at_.toNat) (by omega)
      cases eb
      refine ⟨hat0, hatl, _, _, rfl, kc1, fun H106 hput1 => ?_⟩
      obtain ⟨st4, hx106⟩ := kp1 _ _ _ _ _ ps1 hput1
      obtain ⟨b107, eb, kc2, kp2⟩ := st4.put2 (i := at_.toNat) (by omega)
      cases eb
      refine ⟨hat0, by omega, _, _, rfl, kc2, fun H109 hput2 => ?_⟩
      obtain ⟨st5, hx109⟩ := kp2 _ _ _ _ _ (ps2.ext hx106 (fun i hi => .inr (.inr (.inl hi)))) hput2
      refine ⟨_, _, _, _, st5, ?_, by rw [growB_length, hbl], by rw [List.length_set]; omega⟩
      have e1 : growB bs l fr k = setAll bs (foundF bs fr k.toNat) true := by unfold growB; rw [if_pos h5]
      have e2 : growO bs l fr k = growF bs l fr k := by unfold growO; rw [if_pos h5]
      rw [e1, e2]
      exact hheld.grow hl hgo
    · have e1 : growB bs l fr k = bs := by unfold growB; rw [if_neg (by simp [h5])]
      rw [e1] at st3
      exact ⟨bs, v1, v2, ls, st3, hheld, hbl, by omega⟩
  · -- Shrink
    have hl14 : l14 ≠ 0 := hwl (by omega)
    have hatl : at_ < l14 := by omega
    obtain ⟨l, hl⟩ : ∃ l, ls[at_.toNat]? = some l := ⟨_, List.getElem?_eq_getElem (by omega)⟩
    obtain ⟨b79, o80, x1, xn1, xc1, rfl, k1, px1⟩ := st.o1.get hl
    have hRl : RightP l 0 bs.length := hheld.right l (List.mem_of_getElem? hl)
    refine ⟨hat0, hatl, b79, o80, rfl, _, _, _, k1, (shrink_ok st.map px1.pcs (fun i hi hi' => (px1.off i hi).2 (.inl (by simpa [blkOf] using hi'))) px1.cap k (by omega) hbn).mono ?_⟩
    rintro _ H116 ⟨bs1, hs1, hb116, hx116⟩
    obtain ⟨rfl, p1, pn1, pc1, rfl, hp1, hpc1, hp61, hpf1⟩ := hs1.val
    have st2 := st.turnMap hb116 hx116 (shrinkB_length _ _ _)
    have ps1 := st.fresh hp1 hpc1 hp61 hpf1
    obtain ⟨b120, eb, kc1, kp1⟩ := st2.put1 (i := at_.toNat) (by omega)
    cases eb
    refine ⟨_, _, _, rfl, hat0, hatl, _, _, rfl, kc1, fun H122 hput1 => ?_⟩
    obtain ⟨st3, hx122⟩ := kp1 _ _ _ _ _ ps1 hput1
    obtain ⟨b123, o124, x2, xn2, xc2, rfl, k2, px2⟩ := st3.o2.get hl
    refine ⟨hat0, by omega, b123, o124, rfl, _, _, _, k2, (rshrink_ok (by have := st3.ref; rw [shrinkB_length] at this; exact this) px2.pcs k hbn).mono ?_⟩
    rintro _ H129 ⟨bs2, hs2, hb129, hx129⟩
    obtain ⟨rfl, p2, pn2, pc2, rfl, hp2, hpc2, hp62, hpf2⟩ := hs2.val
    have st4 := st3.turnRef (rs' := shrinkB bs l k) (by rw [shrinkB_length]; exact hb129) hx129 rfl
    have ps2 := st3.fresh hp2 hpc2 hp62 hpf2
    obtain ⟨b133, eb, kc2, kp2⟩ := st4.put2 (i := at_.toNat) (by omega)
    cases eb
    refine ⟨_, _, _, rfl, hat0, by omega, _, _, rfl, kc2, fun H135 hput2 => ?_⟩
    obtain ⟨st5, hx135⟩ := kp2 _ _ _ _ _ ps2 hput2
    obtain ⟨b136, o137, y1, yn1, yc1, eb1, g1, py1⟩ := st5.o1.get (i := at_.toNat) (l := shrinkO bs l k) (by rw [List.getElem?_set_self (by omega)])
    obtain ⟨b141, o142, y2, yn2, yc2, eb2, g2, py2⟩ := st5.o2.get (i := at_.toNat) (l := shrinkO bs l k) (by rw [List.getElem?_set_self (by omega)])
    refine ⟨hat0, hatl, b136, o137, eb1, _, _, _, g1, hat0, by omega, b141, o142, eb2, _, _, _, g2, (same_ok py1.pcs py2.pcs (by have := py1.few; omega)).mono ?_⟩
    rintro _ _ ⟨rfl, rfl⟩
    refine ⟨_, rfl, fun e => absurd e (by simp), fun _ => ⟨_, _, _, _, st5, ?_, by rw [shrinkB_length, hbl], by rw [List.length_set]; omega⟩⟩
    have e1 : shrinkB bs l k = setAll bs ((blocksI l).drop k.toNat) false := by unfold shrinkB; rw [if_pos (decP_iff.2 hRl)]
    have e2 : shrinkO bs l k = piecesF ((blocksI l).take k.toNat) := by unfold shrinkO; rw [if_pos (decP_iff.2 hRl)]
    rw [e1, e2]
    exact hheld.shrink hl k
  · rintro a1 n1 d1 a2 n2 d2 H155 ⟨bs', u1, u2, ls', st', hheld', hbl', hlj'⟩
    have hm1 := st'.o1.num
    have hm2 := st'.o2.num
    refine (is_ok st'.map st'.ref).mono ?_
    rintro _ H157 ⟨rfl, hx157⟩
    have st' := st'.more hx157
    refine ⟨_, rfl, fun e => (by cases e), fun _ => ⟨fun i H' => ∃ q : Nat, i = q ∧ q ≤ n1 ∧ Ext [] H157 H', fun i _ => n1 - i.toNat, ⟨0, rfl, Nat.zero_le _, Ext.refl _ _⟩, ?_⟩⟩
    rintro _ H162 ⟨q, rfl, hq, hx162⟩
    have st' := st'.more hx162
    refine ⟨fun h5 => ?_, fun h5 => ⟨⟨by omega, by omega⟩, ⟨j + 1, by omega, by omega, by omega, bs', u1, u2, ls', st', hheld', hbl', hlj'⟩, by dsimp only; omega⟩⟩
    obtain ⟨l, hl⟩ : ∃ l, ls'[q]? = some l := ⟨_, List.getElem?_eq_getElem (by omega)⟩
    have hRl : RightP l 0 bs'.length := hheld'.right l (List.mem_of_getElem? hl)
    obtain ⟨b163, o164, y1, yn1, yc1, eb1, g1, py1⟩ := st'.o1.get hl
    obtain ⟨b172, o173, y2, yn2, yc2, eb2, g2, py2⟩ := st'.o2.get hl
    have hq0 : (0 : Int) ≤ q := by omega
    refine ⟨hq0, h5, b163, o164, eb1, _, _, _, g1, (at_ok py1.pcs k).mono ?_⟩
    rintro _ H169 ⟨rfl, hx169⟩
    have g2' := hcell_ext g2 hx169 (by simp)
    refine ⟨_, _, rfl, hq0, by omega, b172, o173, eb2, _, _, _, g2', (rat_ok (py2.pcs.ext hx169 (by simp)) (by have := py2.few; omega) k).mono ?_⟩
    rintro _ H178 ⟨rfl, hx178⟩
    have hxx := hx169.trans hx178
    refine ⟨_, _, rfl, fun e => absurd rfl e, fun _ => ⟨fun e => absurd Iff.rfl e, fun _ => ⟨hq0, h5, b163, o164, eb1, _, _, _, hcell_ext g1 hxx (by simp), hq0, by omega, b172, o173, eb2, _, _, _, hcell_ext g2 hxx (by simp), (count_ok (py1.pcs.ext hxx (by simp))).mono ?_⟩⟩⟩
    rintro _ H192 ⟨rfl, hx192⟩
    have hxx2 := hxx.trans hx192
    refine ⟨_, rfl, ⟨hcell_ext g2 hxx2 (by simp), trivial⟩, (rcount_ok (py2.pcs.ext hxx2 (by simp)) (by have := py2.few; omega)).mono ?_⟩
    rintro _ _ ⟨rfl, rfl⟩
    refine ⟨_, rfl, fun e => absurd rfl e, fun _ => ⟨hq0, h5, b163, o164, eb1, _, _, _, hcell_ext g1 hxx2 (by simp), (right_ok (py1.pcs.ext hxx2 (by simp)) py1.cap 0 n (by decide) (by decide) (by omega)).mono ?_⟩⟩
    rintro _ H203 ⟨rfl, hx203⟩
    refine ⟨_, rfl, fun e => ?_, fun _ => ⟨⟨by omega, by omega⟩, ⟨q + 1, by omega, by omega, hx162.trans (hxx2.trans hx203)⟩, by dsimp only; omega⟩⟩
    rw [hbl'] at hRl
    exact absurd (e.symm.trans (decP_iff.2 hRl)) (by decide)

end Go.Proofs
end

