/-
  The contracts of the document's journal, second part, and two journals side by side. No condition.
-/
import Derived.Test.YtmijngnbbpilmaaGreatRfA
import Derived.Test.YtmijngnbbpilmaaGreatJnC
import Derived.Test.YtmijngnbbpilmaaGreatProg
import Derived.Test.YtmijngnbbpilmaaGreatVd

section
open Go Go.Vc
namespace Go.Proofs

/-! ### Numbers back to their bytes -/
theorem beL_be4 {l : List Int} (h : Byt l) (hl : l.length = 4) : beL 4 (be l) = l := by
  match l, hl with
  | [a, b, c, d], _ =>
    have ha := h a (by simp)
    have hb := h b (by simp)
    have hc := h c (by simp)
    have hd := h d (by simp)
    simp only [be, List.foldl_cons, List.foldl_nil, beL]
    have e3 : (256 : Int) ^ 3 = 16777216 := by decide
    have e2 : (256 : Int) ^ 2 = 65536 := by decide
    have e1 : (256 : Int) ^ 1 = 256 := by decide
    have e0 : (256 : Int) ^ 0 = 1 := by decide
    rw [e3, e2, e1, e0]
    congr 1
    · omega
    congr 1
    · omega
    congr 1
    · omega
    congr 1
    omega
theorem beL_be2 {l : List Int} (h : Byt l) (hl : l.length = 2) : beL 2 (be l) = l := by
  match l, hl with
  | [c, d], _ =>
    have hc := h c (by simp)
    have hd := h d (by simp)
    simp only [be, List.foldl_cons, List.foldl_nil, beL]
    have e1 : (256 : Int) ^ 1 = 256 := by decide
    have e0 : (256 : Int) ^ 0 = 1 := by decide
    rw [e1, e0]
    congr 1
    · omega
    congr 1
    omega
theorem rdU_some {xs : Octs} {n : Nat} (h : n ≤ xs.length) : rdU (xs, false) n = (xs.take n, (xs.drop n, false)) := by unfold rdU; rw [if_pos ⟨rfl, h⟩]
theorem rdU_none {xs : Octs} {n : Nat} (h : xs.length < n) : rdU (xs, false) n = ([], ([], true)) := by unfold rdU; rw [if_neg (by simp only []; omega)]
theorem back4 {xs : Octs} (h : 4 ≤ xs.length) : beU 4 (w64 (numU (xs, false) 4)) = xs.take 4 := by
  have hb := numU_lt4 (xs, false)
  rw [w64_small hb.1 (by omega)]
  apply toI_inj
  rw [toI_beU]
  unfold numU
  rw [rdU_some h]
  exact beL_be4 (toI_byt _) (by rw [toI_len, List.length_take]; omega)
theorem back2 {xs : Octs} (h : 2 ≤ xs.length) : beU 2 (w64 (numU (xs, false) 2)) = xs.take 2 := by
  have hb := numU_lt2 (xs, false)
  rw [w64_small hb.1 (by omega)]
  apply toI_inj
  rw [toI_beU]
  unfold numU
  rw [rdU_some h]
  exact beL_be2 (toI_byt _) (by rw [toI_len, List.length_take]; omega)

/-! ### The place of a block -/
def tagP (b : Octs) : Int := numU (b.drop 8, false) 2
theorem tags_drop {b : Octs} (h : b.length = 128) : tagS b = numU (b.drop 4, false) 4 ∧ tagC b = numU (b.drop 10, false) 2 := by
  unfold tagS tagC
  rw [rdU_some (by omega), rdU_some (by omega)]
  exact ⟨rfl, rfl⟩
theorem jblk_place {h : Hd} {l : List Wr} {k : Nat} (hk : k < 65536) : tagP (jblk h l k) = k := by
  unfold tagP jblk
  rw [show beU 4 (w64 h.epoch) ++ beU 4 (w64 h.seq) ++ beU 2 (w64 ↑k) ++ beU 2 (w64 ↑(cntN l)) ++ ((bodyB l).drop (k * 116)).take 116 = (beU 4 (w64 h.epoch) ++ beU 4 (w64 h.seq)) ++ (beU 2 (w64 ↑k) ++ (beU 2 (w64 ↑(cntN l)) ++ ((bodyB l).drop (k * 116)).take 116)) by simp only [List.append_assoc]]
  rw [List.drop_left' (by simp [beU_len]), numU2_app (by omega) (by omega)]
/-- A block out of its marks. -/
theorem block_of_tags {b : Octs} (h : b.length = 128) : b = beU 4 (w64 (tagE b)) ++ beU 4 (w64 (tagS b)) ++ beU 2 (w64 (tagP b)) ++ beU 2 (w64 (tagC b)) ++ b.drop 12 := by
  rw [(tags_drop h).1, (tags_drop h).2]
  unfold tagE tagP
  rw [back4 (by omega), back4 (by rw [List.length_drop]; omega), back2 (by rw [List.length_drop]; omega), back2 (by rw [List.length_drop]; omega)]
  have e1 : b.take 4 ++ (b.drop 4).take 4 = b.take 8 := by rw [← List.take_add]
  have e2 : b.take 8 ++ (b.drop 8).take 2 = b.take 10 := by rw [← List.take_add]
  have e3 : b.take 10 ++ (b.drop 10).take 2 = b.take 12 := by rw [← List.take_add]
  rw [e1, e2, e3, List.take_append_drop]

/-! ### What the reference takes -/
def gatherM (e s : Int) (bs : List Octs) : Nat → Nat → Int → Octs → Option (Int × Octs)
  | 0, _, _, _ => none
  | f + 1, i, n, acc => if n ≤ i then some (n, acc) else match bs[i]? with
    | none => none
    | some b => if tagE b ≠ e ∨ tagS b ≠ s ∨ tagP b ≠ i ∨ tagC b = 0 ∨ (0 < i ∧ tagC b ≠ n) then none else gatherM e s bs f (i + 1) (tagC b) (acc ++ b.drop 12)
def parse2 (homes : Int) : Nat → Octs × Bool → List Wr → Option (List Wr × (Octs × Bool))
  | 0, st, acc => some (acc, st)
  | k + 1, st, acc => if st.2 = true then some (acc, st) else
    if (acc.any fun w => decide (w.1 = numU st 4)) = true ∨ (rdU (rdU st 4).2 128).2.2 = true ∨ homes ≤ numU st 4 then none
    else parse2 homes k (rdU (rdU st 4).2 128).2 (acc ++ [(numU st 4, (rdU (rdU st 4).2 128).1)])
def endP (n : Int) (r : Option (List Wr × (Octs × Bool))) : List Wr × Int := match r with
  | none => ([], 0)
  | some (l, st) => if l = [] ∨ st.2 = true ∨ needsN l.length ≠ n ∨ ¬ (∀ x ∈ st.1, x = 0) then ([], 0) else (l, n)
def takeP (e s : Int) (bs : List Octs) (homes : Int) : List Wr × Int := match gatherM e s bs (bs.length + 2) 0 1 [] with
  | none => ([], 0)
  | some (n, S) => endP n (parse2 homes (numU (S, false) 2).toNat (rdU (S, false) 2).2 [])

/-- Blocks that are gathered bear their marks. -/
theorem gather_spec (e s : Int) (bs : List Octs) (hb : ∀ b ∈ bs, b.length = 128) : ∀ (f i : Nat) (n : Int) (acc : Octs) (m : Int) (S : Octs), gatherM e s bs f i n acc = some (m, S) → (i = 0 → n = 1) → (0 < i → (i : Int) ≤ n) → i ≤ bs.length →
    acc = restB (bs.take i) → (∀ j (hj : j < bs.length), j < i → tagE bs[j] = e ∧ tagS bs[j] = s ∧ tagP bs[j] = j ∧ tagC bs[j] = n) →
    0 < m ∧ m ≤ bs.length ∧ S = restB (bs.take m.toNat) ∧ ∀ j (hj : j < bs.length), (j : Int) < m → tagE bs[j] = e ∧ tagS bs[j] = s ∧ tagP bs[j] = j ∧ tagC bs[j] = m
  | 0, i, n, acc, m, S, h, _, _, _, _, _ => by cases h
  | f + 1, i, n, acc, m, S, h, h0, h1, hi, hacc, hall => by
    rw [gatherM] at h
    split at h
    · rename_i hle
      simp only [Option.some.injEq, Prod.mk.injEq] at h
      obtain ⟨rfl, rfl⟩ := h
      have hi0 : 0 < i := by
        rcases Nat.eq_zero_or_pos i with h2 | h2
        · have := h0 h2; omega
        · exact h2
      have := h1 hi0
      have hni : n.toNat = i := by omega
      refine ⟨by omega, by omega, by rw [hni]; exact hacc, fun j hj hjn => hall j hj (by omega)⟩
    · rename_i hlt
      split at h
      · cases h
      · rename_i b hb0
        split at h
        · cases h
        · rename_i hok
          simp only [not_or, Decidable.not_not, ne_eq, not_and] at hok
          obtain ⟨k1, k2, k3, k4, k5⟩ := hok
          have hil := (List.getElem?_eq_some_iff.1 hb0).1
          have hbi : bs[i] = b := (List.getElem?_eq_some_iff.1 hb0).2
          have htc := numU_lt2 (rdU (b, false) 10).2
          have htc' : 0 < tagC b := by unfold tagC at k4 ⊢; omega
          have hn : 0 < i → tagC b = n := fun h => k5 h
          refine gather_spec e s bs hb f (i + 1) (tagC b) _ m S h (by omega) (fun _ => ?_) (by omega) ?_ (fun j hj hji => ?_)
          · rcases Nat.eq_zero_or_pos i with h2 | h2
            · subst h2; omega
            · have := hn h2; omega
          · rw [List.take_add_one, hb0, hacc]
            simp [restB]
          · by_cases ej : j = i
            · subst ej
              rw [hbi]; exact ⟨k1, k2, k3, rfl⟩
            · have := hall j hj (by omega)
              refine ⟨this.1, this.2.1, this.2.2.1, ?_⟩
              rw [this.2.2.2, hn (by omega)]

theorem gather_laid {h : Hd} (hs : Small h) {l : List Wr} (hf : Full l) (hc : cntN l < 65536) (hc0 : 0 < cntN l) {bs : List Octs} (hbs : bs.take (cntN l) = laidB h l) : ∀ (f i : Nat) (n : Int) (acc : Octs), i ≤ cntN l → (i = 0 → n = 1) → (0 < i → n = cntN l) → cntN l - i < f → acc = restB (bs.take i) → gatherM h.epoch h.seq bs f i n acc = some ((cntN l : Int), restB (laidB h l))
  | 0, i, n, acc, _, _, _, hfu, _ => by omega
  | f + 1, i, n, acc, hi, h0, h1, hfu, hacc => by
    have hll := laidB_len h l
    have hle : cntN l ≤ bs.length := by
      have := congrArg List.length hbs
      rw [List.length_take, hll] at this; omega
    rw [gatherM]
    by_cases hic : i = cntN l
    · have hn := h1 (by omega)
      rw [if_pos (by omega), hn, hacc, hic, hbs]
    · have hnot : ¬ n ≤ (i : Int) := by
        rcases Nat.eq_zero_or_pos i with h2 | h2
        · have := h0 h2; omega
        · have := h1 h2; omega
      rw [if_neg hnot]
      have hbi : bs[i]? = some (jblk h l i) := by
        have : (bs.take (cntN l))[i]? = (laidB h l)[i]? := by rw [hbs]
        rw [List.getElem?_take, if_pos (by omega)] at this
        rw [this]; unfold laidB
        rw [List.getElem?_map, List.getElem?_range (by omega)]; rfl
      have ht := jblk_tags hs hc i
      rw [hbi]
      simp only
      rw [if_neg]
      · refine gather_laid hs hf hc hc0 hbs f (i + 1) _ _ (by omega) (by omega) (fun _ => ht.2.2) (by omega) ?_
        rw [List.take_add_one, hbi, hacc]
        simp [restB]
      · rintro (h2 | h2 | h2 | h2 | h2)
        · exact h2 ht.1
        · exact h2 ht.2.1
        · exact h2 (jblk_place (by omega))
        · rw [ht.2.2] at h2; omega
        · exact h2.2 (by rw [ht.2.2, h1 h2.1])

theorem parse2_laid (homes : Int) : ∀ (l acc : List Wr) (rest : Octs), (∀ w ∈ l, 0 ≤ w.1 ∧ w.1 < homes ∧ w.1 < 4294967296 ∧ w.2.length = 128) → (l.map (·.1)).Nodup → (∀ w ∈ l, ∀ v ∈ acc, v.1 ≠ w.1) → parse2 homes l.length ((l.map wrB).flatten ++ rest, false) acc = some (acc ++ l, (rest, false))
  | [], acc, rest, _, _, _ => by simp [parse2]
  | w :: l, acc, rest, h, hn, hd => by
    obtain ⟨h0, h1, h1', h2⟩ := h w (by simp)
    rw [List.length_cons, parse2, if_neg (by simp), List.map_cons, List.flatten_cons]
    unfold wrB
    rw [List.append_assoc, List.append_assoc, numU4_app h0 h1', rdU_app (beU_len 4 _), rdU_app h2]
    simp only [List.map_cons, List.nodup_cons] at hn
    rw [if_neg]
    · rw [show (fun w : Wr => beU 4 (w64 w.1) ++ w.2) = wrB from rfl, parse2_laid homes l (acc ++ [(w.1, w.2)]) rest (fun x hx => h x (by simp [hx])) hn.2 (fun x hx v hv => ?_)]
      · simp
      · rcases List.mem_append.1 hv with hv | hv
        · exact hd x (by simp [hx]) v hv
        · simp only [List.mem_singleton] at hv
          subst hv
          intro e
          simp only at e
          exact hn.1 (by rw [e]; exact List.mem_map.2 ⟨x, hx, rfl⟩)
    · rintro (h3 | h3 | h3)
      · obtain ⟨v, hv, he⟩ := List.any_eq_true.1 h3
        exact hd w (by simp) v hv (by simpa using he)
      · simp at h3
      · omega

/-- What is parsed, laid again. -/
theorem parse2_spec (homes : Int) : ∀ (k : Nat) (xs : Octs) (acc l : List Wr) (st : Octs × Bool), parse2 homes k (xs, false) acc = some (l, st) → st.2 = false → (acc.map (·.1)).Nodup → (∀ w ∈ acc, 0 ≤ w.1 ∧ w.1 < homes ∧ w.2.length = 128) →
    ∃ m, l = acc ++ m ∧ m.length = k ∧ xs = (m.map wrB).flatten ++ st.1 ∧ (l.map (·.1)).Nodup ∧ ∀ w ∈ l, 0 ≤ w.1 ∧ w.1 < homes ∧ w.2.length = 128
  | 0, xs, acc, l, st, h, _, hn, ha => by
    simp only [parse2, Option.some.injEq, Prod.mk.injEq] at h
    obtain ⟨rfl, rfl⟩ := h
    exact ⟨[], by simp, rfl, by simp, hn, ha⟩
  | k + 1, xs, acc, l, st, h, hst, hn, ha => by
    rw [parse2, if_neg (by simp)] at h
    split at h
    · cases h
    · rename_i hok
      simp only [not_or] at hok
      obtain ⟨k1, k2, k3⟩ := hok
      have hx4 : 4 ≤ xs.length := by
        by_cases hx : 4 ≤ xs.length
        · exact hx
        · exfalso
          apply k2
          rw [rdU_none (by omega)]
          unfold rdU; simp
      rw [rdU_some hx4] at h k2
      have hx132 : 128 ≤ (xs.drop 4).length := by
        by_cases hx : 128 ≤ (xs.drop 4).length
        · exact hx
        · exfalso
          apply k2
          simp only
          rw [rdU_none (by omega)]
      simp only at h
      rw [rdU_some hx132] at h
      simp only at h
      have hat := numU_lt4 (xs, false)
      have hany : ∀ v ∈ acc, v.1 ≠ numU (xs, false) 4 := fun v hv e => k1 (List.any_eq_true.2 ⟨v, hv, by simpa using e⟩)
      obtain ⟨m, g1, g2, g3, g4, g5⟩ := parse2_spec homes k _ _ _ _ h hst (by
        rw [List.map_append, List.nodup_append]
        refine ⟨hn, by simp, fun a ha b hb => ?_⟩
        simp only [List.map_cons, List.map_nil, List.mem_singleton] at hb
        obtain ⟨v, hv, rfl⟩ := List.mem_map.1 ha
        rw [hb]; exact hany v hv) (fun w hw => by
        rcases List.mem_append.1 hw with hw | hw
        · exact ha w hw
        · simp only [List.mem_singleton] at hw
          subst hw
          exact ⟨hat.1, by simp only; omega, by simp only [List.length_take]; omega⟩)
      refine ⟨(numU (xs, false) 4, (xs.drop 4).take 128) :: m, by rw [g1]; simp, by simp [g2], ?_, g4, g5⟩
      rw [List.map_cons, List.flatten_cons]
      unfold wrB
      rw [back4 hx4, show (fun w : Wr => beU 4 (w64 w.1) ++ w.2) = wrB from rfl, List.append_assoc, ← g3, List.append_assoc, List.take_append_drop, List.take_append_drop]

theorem zeros_eq {xs : Octs} (h : ∀ x ∈ xs, x = 0) : xs = List.replicate xs.length 0 := List.eq_replicate_iff.2 ⟨rfl, h⟩

theorem whole_zero {h : Hd} {bs : List Octs} {homes : Int} (h0 : (wholeB h bs homes).2 = 0) : wholeB h bs homes = ([], 0) := by
  unfold wholeB at h0 ⊢
  cases bs with
  | nil => rfl
  | cons b0 r =>
    simp only at h0 ⊢
    split
    · rfl
    · rename_i h1
      split
      · rename_i h2
        rw [if_neg h1, if_pos h2] at h0
        simp only at h0
        exfalso
        rw [h0] at h2
        have hm : MayP _ homes := of_decide_eq_true h2.1
        have := congrArg List.length h2.2
        rw [laidB_len] at this
        have := cnt_pos hm.1
        simp at *
        omega
      · rfl

/-- **What the reference takes is what the program finds.** -/
theorem take_whole {h : Hd} (hs : Small h) {bs : List Octs} (hb : ∀ b ∈ bs, b.length = 128) (hl : bs.length < 65536) {homes : Int} (hh : homes ≤ 65536) : takeP h.epoch h.seq bs homes = wholeB h bs homes := by
  have back : (wholeB h bs homes).2 ≠ 0 → takeP h.epoch h.seq bs homes = wholeB h bs homes := by
    intro hne
    rcases wholeB_spec h bs homes with h0 | ⟨h1, h2, hm, h4⟩
    · exact absurd h0 hne
    generalize hW : wholeB h bs homes = W at *
    obtain ⟨l, c⟩ := W
    simp only at h1 h2 hm h4 hne
    have hcnt : (cntN l : Int) = c := by
      have := congrArg List.length h4
      rw [laidB_len, List.length_take] at this
      omega
    have hc : cntN l < 65536 := by omega
    have hc0 := cnt_pos hm.1
    have hbs : bs.take (cntN l) = laidB h l := by rw [h4]; congr 1; omega
    have hl0 : 0 < l.length := by
      cases l with
      | nil => exact absurd rfl hm.1
      | cons => simp
    have hfew := hm.few (n := 65536) (by omega)
    have hmore := cnt_more (l := l)
    unfold takeP
    rw [gather_laid hs hm.full hc hc0 hbs (bs.length + 2) 0 1 [] (by omega) (fun _ => rfl) (by omega) (by omega) (by simp [restB])]
    simp only
    rw [restB_laid hm.full hl0]
    have hst : bodyB l = beU 2 (w64 l.length) ++ ((l.map wrB).flatten ++ List.replicate (cntN l * 116 - (streamB l).length) 0) := by
      unfold bodyB padL streamB
      simp only [List.append_assoc]
    rw [hst, numU2_app (by omega) (by omega), rdU_app (beU_len 2 _), Int.toNat_natCast, parse2_laid homes l [] _ (fun w hw => by have := hm.2.1 w hw; omega) hm.2.2 (by simp)]
    unfold endP
    simp only [List.nil_append]
    rw [if_neg]
    · rw [hcnt]
    · rintro (h5 | h5 | h5 | h5)
      · exact hm.1 h5
      · cases h5
      · exact h5 (needs_nat l)
      · exact h5 (fun x hx => List.eq_of_mem_replicate hx)
  by_cases hne : (wholeB h bs homes).2 = 0
  · rw [whole_zero hne]
    -- nothing is found: nothing is taken
    by_cases ht : takeP h.epoch h.seq bs homes = ([], 0)
    · exact ht
    exfalso
    unfold takeP at ht
    cases hg : gatherM h.epoch h.seq bs (bs.length + 2) 0 1 [] with
    | none => rw [hg] at ht; exact ht rfl
    | some p =>
      obtain ⟨m, S⟩ := p
      rw [hg] at ht
      simp only at ht
      obtain ⟨g1, g2, g3, g4⟩ := gather_spec h.epoch h.seq bs hb _ 0 1 [] m S hg (fun _ => rfl) (by omega) (by omega) (by simp [restB]) (fun j hj h => by omega)
      cases hp : parse2 homes (numU (S, false) 2).toNat (rdU (S, false) 2).2 [] with
      | none => rw [hp] at ht; exact ht rfl
      | some q =>
        obtain ⟨l, st⟩ := q
        rw [hp] at ht
        unfold endP at ht
        simp only at ht
        split at ht
        · exact ht rfl
        · rename_i hok
          simp only [not_or, Decidable.not_not, ne_eq] at hok
          obtain ⟨k1, k2, k3, k4⟩ := hok
          have hSl : S.length = m.toNat * 116 := by
            rw [g3, restB_len (fun x hx => hb x (List.mem_of_mem_take hx)), List.length_take]
            congr 1; omega
          have hS2 : 2 ≤ S.length := by rw [hSl]; omega
          rw [rdU_some hS2] at hp
          simp only at hp
          obtain ⟨ml, e1, e2, e3, e4, e5⟩ := parse2_spec homes _ _ [] l st hp (by simpa using k2) (by simp) (by simp)
          rw [List.nil_append] at e1
          subst e1
          have hm : MayP l homes := ⟨k1, e5, e4⟩
          have hlen : (l.length : Int) = numU (S, false) 2 := by have := (numU_lt2 (S, false)).1; omega
          have hcnt : (cntN l : Int) = m := by rw [← needs_nat]; exact k3
          have hl0 : 0 < l.length := by
            cases l with
            | nil => exact absurd rfl k1
            | cons => simp
          have hSS : S = streamB l ++ List.replicate st.1.length 0 := by
            unfold streamB
            rw [hlen, back2 hS2, List.append_assoc, ← zeros_eq k4, ← e3, List.take_append_drop]
          have hbody : bodyB l = S := by
            unfold bodyB padL
            rw [hSS]
            congr 2
            have h5 := congrArg List.length hSS
            rw [List.length_append, List.length_replicate, hSl] at h5
            omega
          have hlaid : laidB h l = bs.take (cntN l) := by
            have hcn : cntN l = m.toNat := by omega
            apply List.ext_getElem?
            intro i
            by_cases hi : i < cntN l
            · have hil : i < bs.length := by omega
              rw [List.getElem?_take, if_pos hi, List.getElem?_eq_getElem hil]
              unfold laidB
              rw [List.getElem?_map, List.getElem?_range hi]
              simp only [Option.map_some, Option.some.injEq]
              obtain ⟨t1, t2, t3, t4⟩ := g4 i hil (by omega)
              have hb128 := hb _ (List.getElem_mem hil)
              rw [block_of_tags hb128, t1, t2, t3, t4]
              unfold jblk
              rw [← hcnt]
              congr 1
              -- the piece
              rw [hbody, g3]
              have hi' : i < m.toNat := by omega
              have : ∀ (cs : List Octs) (i : Nat) (hi : i < cs.length), (∀ b ∈ cs, b.length = 128) → ((restB cs).drop (i * 116)).take 116 = cs[i].drop 12 := by
                intro cs
                induction cs with
                | nil => intro i hi; simp at hi
                | cons x r ih =>
                  intro i hi hx
                  have hx0 := hx x (by simp)
                  have hxd : (x.drop 12).length = 116 := by rw [List.length_drop]; omega
                  have hr : restB (x :: r) = x.drop 12 ++ restB r := by simp [restB]
                  rw [hr]
                  cases i with
                  | zero => simp only [Nat.zero_mul, List.drop_zero, List.getElem_cons_zero]; rw [List.take_left' hxd]
                  | succ i =>
                    rw [Nat.add_mul, Nat.one_mul, List.drop_append, List.drop_of_length_le (by omega), List.nil_append, hxd, show i * 116 + 116 - 116 = i * 116 by omega, ih i (by simpa using hi) (fun b hb => hx b (by simp [hb]))]
                    rfl
              rw [this (bs.take m.toNat) i (by rw [List.length_take]; omega) (fun x hx => hb x (List.mem_of_mem_take hx)), List.getElem_take]
            · rw [List.getElem?_eq_none (by rw [laidB_len]; omega), List.getElem?_take, if_neg hi]
          have hbs : bs = laidB h l ++ bs.drop (cntN l) := by rw [hlaid, List.take_append_drop]
          have hw := whole_all hs hm (by omega) (by omega) (bs.drop (cntN l))
          rw [← hbs] at hw
          rw [hw] at hne
          simp only at hne
          omega
  · exact back hne
end Go.Proofs
end

section
open Go Go.Vc
namespace Go.Proofs

theorem rhome0_ok {H : Heap} {F : Nat → Prop} {pr pd : Nat} {D : Dev} {n B : Nat} {h : Hd} {pos : Int} {a : Option Addr} {m c : Nat} {dead : Bool} (h1 : IsRDev H F pd D) (hb : Blk H pr (rcells pd h pos a m c dead)) (hw : D.Wf n B) (hz : 4 ≤ h.size ∧ h.size ≤ n - 4) : Does Tryz.prog 22 [.pointer (some ⟨pr, 0, none⟩)] H fun v H' => v = .int .i64 (homeN n h.size) ∧ H = H' := by
  obtain ⟨ak, ck, ap, cp, h1⟩ := h1
  have hl := hw.len
  have hf := hw.few
  refine Fn_of_vc Tryz.mixed (vc_rhome _ _ _) ?_
  refine ⟨pr, 0, rfl, _, hb.cell 0, pd, 0, rfl, ak, _, ck, h1.head.cell 0, ⟨by omega, by omega⟩, pr, 0, rfl, _, hb.cell 1, ⟨by omega, by omega⟩, ?_, rfl⟩
  rw [homeN_of hz, hl]

theorem rdU_le (s : Octs × Bool) (n : Nat) : (rdU s n).2.1.length ≤ s.1.length := by
  unfold rdU
  split
  · simp only [List.length_drop]; omega
  · simp
/-- What is found so far. -/
def Found (H H' : Heap) (a : Option Addr) (c : Nat) (l : List Wr) : Prop := Seq writeE H' (fun k => H.size ≤ k ∧ k < H'.size ∧ k ∉ blkOf a) a l.length c l ∧ ∀ k ∈ blkOf a, H.size ≤ k

def FoundB (b : Nat) (H H' : Heap) (a : Option Addr) (c : Nat) (l : List Wr) : Prop := Seq writeE H' (fun k => H.size ≤ k ∧ k < H'.size ∧ k ∉ blkOf a ∧ k ≠ b) a l.length c l ∧ ∀ k ∈ blkOf a, H.size ≤ k ∧ b < k
theorem FoundB.found {b : Nat} {H H' : Heap} {a : Option Addr} {c : Nat} {l : List Wr} (h : FoundB b H H' a c l) : Found H H' a c l := ⟨h.1.mono (fun _ _ hk => ⟨hk.1, hk.2.1, hk.2.2.1⟩), fun k hk => (h.2 k hk).1⟩
theorem getElem_bytesV {xs : Octs} {i : Nat} (hi : i < xs.length) : (bytesV xs)[i]? = some (.int .u8 ((xs[i]'hi).toNat : Int)) := by unfold bytesV; rw [List.getElem?_map, List.getElem?_eq_getElem hi]; rfl

set_option maxHeartbeats 2000000 in
theorem rtake_ok {H : Heap} {F : Nat → Prop} {pr pd : Nat} {D : Dev} {n B : Nat} {h : Hd} {p0 : Int} {a0 : Option Addr} {m0 c0 : Nat} {dead : Bool} (h1 : IsRDev H F pd D) (hb : Blk H pr (rcells pd h p0 a0 m0 c0 dead)) (hp : ¬ F pr) (hw : D.Wf n B) (hB : B ≤ 900000000) (hn : n ≤ 4096) (hz : 4 ≤ h.size ∧ h.size ≤ n - 4) (hdd : D.dead = false) (pos : Nat) (hps : (pos : Int) ≤ h.size) (seq : Int) {bs : List Octs} (hbs : bs = (jblocks D h.size).drop pos) :
    Does Tryz.prog 38 [.pointer (some ⟨pr, 0, none⟩), .int .i64 pos, .int .i64 seq] H fun v H' => ∃ a' c', v = .tuple #[.slice a' (takeP h.epoch seq bs (homeN n h.size)).1.length c', .int .i64 (takeP h.epoch seq bs (homeN n h.size)).2] ∧
      Found H H' a' c' (takeP h.epoch seq bs (homeN n h.size)).1 ∧ Ext [] H H' := by
  have hl := hw.len
  have hf := hw.few
  have hnl : D.now.length = n := by rw [← hl]; exact laid_length _ _
  have hjl : (jblocks D h.size).length = h.size.toNat := by unfold jblocks; rw [List.length_take, List.length_drop]; omega
  have hbl : bs.length = h.size.toNat - pos := by rw [hbs, List.length_drop, hjl]
  have hbat : ∀ i (hi : i < bs.length), D.now[1 + pos + i]? = some bs[i] := fun i hi => by
    have : bs[i]? = some bs[i] := List.getElem?_eq_getElem hi
    rw [← this, hbs, List.getElem?_drop]
    unfold jblocks
    rw [List.getElem?_take, if_pos (by omega), List.getElem?_drop]
    congr 1; omega
  have hb128 : ∀ i (hi : i < bs.length), (bs[i]).length = 128 := fun i hi => nowSize hw _ (List.mem_of_getElem? (hbat i hi))
  have hFlt := h1.lt
  refine Fn_of_vc Tryz.mixed (vc_rtake _ _ _ _ _) ?_
  have none_ : ∀ {H' : Heap}, Ext [] H H' → takeP h.epoch seq bs (homeN n h.size) = ([], 0) → ∃ a' c', Value.tuple #[.slice none 0 0, .int .i64 0] = .tuple #[.slice a' (takeP h.epoch seq bs (homeN n h.size)).1.length c', .int .i64 (takeP h.epoch seq bs (homeN n h.size)).2] ∧ Found H H' a' c' (takeP h.epoch seq bs (homeN n h.size)).1 ∧ Ext [] H H' := by
    intro H' hx ht
    rw [ht]
    exact ⟨none, 0, rfl, ⟨Seq.nil _ _ _, by simp [blkOf]⟩, hx⟩
  refine ⟨fun nn a l c i H' => ∃ (k : Nat) (acc : Octs), i = k ∧ l = acc.length ∧ k ≤ bs.length ∧ acc.length = k * 116 ∧ nn < 65536 ∧ gatherM h.epoch seq bs (bs.length + 2) 0 1 [] = gatherM h.epoch seq bs (bs.length + 2 - k) k nn acc ∧ Own H' 1 a acc.length c (bytesV acc) ∧ (∀ j ∈ blkOf a, H.size ≤ j) ∧ Ext [] H H',
    fun _ _ _ _ i _ => bs.length - i.toNat, ⟨0, [], rfl, rfl, by omega, rfl, by omega, rfl, Own.nil _ _, by simp [blkOf], Ext.refl _ _⟩, ?_⟩
  rintro nn a4 _ c6 _ H8 ⟨k, acc, rfl, rfl, hk, hacc, hnn, hg, ho8, hf8, hx8⟩
  obtain ⟨fu, hfu⟩ : ∃ fu, bs.length + 2 - k = fu + 1 := ⟨bs.length + 1 - k, by omega⟩
  generalize hGG : gatherM h.epoch seq bs (bs.length + 2) 0 1 [] = GG at hg
  rw [hfu, gatherM] at hg
  have hb8 := hb.ext hx8 (by simp)
  have h18 := h1.ext hx8.toP (by simp)
  refine ⟨fun hlt => ⟨⟨by omega, by omega⟩, pr, 0, rfl, _, hb8.cell 1, fun hge => ?_, fun hge => ?_⟩, fun hge => ?_⟩
  · -- no block is there
    rw [if_neg (by omega), List.getElem?_eq_none (by omega)] at hg
    exact none_ hx8 (by unfold takeP; rw [hGG, hg])
  · have hkl : k < bs.length := by omega
    have hi : bs[k]? = some (bs[k]'hkl) := List.getElem?_eq_getElem hkl
    rw [if_neg (by omega), hi] at hg
    simp only at hg
    have hat := hbat k hkl
    have hxl := hb128 k hkl
    generalize bs[k]'hkl = x at *
    refine ⟨pr, 0, rfl, _, hb8.cell 0, ⟨by omega, by omega⟩, ⟨by omega, by omega⟩, (rdread_ok h18 hw (by omega) (1 + (pos : Int) + k)).mono ?_⟩
    rintro _ _ ⟨rfl, hr⟩
    have hin : 0 ≤ 1 + (pos : Int) + k ∧ 1 + (pos : Int) + k < n := by omega
    rcases hr with ⟨hno, _⟩ | ⟨_, hd, _⟩ | ⟨_, _, a17, c19, xs, hxs, rfl, hxc, hrow, hfr⟩
    · exact absurd hin hno
    · rw [hdd] at hd; cases hd
    have e1 : (1 + (pos : Int) + k).toNat = 1 + pos + k := by omega
    rw [e1, hat] at hxs
    cases hxs
    refine ⟨a17, _, c19, 0, rfl, fun b21 H22 hn22 => ?_⟩
    have e21 := hn22.eq
    have hs22 := hn22.size
    have hs8 := hx8.size
    have hV := RV.fresh (G := F) hn22 hxc hrow (fun j hj => ⟨by have := hFlt j (hfr j hj); omega, hfr j hj⟩)
    have hx22 : Ext [] H H22 := hx8.trans hn22.ext
    have hb22 := hb.ext hx22 (by simp)
    refine ⟨pr, 0, rfl, _, hb22.cell 2, (ru1V_ok (.inr ⟨rfl, rfl⟩) hV).mono ?_⟩
    rintro _ H27 ⟨rfl, hV27, hx27⟩
    have hX27 : Ext [] H H27 := ext_new hx22 hx27 (fun i hi => by simp only [List.mem_singleton] at hi; omega)
    have hb27 := hb.ext hX27 (by simp)
    rw [rdU_some (show 4 ≤ x.length by omega)] at hV27
    refine ⟨_, rfl, ⟨hb27.cell 2, trivial⟩, fun hne => ?_, fun he => (ru1V_ok (.inr ⟨rfl, rfl⟩) hV27).mono ?_⟩
    · rw [if_pos (.inl hne)] at hg
      exact none_ hX27 (by unfold takeP; rw [hGG, hg])
    rintro _ H30 ⟨rfl, hV30, hx30⟩
    have hX30 : Ext [] H H30 := ext_new hX27 hx30 (fun i hi => by simp only [List.mem_singleton] at hi; omega)
    simp only at hV30
    rw [rdU_some (show 4 ≤ (x.drop 4).length by rw [List.length_drop]; omega)] at hV30
    have ht := tags_drop hxl
    refine ⟨_, rfl, fun hne => ?_, fun he2 => (ru1V_ok (.inl ⟨rfl, rfl⟩) hV30).mono ?_⟩
    · rw [if_pos (.inr (.inl (by rw [ht.1]; exact hne)))] at hg
      exact none_ hX30 (by unfold takeP; rw [hGG, hg])
    rintro _ H33 ⟨rfl, hV33, hx33⟩
    have hX33 : Ext [] H H33 := ext_new hX30 hx33 (fun i hi => by simp only [List.mem_singleton] at hi; omega)
    simp only [List.drop_drop] at hV33
    rw [rdU_some (show 2 ≤ (x.drop 8).length by rw [List.length_drop]; omega)] at hV33
    refine ⟨_, rfl, fun hne => ?_, fun he3 => (ru1V_ok (.inl ⟨rfl, rfl⟩) hV33).mono ?_⟩
    · rw [if_pos (.inr (.inr (.inl (by unfold tagP; simpa only [List.drop_drop] using hne))))] at hg
      exact none_ hX33 (by unfold takeP; rw [hGG, hg])
    rintro _ H36 ⟨rfl, hV36, hx36⟩
    have hX36 : Ext [] H H36 := ext_new hX33 hx36 (fun i hi => by simp only [List.mem_singleton] at hi; omega)
    simp only [List.drop_drop] at hV36 ⊢
    rw [rdU_some (show 2 ≤ (x.drop 10).length by rw [List.length_drop]; omega)] at hV36
    simp only [List.drop_drop] at hV36
    have hcb := numU_lt2 (x.drop 10, false)
    rw [ht.1, ht.2] at hg
    unfold tagP tagE at hg
    simp only [List.drop_drop] at he2 he3
    refine ⟨_, rfl, fun H39 => H36 = H39 ∧ numU (x.drop 10, false) 2 ≠ 0 ∧ ¬ ((0 : Int) < k ∧ numU (x.drop 10, false) 2 ≠ nn), ⟨fun he4 => ?_, fun he4 => ⟨fun hk0 => ⟨fun hne => ?_, fun he5 => ⟨rfl, he4, fun hh => he5 hh.2⟩⟩, fun hk0 => ⟨rfl, he4, fun hh => hk0 hh.1⟩⟩⟩, ?_⟩
    · rw [if_pos (.inr (.inr (.inr (.inl he4))))] at hg
      exact none_ hX36 (by unfold takeP; rw [hGG, hg])
    · rw [if_pos (.inr (.inr (.inr (.inr ⟨by omega, hne⟩))))] at hg
      exact none_ hX36 (by unfold takeP; rw [hGG, hg])
    rintro _ ⟨rfl, he4, he5⟩
    rw [if_neg (by
      rintro (h' | h' | h' | h' | h')
      · exact h' (by simpa using he)
      · exact h' (by simpa using he2)
      · exact h' (by simpa using he3)
      · exact he4 h'
      · exact he5 ⟨by omega, h'.2⟩)] at hg
    obtain ⟨ar, cr, hbr, hcr, hrr, hnb, hgr⟩ := hV36
    simp only [List.length_drop, hxl] at hbr hcr hrr
    have ho36 : Own H36 1 a4 acc.length c6 (bytesV acc) := by
      have q1 := ho8.ext hn22.ext (by simp)
      have hn4 : ∀ k' ∈ blkOf a4, k' ∉ [b21] := fun k' hk' hm => by simp only [List.mem_singleton] at hm; have := ho8.lt k' hk'; omega
      exact (((q1.ext hx27 hn4).ext hx30 hn4).ext hx33 hn4).ext hx36 hn4
    have hlen : (bytesV (x.drop 12)).length = 116 * 1 := by rw [bytesV_length, List.length_drop, hxl]
    refine ⟨b21, 0, rfl, ar, _, cr, hbr.cell 0, bytesV acc, bytesV (x.drop 12), ho36.row _ _, by rw [show (128 - 12 : Nat) = 116 by rfl] at hrr ⊢; exact hrr, bytesV_one _, by omega, fun hle => ho36.room (n := 128 - 12) hle, fun a47 c48 H49 happ => ?_⟩
    obtain ⟨p1, p2, p3⟩ := happ.own ho36 (ho36.row _ _) (by rw [hlen]) rfl
    rw [← bytesV_append] at p1
    have hX49 : Ext [] H H49 := ext_new hX36 p2 (fun i hi => hf8 i hi)
    refine ⟨⟨by omega, by omega⟩, ⟨k + 1, acc ++ x.drop 12, by omega, by rw [List.length_append, List.length_drop, hxl], by omega, by rw [List.length_append, List.length_drop, hxl]; omega, hcb.2, ?_, ?_, fun i hi => ?_, hX49⟩, by show bs.length - ((k : Int) + 1).toNat < bs.length - ((k : Int)).toNat; omega⟩
    · have e9 : bs.length + 2 - (k + 1) = fu := by omega
      rw [e9]; exact hg
    · rw [List.length_append, List.length_drop, hxl]; exact p1
    · rcases p3 i hi with h' | h'
      · exact hf8 i h'
      · have := hX36.size; omega
  · -- the stream
    rw [if_pos (by omega)] at hg
    intro b50 H51 hn51
    have e50 := hn51.eq
    have hs51 := hn51.size
    have hs8 := hx8.size
    have hV51 := RV.fresh (G := fun j => H.size ≤ j ∧ j < b50) hn51 ho8.2.1 (ho8.row _ _) (fun j hj => ⟨ho8.lt j hj, hf8 j hj, by have := ho8.lt j hj; omega⟩)
    have hX51 : Ext [] H H51 := hx8.trans hn51.ext
    have hT : takeP h.epoch seq bs (homeN n h.size) = endP nn (parse2 (homeN n h.size) (numU (acc, false) 2).toNat (rdU (acc, false) 2).2 []) := by
      unfold takeP; rw [hGG, hg]
    have hk2 := numU_lt2 (acc, false)
    refine ⟨fun a l c H' => ∃ (ws : List Wr) (st : Octs × Bool), l = ws.length ∧ ws.length ≤ 65536 ∧ parse2 (homeN n h.size) (numU (acc, false) 2).toNat (rdU (acc, false) 2).2 [] = some (ws, st) ∧ st.1.length ≤ 10000000 ∧ RV (fun j => H.size ≤ j ∧ j < b50) H' b50 st ∧ FoundB b50 H H' a c ws ∧ b50 ∉ blkOf a ∧ Ext [] H H', (ru1V_ok (.inl ⟨rfl, rfl⟩) hV51).mono ?_, ?_⟩
    · rintro _ H54 ⟨rfl, hV54, hx54⟩
      have hX54 : Ext [] H H54 := ext_new hX51 hx54 (fun i hi => by simp only [List.mem_singleton] at hi; omega)
      have hst0 : (rdU (acc, false) 2).2.1.length ≤ 10000000 := by have := rdU_le (acc, false) 2; simp only at this; omega
      generalize (rdU (acc, false) 2).2 = st0 at *
      obtain ⟨K, hK⟩ : ∃ K : Nat, numU (acc, false) 2 = K := ⟨(numU (acc, false) 2).toNat, by omega⟩
      rw [hK] at hk2 ⊢
      rw [Int.toNat_natCast]
      rw [hK, Int.toNat_natCast] at hT
      generalize hGP : parse2 (homeN n h.size) K st0 [] = GP at *
      refine ⟨_, rfl, fun a l c i H' => ∃ (ws : List Wr) (st : Octs × Bool) (q : Nat), i = q ∧ l = ws.length ∧ ws.length + q = K ∧ GP = parse2 (homeN n h.size) q st ws ∧ st.1.length ≤ 10000000 ∧ RV (fun j => H.size ≤ j ∧ j < b50) H' b50 st ∧ FoundB b50 H H' a c ws ∧ b50 ∉ blkOf a ∧ Ext [] H H',
        fun _ _ _ i _ => i.toNat, ⟨[], st0, K, rfl, rfl, by simp, hGP.symm, hst0, hV54, ⟨Seq.nil _ _ _, by simp [blkOf]⟩, by simp [blkOf], hX54⟩, ?_⟩
      rintro a58 _ c60 _ H62 ⟨ws, st, q, rfl, rfl, hq, hpa, hsl, hV62, hF62, hn58, hX62⟩
      have hs62 := hX62.size
      have hb50 : b50 < H62.size := hV62.lt
      refine ⟨fun hlt => ⟨b50, 0, rfl, st.2, ?_, fun hlk => ?_, fun hlk => ?_⟩, fun hge => ⟨ws, st, rfl, by omega, ?_, hsl, hV62, hF62, hn58, hX62⟩⟩
      · obtain ⟨a, c, g1, _⟩ := hV62; exact g1.cell 1
      · obtain ⟨q', rfl⟩ : ∃ q', q = q' + 1 := ⟨q - 1, by omega⟩
        rw [parse2, if_neg (by simp [hlk])] at hpa
        refine (ru1V_ok (.inr ⟨rfl, rfl⟩) hV62).mono ?_
        rintro _ H67 ⟨rfl, hV67, hx67⟩
        have hs67 := hx67.size
        generalize hw1 : numU st 4 = at_ at *
        refine ⟨_, rfl, fun b69 H70 hn70 => ⟨hn70.blk.cells 2 0 (by simp), fun H71 hp71 => ?_⟩⟩
        have e69 := hn70.eq
        have hs70 := hn70.size
        have hs71 := hp71.size
        have hb71 := hp71.blk hn70.blk (by simp)
        have hV71 : RV (fun j => H.size ≤ j ∧ j < b50) H71 b50 (rdU st 4).2 := (hV67.ext hn70.ext).extP hp71.ext.toP (by simp; omega) (fun j hj => by simp; omega)
        refine (raw1V_ok (n := 128) (by omega) hV71).mono ?_
        rintro _ H73 ⟨a74, c76, rfl, hc76, hrow73, hfr73, hV73, hx73⟩
        have hs73 := hx73.size
        have hb73 := hb71.ext hx73 (by simp; omega)
        generalize hwr : rdU (rdU st 4).2 128 = wr at *
        refine ⟨a74, _, c76, rfl, hb73.cells 1 (0 + 1) (by simp [splice]), fun H77 hp77 => ?_⟩
        have hs77 := hp77.size
        have hb77 := hp77.blk hb73 (by simp [splice])
        have hb77' : Blk H77 b69 [.int .i64 at_, .slice a74 wr.1.length c76] := by simpa [splice] using hb77
        have hV77 : RV (fun j => H.size ≤ j ∧ j < b50) H77 b50 wr.2 := hV73.extP hp77.ext.toP (by simp; omega) (fun j hj => by simp; omega)
        have hx77 : ExtP (fun j => j = b50) H62 H77 := by
          have q1 : ExtP (fun j => j = b50) H62 H67 := hx67.toP.mono (fun k _ hk => by simpa using hk)
          have q2 : ExtP (fun j => j = b50) H62 H71 := (q1.trans hn70.ext.anyP).trans' hp71.ext.toP (fun i hi => by simp only [List.mem_singleton] at hi; left; omega)
          have q3 : ExtP (fun j => j = b50) H62 H73 := q2.trans' hx73.toP (fun i hi => by simp only [List.mem_singleton] at hi; right; exact hi)
          exact q3.trans' hp77.ext.toP (fun i hi => by simp only [List.mem_singleton] at hi; left; omega)
        have hX77 : Ext [] H H77 := by
          have q1 := ext_new hX62 hx67 (fun i hi => by simp only [List.mem_singleton] at hi; omega)
          have q2 := ext_new (q1.trans hn70.ext) hp71.ext (fun i hi => by simp only [List.mem_singleton] at hi; omega)
          have q3 := ext_new q2 hx73 (fun i hi => by simp only [List.mem_singleton] at hi; omega)
          exact ext_new q3 hp77.ext (fun i hi => by simp only [List.mem_singleton] at hi; omega)
        have hrow77 : SRow H77 1 wr.1.length (.slice a74 wr.1.length c76) (bytesV wr.1) := hrow73.ext hp77.ext (fun k hk hm => by simp only [List.mem_singleton] at hm; have := hfr73 k hk; omega)
        have hsl2 : wr.2.1.length ≤ 10000000 := by rw [← hwr]; have := rdU_le (rdU st 4).2 128; have := rdU_le st 4; omega
        have dup : ∀ {j : Nat} (hj : j < ws.length), (ws[j]'hj).1 = at_ → takeP h.epoch seq bs (homeN n h.size) = ([], 0) := fun hj e => by
          rw [if_pos (.inl (List.any_eq_true.2 ⟨_, List.getElem_mem hj, by simpa using e⟩))] at hpa
          rw [hT, hpa]; rfl
        refine ⟨fun i H' => H77 = H' ∧ ∃ j : Nat, i = j ∧ j ≤ ws.length ∧ ∀ x ∈ ws.take j, x.1 ≠ at_, fun i _ => ws.length - i.toNat, ⟨rfl, 0, rfl, by omega, by simp⟩, ?_⟩
        rintro _ _ ⟨rfl, j, rfl, hj, hno⟩
        have hF77 : Seq writeE H77 (fun j => H.size ≤ j ∧ j < H62.size ∧ j ∉ blkOf a58 ∧ j ≠ b50) a58 ws.length c60 ws := hF62.1.extP hx77 (fun i hi e => hn58 (by rw [← e]; exact hi)) (fun i hi e => hi.2.2.2 e)
        refine ⟨fun h3 => ?_, fun h3 => ?_⟩
        · have hi : ws[j]? = some (ws[j]'(by omega)) := List.getElem?_eq_getElem (by omega)
          obtain ⟨bb, oo, aa, cc, eaa, q0, _⟩ := hF77.view.wr hi
          refine ⟨by omega, h3, bb, oo, eaa, _, by rw [Int.toNat_natCast]; exact q0, at_, hb77'.cell 0, fun e => none_ hX77 (dup (j := j) (by omega) e), fun e => ⟨⟨by omega, by omega⟩, ⟨rfl, j + 1, by omega, by omega, fun x hx => ?_⟩, by simp only []; omega⟩⟩
          rw [List.take_add_one, hi] at hx
          rcases List.mem_append.1 hx with hx | hx
          · exact hno x hx
          · simp only [Option.toList_some, List.mem_singleton] at hx; subst hx; exact e
        · have hjl : j = ws.length := by omega
          subst hjl
          rw [List.take_length] at hno
          have hany : ¬ (ws.any fun w => decide (w.1 = at_)) = true := fun h' => by
            obtain ⟨x, hx, he⟩ := List.any_eq_true.1 h'
            exact hno x hx (by simpa using he)
          have hbV : ∃ a c, Blk H77 b50 [.slice a wr.2.1.length c, .bool wr.2.2] := by obtain ⟨a, c, g1, _⟩ := hV77; exact ⟨a, c, g1⟩
          obtain ⟨aV, cV, hbV⟩ := hbV
          refine ⟨b50, 0, rfl, wr.2.2, hbV.cell 1, fun hlk2 => none_ hX77 ?_, fun hlk2 => ⟨at_, hb77'.cell 0, (rhome0_ok (h1.ext hX77.toP (by simp)) (hb.ext hX77 (by simp)) hw hz).mono ?_⟩⟩
          · rw [if_pos (.inr (.inl hlk2))] at hpa
            rw [hT, hpa]; rfl
          rintro _ _ ⟨rfl, rfl⟩
          refine ⟨_, rfl, ⟨hb77'.cell 0, trivial⟩, fun hle => none_ hX77 ?_, fun hle => ⟨at_, hb77'.cell 0, a74, _, c76, hb77'.cell 1, ?_⟩⟩
          · rw [if_pos (.inr (.inr hle))] at hpa
            rw [hT, hpa]; rfl
          rw [if_neg (by
            rintro (h' | h' | h')
            · exact hany h'
            · rw [hlk2] at h'; cases h'
            · exact hle h')] at hpa
          have hw77 : writeE.ok H77 [.int .i64 at_, .slice a74 wr.1.length c76] (at_, wr.1) := ⟨_, _, _, rfl, hrow77, fun k hk => by have := hfr73 k hk; omega⟩
          refine (hF77.mono (G' := fun j => H.size ≤ j ∧ j < H77.size ∧ j ∉ blkOf a58 ∧ j ≠ b50 ∧ (j < H62.size ∨ j ∈ blkOf a74)) (fun k _ hk => ⟨hk.1, by have := hx77.size; omega, hk.2.2.1, hk.2.2.2, .inl hk.2.1⟩)).push (fun k hk => hk.2.2.1) hw77 (fun k hk => ?_) rfl (by omega) (fun a' c' H' hseq hxe hfr => ?_)
          · have := hfr73 k hk
            exact ⟨by omega, by omega, fun hm => by have := hF62.1.lt k hm; omega, by omega, .inr hk⟩
          · refine ⟨⟨by omega, by omega⟩, ⟨ws ++ [(at_, wr.1)], wr.2, q', by omega, by simp, by simp; omega, hpa, hsl2, hV77.extP hxe.toP hn58 (fun k hk hm => ?_), ⟨?_, fun k hk => ?_⟩, ?_, ?_⟩, by simp only []; omega⟩
            · have := (hF62.2 k hm).2; omega
            · have hse := hseq.mono (G' := fun k => H.size ≤ k ∧ k < H'.size ∧ k ∉ blkOf a' ∧ k ≠ b50) (fun k _ hk => ⟨hk.1, by have := hxe.size; omega, fun hm => ?_, hk.2.2.2.1⟩)
              · simpa using hse
              · rcases hfr k hm with h' | h'
                · exact hk.2.2.1 h'
                · omega
            · rcases hfr k ‹_› with h' | h'
              · exact hF62.2 k h'
              · have := hX77.size; exact ⟨by omega, by omega⟩
            · intro hm
              rcases hfr _ hm with h' | h'
              · exact hn58 h'
              · omega
            · exact ext_new hX77 hxe (fun i hi => (hF62.2 i hi).1)
      · rw [show parse2 (homeN n h.size) q st ws = some (ws, st) by
          cases q with
          | zero => rfl
          | succ q => rw [parse2, if_pos (by simpa using hlk)]] at hpa
        exact ⟨ws, st, rfl, by omega, hpa, hsl, hV62, hF62, hn58, hX62⟩
      · have : q = 0 := by omega
        subst this
        exact hpa
    · rintro a104 _ c106 H107 ⟨ws, st, rfl, hws, hpa, hsl, hV107, hF107, hn104, hX107⟩
      rw [hpa] at hT
      unfold endP at hT
      simp only at hT
      have hbV : ∃ a c, Blk H107 b50 [.slice a st.1.length c, .bool st.2] ∧ SRow H107 1 st.1.length (.slice a st.1.length c) (bytesV st.1) := by obtain ⟨a, c, g1, _, g2, _⟩ := hV107; exact ⟨a, c, g1, g2⟩
      obtain ⟨aV, cV, hbV, hrV⟩ := hbV
      refine ⟨fun h3 => none_ hX107 (by rw [hT, if_pos (.inl (List.length_eq_zero_iff.1 (by omega)))]), fun h3 => ⟨b50, 0, rfl, st.2, hbV.cell 1, fun hlk => none_ hX107 (by rw [hT, if_pos (.inr (.inl hlk))]), fun hlk => (rneeds_ok ws.length H107 (by omega)).mono ?_⟩⟩
      rintro _ _ ⟨rfl, rfl⟩
      refine ⟨_, rfl, fun hne => none_ hX107 (by rw [hT, if_pos (.inr (.inr (.inl hne)))]), fun he => ?_⟩
      refine ⟨fun i H' => H107 = H' ∧ ∃ j : Nat, i = j ∧ j ≤ st.1.length ∧ ∀ x ∈ st.1.take j, x = 0, fun i _ => st.1.length - i.toNat, ⟨rfl, 0, rfl, by omega, by simp⟩, ?_⟩
      rintro _ _ ⟨rfl, j, rfl, hj, hz0⟩
      refine ⟨b50, 0, rfl, aV, _, cV, hbV.cell 0, fun h4 => ?_, fun h4 => ?_⟩
      · have hjs : j < st.1.length := by omega
        obtain ⟨bb, oo, eaa, hc⟩ := SRow.at hrV (getElem_bytesV hjs)
        refine ⟨b50, 0, rfl, aV, _, cV, hbV.cell 0, by omega, h4, bb, oo, eaa, _, by rw [Int.toNat_natCast]; exact hc, fun hne => none_ hX107 ?_, fun hz1 => ⟨⟨by omega, by omega⟩, ⟨rfl, j + 1, by omega, by omega, fun x hx => ?_⟩, by simp only []; omega⟩⟩
        · rw [hT, if_pos (.inr (.inr (.inr (fun hall => hne (by rw [hall _ (List.getElem_mem hjs)]; rfl)))))]
        · rw [List.take_add_one, List.getElem?_eq_getElem hjs] at hx
          rcases List.mem_append.1 hx with hx | hx
          · exact hz0 x hx
          · simp only [Option.toList_some, List.mem_singleton] at hx
            subst hx
            apply UInt8.toNat_inj.1
            have : ((st.1[j]'hjs).toNat : Int) = 0 := by simpa using hz1
            simpa using this
      · have : j = st.1.length := by omega
        subst this
        rw [List.take_length] at hz0
        rw [if_neg (by
          rintro (h' | h' | h' | h')
          · exact h3 (by rw [h']; rfl)
          · rw [hlk] at h'; cases h'
          · exact he h'
          · exact h' hz0)] at hT
        rw [hT]
        exact ⟨a104, c106, rfl, hF107.found, hX107⟩
end Go.Proofs
end

section
open Go Go.Vc
namespace Go.Proofs

theorem parseH_eq {b : Octs} (hl : b.length = 128) : (parseH b).epoch = numU (b.drop 4, false) 4 ∧ (parseH b).seq = numU (b.drop 8, false) 4 ∧ (parseH b).size = numU (b.drop 12, false) 4 := by
  unfold parseH
  rw [rdU_some (show 4 ≤ b.length by omega)]
  simp only
  rw [rdU_some (show 4 ≤ (b.drop 4).length by rw [List.length_drop]; omega)]
  simp only [List.drop_drop]
  rw [rdU_some (show 4 ≤ (b.drop (4 + 4)).length by rw [List.length_drop]; omega)]
  simp only [List.drop_drop]
  exact ⟨trivial, trivial, trivial⟩
theorem hdrB_iff {b : Octs} (hl : b.length = 128) : hdrB (parseH b) = b ↔ (numU (b, false) 4 = 1885695604 ∧ ∀ x ∈ b.drop 16, x = 0) := by
  obtain ⟨e1, e2, e3⟩ := parseH_eq hl
  have hh : hdrB (parseH b) = beU 4 (w64 1885695604) ++ (beU 4 (w64 (parseH b).epoch) ++ (beU 4 (w64 (parseH b).seq) ++ (beU 4 (w64 (parseH b).size) ++ List.replicate 112 0))) := by
    unfold hdrB padL
    simp only [List.append_assoc, List.length_append, beU_len]
  constructor
  · intro h
    rw [h] at hh
    constructor
    · rw [hh, numU4_app (by decide) (by decide)]
    · intro x hx
      rw [hh] at hx
      rw [show beU 4 (w64 1885695604) ++ (beU 4 (w64 (parseH b).epoch) ++ (beU 4 (w64 (parseH b).seq) ++ (beU 4 (w64 (parseH b).size) ++ List.replicate 112 0))) = (beU 4 (w64 1885695604) ++ beU 4 (w64 (parseH b).epoch) ++ beU 4 (w64 (parseH b).seq) ++ beU 4 (w64 (parseH b).size)) ++ List.replicate 112 0 by simp only [List.append_assoc], List.drop_left' (by simp [beU_len])] at hx
      exact List.eq_of_mem_replicate hx
  · rintro ⟨h1, h2⟩
    rw [hh, e1, e2, e3, ← h1, back4 (by omega), back4 (by rw [List.length_drop]; omega), back4 (by rw [List.length_drop]; omega), back4 (by rw [List.length_drop]; omega)]
    have hz := zeros_eq h2
    rw [show (b.drop 16).length = 112 by rw [List.length_drop]; omega] at hz
    rw [← hz]
    have d1 : b.drop 16 = (b.drop 12).drop 4 := by rw [List.drop_drop]
    have d2 : b.drop 12 = (b.drop 8).drop 4 := by rw [List.drop_drop]
    have d3 : b.drop 8 = (b.drop 4).drop 4 := by rw [List.drop_drop]
    rw [d1, List.take_append_drop, d2, List.take_append_drop, d3, List.take_append_drop, List.take_append_drop]

theorem readM_iff {n : Nat} {D : Dev} (hdd : D.dead = false) {b : Octs} (hb : D.now[0]? = some b) (hl : b.length = 128) :
    readM n D = if (numU (b, false) 4 = 1885695604 ∧ (4 ≤ (parseH b).size ∧ (parseH b).size ≤ n - 4) ∧ (parseH b).seq ≠ 0 ∧ ∀ x ∈ b.drop 16, x = 0) then (parseH b, 0) else (Hd.zero, 2) := by
  unfold readM
  rw [if_neg (by simp [hdd]), hb]
  simp only [Option.getD_some]
  have hi := hdrB_iff hl
  by_cases h : numU (b, false) 4 = 1885695604 ∧ (4 ≤ (parseH b).size ∧ (parseH b).size ≤ n - 4) ∧ (parseH b).seq ≠ 0 ∧ ∀ x ∈ b.drop 16, x = 0
  · rw [if_pos h, if_neg]
    rintro (h' | h' | h')
    · exact h' (hi.2 ⟨h.1, h.2.2.2⟩)
    · rw [homeN_of h.2.1] at h'; omega
    · exact h.2.2.1 h'
  · rw [if_neg h, if_pos]
    by_cases h1 : hdrB (parseH b) = b
    · by_cases h2 : homeN n (parseH b).size < 0
      · exact .inr (.inl h2)
      · by_cases h3 : (parseH b).seq = 0
        · exact .inr (.inr h3)
        · exfalso
          apply h
          refine ⟨(hi.1 h1).1, ?_, h3, (hi.1 h1).2⟩
          unfold homeN at h2
          split at h2
          · exact absurd (by decide) h2
          · omega
    · exact .inl h1

/-- What the reference's opening gives. -/
def ROpenR (n : Nat) (H : Heap) (F : Nat → Prop) (pd : Nat) (D : Dev) (v : Value) (H' : Heap) : Prop :=
  (∃ e, openM n D = ((openM n D).1, none, e) ∧ e ≠ 0 ∧ v = .tuple #[.pointer none, .int .i64 e] ∧ IsRDev H' (grow F H H') pd (openM n D).1) ∨
  (∃ pj J, openM n D = ((openM n D).1, some J, 0) ∧ v = .tuple #[.pointer (some ⟨pj, 0, none⟩), .int .i64 0] ∧ RJD H' (grow F H H') pj pd J (openM n D).1)

theorem begin_two (n : Nat) (h : Hd) (J K : Jn) (D : Dev) (hd : J.dead = K.dead) : (beginM n h J D).1 = (beginM n h K D).1 ∧ (beginM n h J D).2.2 = (beginM n h K D).2.2 ∧ ((beginM n h J D).2.2 = 0 → (beginM n h J D).2.1 = (beginM n h K D).2.1) := by
  unfold beginM
  split
  · exact ⟨rfl, rfl, fun h => by rename_i h'; exact absurd h h'⟩
  · split
    · exact ⟨rfl, rfl, fun h => by rename_i h'; exact absurd h h'⟩
    · exact ⟨rfl, rfl, fun _ => by obtain ⟨_, _, _, d⟩ := J; obtain ⟨_, _, _, d'⟩ := K; simp only at hd; subst hd; rfl⟩

theorem fixed_bad {n : Nat} {H H' : Heap} {F : Nat → Prop} {pd : Nat} {D : Dev} (hd : IsRDev H F pd D) (hx : Ext [] H H') {e : Int} {h : Hd} (he : e ≠ 0) (hr : readM n D = (h, e)) : ROpenR n H F pd D (.tuple #[.pointer none, .int .i64 e]) H' ∧ ExtP F H H' := by
  have ho : openM n D = (D, none, e) := by unfold openM; rw [hr]; exact if_pos he
  refine ⟨.inl ⟨e, by rw [ho], he, rfl, ?_⟩, hx.anyP⟩
  rw [ho]
  exact (hd.ext hx.toP (by simp)).up (fun _ => .inl) (grow_lt hd.lt hx.size)

set_option maxHeartbeats 2000000 in
theorem ropen_ok {H : Heap} {F : Nat → Prop} {pd : Nat} {D : Dev} {n B : Nat} (hd : IsRDev H F pd D) (hw : D.Wf n B) (hB : B ≤ 700000000) (hn : n ≤ 4096) (h8 : 0 < n) (hsm : (readM n D).2 = 0 → (readM n D).1.seq + 10000 < 4294967296) :
    Does Tryz.prog 9 [.pointer (some ⟨pd, 0, none⟩)] H fun v H' => ROpenR n H F pd D v H' ∧ ExtP F H H' := by
  have hlt := hd.lt
  have hl := hw.len
  have hnl : D.now.length = n := by rw [← hl]; exact laid_length _ _
  refine Fn_of_vc Tryz.mixed (vc_ropen _ _ _) ?_
  refine (rdread_ok hd hw (by omega) 0).mono ?_
  rintro _ _ ⟨rfl, hr⟩
  have hin : (0 : Int) ≤ 0 ∧ (0 : Int) < n := by omega
  rcases hr with ⟨hno, _⟩ | ⟨_, hdead, rfl⟩ | ⟨_, hdd, a3, c5, b, hb, rfl, hbc, hrow, hfr⟩
  · exact absurd hin hno
  · refine ⟨_, _, _, _, rfl, fun _ => fixed_bad (h := Hd.zero) hd (Ext.refl _ _) (by decide) ?_, fun h => absurd (by decide) h⟩
    unfold readM; rw [if_pos hdead]
  have hbl : b.length = 128 := nowSize hw _ (List.mem_of_getElem? hb)
  have hR := readM_iff (n := n) hdd hb hbl
  obtain ⟨p1, p2, p3⟩ := parseH_eq hbl
  refine ⟨a3, _, c5, 0, rfl, fun h => absurd rfl h, fun _ b7 H8 hn8 => ?_⟩
  have e7 := hn8.eq
  have hs8 := hn8.size
  have hV8 := RV.fresh (G := F) hn8 hbc hrow (fun j hj => ⟨hlt j (hfr j hj), hfr j hj⟩)
  refine (ru1V_ok (.inr ⟨rfl, rfl⟩) hV8).mono ?_
  rintro _ H10 ⟨rfl, hV10, hx10⟩
  rw [rdU_some (show 4 ≤ b.length by omega)] at hV10
  refine ⟨_, rfl, (ru1V_ok (.inr ⟨rfl, rfl⟩) hV10).mono ?_⟩
  rintro _ H13 ⟨rfl, hV13, hx13⟩
  rw [rdU_some (show 4 ≤ (b.drop 4).length by rw [List.length_drop]; omega)] at hV13
  simp only [List.drop_drop] at hV13
  refine ⟨_, rfl, (ru1V_ok (.inr ⟨rfl, rfl⟩) hV13).mono ?_⟩
  rintro _ H16 ⟨rfl, hV16, hx16⟩
  rw [rdU_some (show 4 ≤ (b.drop 8).length by rw [List.length_drop]; omega)] at hV16
  simp only [List.drop_drop] at hV16 ⊢
  refine ⟨_, rfl, (ru1V_ok (.inr ⟨rfl, rfl⟩) hV16).mono ?_⟩
  rintro _ H19 ⟨rfl, hV19, hx19⟩
  rw [rdU_some (show 4 ≤ (b.drop 12).length by rw [List.length_drop]; omega)] at hV19
  simp only [List.drop_drop] at hV19 ⊢
  have hX19 : Ext [] H H19 := by
    have q1 := ext_new hn8.ext hx10 (fun i hi => by simp only [List.mem_singleton] at hi; omega)
    have q2 := ext_new q1 hx13 (fun i hi => by simp only [List.mem_singleton] at hi; omega)
    have q3 := ext_new q2 hx16 (fun i hi => by simp only [List.mem_singleton] at hi; omega)
    exact ext_new q3 hx19 (fun i hi => by simp only [List.mem_singleton] at hi; omega)
  refine ⟨_, rfl, fun b21 H22 hn22 => ?_⟩
  have e21 := hn22.eq
  have hs22 := hn22.size
  have hs19 := hX19.size
  have hX22 : Ext [] H H22 := hX19.trans hn22.ext
  have bm := numU_lt4 (b, false)
  have be_ := numU_lt4 (b.drop 4, false)
  have bs_ := numU_lt4 (b.drop 8, false)
  have bz := numU_lt4 (b.drop 12, false)
  have hb22 : Blk H22 b21 (rcells pd ⟨numU (b.drop 4, false) 4, numU (b.drop 8, false) 4, numU (b.drop 12, false) 4⟩ 0 none 0 0 false) := hn22.blk
  have hV22 := hV19.ext hn22.ext
  have hd22 := hd.ext hX22.toP (by simp)
  have hh : parseH b = ⟨numU (b.drop 4, false) 4, numU (b.drop 8, false) 4, numU (b.drop 12, false) 4⟩ := by rw [← p1, ← p2, ← p3]
  rw [hh] at hR
  generalize numU (b, false) 4 = mg at *
  generalize numU (b.drop 4, false) 4 = ep at *
  generalize numU (b.drop 8, false) 4 = sq at *
  generalize numU (b.drop 12, false) 4 = sz at *
  simp only at hR
  have bad : ∀ {H' : Heap}, Ext [] H H' → ¬ (mg = 1885695604 ∧ (4 ≤ sz ∧ sz ≤ n - 4) ∧ sq ≠ 0 ∧ ∀ x ∈ b.drop 16, x = 0) → ROpenR n H F pd D (.tuple #[.pointer none, .int .i64 2]) H' ∧ ExtP F H H' := fun hx h => fixed_bad (h := Hd.zero) hd hx (by decide) (by rw [hR, if_neg h])
  obtain ⟨ak, ck, ap, cp, hthree⟩ := hd22
  have hdk := hthree.head.cell 0
  have hd22 : IsRDev H22 F pd D := ⟨ak, ck, ap, cp, hthree⟩
  refine ⟨fun h => bad hX22 (fun h' => h h'.1), fun hmg => ⟨b21, 0, rfl, sz, hb22.cell 1, fun h => bad hX22 (fun h' => by omega), fun hz4 => ⟨b21, 0, rfl, sz, hb22.cell 1, pd, 0, rfl, ak, _, ck, hdk, ⟨by omega, by omega⟩, fun h => bad hX22 (fun h' => by omega), fun hzn => ⟨b21, 0, rfl, sq, hb22.cell 3, fun h => bad hX22 (fun h' => h'.2.2.1 h), fun hsq => ?_⟩⟩⟩⟩
  have hsz : 4 ≤ sz ∧ sz ≤ n - 4 := by omega
  have hbV : ∃ a c, Blk H22 b7 [.slice a (b.drop 16).length c, .bool false] ∧ SRow H22 1 (b.drop 16).length (.slice a (b.drop 16).length c) (bytesV (b.drop 16)) := by obtain ⟨a, c, g1, _, g2, _⟩ := hV22; exact ⟨a, c, g1, g2⟩
  obtain ⟨aV, cV, hbV, hrV⟩ := hbV
  generalize hrest : b.drop 16 = rest at *
  have hrl : rest.length = 112 := by rw [← hrest, List.length_drop]; omega
  refine ⟨fun i H' => H22 = H' ∧ ∃ j : Nat, i = j ∧ j ≤ rest.length ∧ ∀ x ∈ rest.take j, x = 0, fun i _ => rest.length - i.toNat, ⟨rfl, 0, rfl, by omega, by simp⟩, ?_⟩
  rintro _ _ ⟨rfl, j, rfl, hj, hz0⟩
  refine ⟨b7, 0, rfl, aV, _, cV, hbV.cell 0, fun h4 => ?_, fun h4 => ?_⟩
  · have hjs : j < rest.length := by omega
    obtain ⟨bb, oo, eaa, hc⟩ := SRow.at hrV (getElem_bytesV hjs)
    refine ⟨b7, 0, rfl, aV, _, cV, hbV.cell 0, by omega, h4, bb, oo, eaa, _, by rw [Int.toNat_natCast]; exact hc, fun hne => bad hX22 (fun h' => hne (by rw [h'.2.2.2 _ (List.getElem_mem hjs)]; rfl)), fun hz1 => ⟨⟨by omega, by omega⟩, ⟨rfl, j + 1, by omega, by omega, fun x hx => ?_⟩, by simp only []; omega⟩⟩
    rw [List.take_add_one, List.getElem?_eq_getElem hjs] at hx
    rcases List.mem_append.1 hx with hx | hx
    · exact hz0 x hx
    · simp only [Option.toList_some, List.mem_singleton] at hx
      subst hx
      apply UInt8.toNat_inj.1
      have : ((rest[j]'hjs).toNat : Int) = 0 := by simpa using hz1
      simpa using this
  have hjr : j = rest.length := by omega
  subst hjr
  rw [List.take_length] at hz0
  rw [if_pos ⟨by omega, hsz, hsq, hz0⟩] at hR
  rw [hR] at hsm
  have hsm := hsm rfl
  simp only at hsm
  -- the transactions that are whole
  have hO : openM n D = (if (recoverM n ⟨⟨ep, sq, sz⟩, 0, [], false⟩ D).2.2 ≠ 0 then ((recoverM n ⟨⟨ep, sq, sz⟩, 0, [], false⟩ D).1, none, (recoverM n ⟨⟨ep, sq, sz⟩, 0, [], false⟩ D).2.2) else ((recoverM n ⟨⟨ep, sq, sz⟩, 0, [], false⟩ D).1, some (recoverM n ⟨⟨ep, sq, sz⟩, 0, [], false⟩ D).2.1, 0)) := by
    unfold openM; rw [hR]; rw [if_neg (by simp)]
  have hjl : (jblocks D sz).length = sz.toNat := by unfold jblocks; rw [List.length_take, List.length_drop]; omega
  generalize hjb : jblocks D sz = bs at *
  have hb128 : ∀ x ∈ bs, x.length = 128 := fun x hx => by
    rw [← hjb] at hx
    unfold jblocks at hx
    exact nowSize hw _ (List.mem_of_mem_drop (List.mem_of_mem_take hx))
  have hho : homeN n sz ≤ 65536 := by rw [homeN_of hsz]; omega
  generalize hRL : recL (bs.length + 1) ⟨ep, sq, sz⟩ bs [] (homeN n sz) = RL
  refine ⟨fun i H' => ∃ (p : Nat) (f : Nat) (s : Int) (t new : List Wr) (a : Option Addr) (c lo : Nat), i = p ∧ p ≤ bs.length ∧ bs.length - p < f ∧ sq ≤ s ∧ s ≤ sq + p ∧ Same t new ∧ TOk t (homeN n sz) ∧ new.length ≤ 65536 ∧
      RL = recL f ⟨ep, s, sz⟩ (bs.drop p) t (homeN n sz) ∧ Blk H' b21 (rcells pd ⟨ep, s, sz⟩ 0 a new.length c false) ∧ Seq writeE H' (fun k => H.size ≤ k ∧ k < lo ∧ k ≠ b21) a new.length c new ∧ (∀ k ∈ blkOf a, lo ≤ k) ∧ b21 < lo ∧ lo ≤ H'.size ∧ Ext [] H H',
    fun i _ => bs.length - i.toNat, ⟨0, bs.length + 1, sq, [], [], none, 0, H22.size, rfl, by omega, by omega, by omega, by omega, Same.nil, TOk.nil _, by simp, hRL.symm, hb22, Seq.nil _ _ _, by simp [blkOf], by omega, by omega, hX22⟩, ?_⟩
  rintro _ H57 ⟨p, f, s, t, new, a, c, lo, rfl, hp, hpf, hs0, hs1, hsame, htok, hnewl, hrec, hb57, hseq57, hlo, hlob, hloH, hX57⟩
  have hs57 := hX57.size
  have hd57 := hd.ext hX57.toP (by simp)
  have hnF : ¬ F b21 := fun h => by have := hlt _ h; omega
  obtain ⟨f', rfl⟩ : ∃ f', f = f' + 1 := ⟨f - 1, by omega⟩
  refine ⟨b21, 0, rfl, s, hb57.cell 3, (rtake_ok (h := ⟨ep, s, sz⟩) hd57 hb57 hnF hw (by omega) hn hsz hdd p (by show (p : Int) ≤ sz; omega) s (bs := bs.drop p) (by rw [hjb])).mono ?_⟩
  have htw : takeP ep s (bs.drop p) (homeN n sz) = wholeB ⟨ep, s, sz⟩ (bs.drop p) (homeN n sz) := take_whole (h := ⟨ep, s, sz⟩) ⟨by show 0 ≤ ep; omega, by show ep < _; omega, by show 0 ≤ s; omega, by show s < _; omega⟩ (fun x hx => hb128 x (List.mem_of_mem_drop hx)) (by rw [List.length_drop]; omega) hho
  rw [recL] at hrec
  simp only [htw]
  rintro _ H62 ⟨a63, c65, rfl, hF62, hx62⟩
  have hwsp := wholeB_spec ⟨ep, s, sz⟩ (bs.drop p) (homeN n sz)
  generalize hWB : wholeB ⟨ep, s, sz⟩ (bs.drop p) (homeN n sz) = WB at *
  obtain ⟨ws, cnt⟩ := WB
  simp only at hF62 hwsp hrec ⊢
  have hs62 := hx62.size
  have hX62 : Ext [] H H62 := hX57.trans hx62
  have hb62 := hb57.ext hx62 (by simp)
  have hseq62 := hseq57.extP hx62.toP (by simp) (by simp)
  refine ⟨a63, _, c65, cnt, rfl, fun hc0 => ?_, fun hc0 => ?_⟩
  · -- no more: home
    rw [if_pos hc0] at hrec
    refine ⟨b21, 0, rfl, ep, hb62.cell 2, ⟨by omega, by omega⟩, b21, 0, rfl, hb62.cells 1 2 (by simp [rcells]), fun H72 hp72 => ?_⟩
    have hb72 := hp72.blk hb62 (by simp [rcells])
    refine ⟨b21, 0, rfl, hb72.cells 1 3 (by simp [rcells, splice]), fun H75 hp75 => ?_⟩
    have hb75 := hp75.blk hb72 (by simp [rcells, splice])
    have hb75' : Blk H75 b21 (rcells pd ⟨ep + 1, 1, sz⟩ 0 a new.length c false) := by simpa [splice, rcells] using hb75
    have hx75 : Ext [b21] H62 H75 := hp72.ext.trans hp75.ext
    have hs75 := hx75.size
    have hX75 : Ext [] H H75 := ext_new hX62 hx75 (fun i hi => by simp only [List.mem_singleton] at hi; omega)
    have hseq75 := hseq62.extP hx75.toP (fun k hk hm => by simp only [List.mem_singleton] at hm; have := hlo k hk; omega) (fun k hk hm => by simp only [List.mem_singleton] at hm; exact hk.2.2 hm)
    have hR75 : RJn H75 (fun k => H.size ≤ k ∧ k < H75.size) b21 pd ⟨⟨ep + 1, 1, sz⟩, 0, t, false⟩ (fun k => H.size ≤ k ∧ k < lo ∧ k ≠ b21) new a c 0 :=
      ⟨hb75', hseq75, hsame, fun _ => rfl, ⟨by omega, by omega⟩, fun k hk => ⟨⟨hk.1, by omega⟩, hk.2.2, fun hm => by have := hlo k hm; omega⟩, fun k hk => ⟨⟨by have := hlo k hk; omega, hseq75.lt k hk⟩, by have := hlo k hk; omega⟩, fun k hk => hk.2⟩
    have hrj : RJD H75 (grow F H H75) b21 pd ⟨⟨ep + 1, 1, sz⟩, 0, t, false⟩ D := ⟨F, _, _, new, a, c, 0, hd.ext hX75.toP (by simp), hR75, fun k hk hk' => by have := hlt k hk; omega, fun k hk => .inl hk, fun k hk => .inr hk, grow_lt hlt (by omega)⟩
    have hjw : (⟨⟨ep + 1, 1, sz⟩, 0, t, false⟩ : Jn).Wf n := ⟨hsz, ⟨by show (0 : Int) ≤ 1; decide, by show (1 : Int) ≤ 1000000000000; decide⟩, ⟨by show 0 ≤ ep + 1; omega, by show ep + 1 ≤ _; omega⟩, ⟨Int.le_refl _, by show 0 ≤ sz; omega⟩, htok⟩
    refine (rgohome_ok hrj hw (by omega) hn hjw).mono ?_
    rintro _ H77 ⟨rfl, hrj77, hx77⟩
    have hs77 := hx77.size
    have hX77 : ExtP F H H77 := grow_step hX75.anyP hx77
    have hrj77' := hrj77.up (F' := grow F H H77) (grow_two (by omega) hs77) (grow_lt hlt (by omega))
    -- the same as the program's
    have hrm : (recoverM n ⟨⟨ep, sq, sz⟩, 0, [], false⟩ D).1 = (homeM n ⟨⟨ep + 1, 1, sz⟩, 0, t, false⟩ D).1 ∧ (recoverM n ⟨⟨ep, sq, sz⟩, 0, [], false⟩ D).2.2 = (homeM n ⟨⟨ep + 1, 1, sz⟩, 0, t, false⟩ D).2.2 ∧
        ((homeM n ⟨⟨ep + 1, 1, sz⟩, 0, t, false⟩ D).2.2 = 0 → (recoverM n ⟨⟨ep, sq, sz⟩, 0, [], false⟩ D).2.1 = (homeM n ⟨⟨ep + 1, 1, sz⟩, 0, t, false⟩ D).2.1) := by
      unfold recoverM
      rw [if_neg (by simp [hdd])]
      simp only
      rw [hjb, hRL, hrec]
      simp only
      unfold homeM
      have hgg : goHomeM n ⟨⟨ep, s, sz⟩, 0, t, false⟩ D = goHomeM n ⟨⟨ep + 1, 1, sz⟩, 0, t, false⟩ D := rfl
      rw [hgg]
      by_cases hg0 : (goHomeM n ⟨⟨ep + 1, 1, sz⟩, 0, t, false⟩ D).2 ≠ 0
      · rw [if_pos hg0, if_pos hg0]
        exact ⟨rfl, rfl, fun h => absurd h hg0⟩
      · rw [if_neg hg0, if_neg hg0]
        obtain ⟨q1, q2, q3⟩ := begin_two n ⟨ep + 1, 1, sz⟩ ⟨⟨ep, s, sz⟩, 0, t, false⟩ ⟨⟨ep + 1, 1, sz⟩, 0, t, false⟩ (goHomeM n ⟨⟨ep + 1, 1, sz⟩, 0, t, false⟩ D).1 rfl
        exact ⟨q1, q2, fun h => q3 (by rw [q2]; exact h)⟩
    have hret : (homeM n ⟨⟨ep + 1, 1, sz⟩, 0, t, false⟩ D).2.2 = 0 ∨ (homeM n ⟨⟨ep + 1, 1, sz⟩, 0, t, false⟩ D).2.2 = 4 := by
      unfold homeM
      split
      · rw [goHome_goL hsame htok.2]
        exact goL_ret _ _ (homeM_valid hjw hsame)
      · exact begin_ret (by omega)
    obtain ⟨m1, m2, m3⟩ := hrm
    refine ⟨_, rfl, fun hf => ?_, fun hf => ?_⟩
    · have hne : (homeM n ⟨⟨ep + 1, 1, sz⟩, 0, t, false⟩ D).2.2 ≠ 0 := by simpa using hf
      have h4 : (homeM n ⟨⟨ep + 1, 1, sz⟩, 0, t, false⟩ D).2.2 = 4 := by omega
      rw [m2, if_pos hne, m1, h4] at hO
      refine ⟨.inl ⟨4, by rw [hO], by decide, rfl, by rw [hO]; exact hrj77'.dev⟩, hX77⟩
    · have h0 : (homeM n ⟨⟨ep + 1, 1, sz⟩, 0, t, false⟩ D).2.2 = 0 := by simpa using hf
      rw [m2, if_neg (by simp [h0]), m1, m3 h0] at hO
      exact ⟨.inr ⟨b21, _, by rw [hO], rfl, by rw [hO]; exact hrj77'⟩, hX77⟩
  · rw [if_neg hc0] at hrec
    obtain ⟨w1, w2, w3, w4⟩ := hwsp.resolve_left hc0
    have hcl : cnt ≤ bs.length - p := by rw [List.length_drop] at w2; omega
    have htq : ∀ q, TOk (tAll t (ws.take q)) (homeN n sz) := fun q => TOk.all _ htok (fun w hw => w3.2.1 w (List.mem_of_mem_take hw))
    have hwl : ws.length ≤ 4096 := w3.few (n := 4096) (by rw [homeN_of hsz]; omega)
    refine ⟨fun i H' => ∃ (q : Nat) (new : List Wr) (a : Option Addr) (c lo : Nat), i = q ∧ q ≤ ws.length ∧ Same (tAll t (ws.take q)) new ∧ Blk H' b21 (rcells pd ⟨ep, s, sz⟩ 0 a new.length c false) ∧ Seq writeE H' (fun k => H.size ≤ k ∧ k < lo ∧ k ≠ b21) a new.length c new ∧ (∀ k ∈ blkOf a, lo ≤ k) ∧ b21 < lo ∧ lo ≤ H'.size ∧ Ext [b21] H62 H',
      fun i _ => ws.length - i.toNat, ⟨0, new, a, c, lo, rfl, by omega, hsame, hb62, hseq62, hlo, hlob, by omega, Ext.refl _ _⟩, ?_⟩
    rintro _ H82 ⟨q, nw, a85, c87, lo2, rfl, hq, hsm2, hb82, hseq82, hlo2, hlob2, hloH2, hx82⟩
    have hs82 := hx82.size
    have hnl2 : nw.length ≤ 4096 := by rw [hsm2.len (htq q).2]; exact (htq q).few (n := 4096) (by rw [homeN_of hsz]; omega)
    refine ⟨fun h4 => ?_, fun h4 => ?_⟩
    · have hi : ws[q]? = some (ws[q]'(by omega)) := List.getElem?_eq_getElem (by omega)
      have hF82 : Seq writeE H82 (fun k => H57.size ≤ k ∧ k < H62.size ∧ k ∉ blkOf a63) a63 ws.length c65 ws := hF62.1.extP hx82.toP (fun k hk hm => by simp only [List.mem_singleton] at hm; have := hF62.2 k hk; omega) (fun k hk hm => by simp only [List.mem_singleton] at hm; omega)
      obtain ⟨bb, oo, v, eaa, hcs, hok, hfp⟩ := hF82.get hi
      have htake : ws.take (q + 1) = ws.take q ++ [ws[q]'(by omega)] := by rw [List.take_add_one, hi]; rfl
      generalize ws[q]'(by omega) = w at *
      have hok' := hok
      obtain ⟨a91, l92, c93, ev, _⟩ := hok
      subst ev
      have hc0 := hcs 0 _ rfl
      have hc1 := hcs 1 _ rfl
      have hsz2 : writeE.sz = 2 := rfl
      rw [hsz2] at hc0 hc1
      have hseqM : Seq writeE H82 (fun k => H.size ≤ k ∧ k < H82.size ∧ k ≠ b21) a85 nw.length c87 nw := hseq82.mono (fun k _ hk => ⟨hk.1, by omega, hk.2.2⟩)
      refine ⟨b21, 0, rfl, a85, _, c87, hb82.cell 5, by omega, h4, bb, oo, eaa, w.1, by rw [Int.toNat_natCast]; exact hc0, a91, l92, c93, by rw [Int.toNat_natCast]; exact hc1, (rput_ok hseqM (by omega) (fun k hk => hk.2.1) hok' (fun k hk => ?_)).mono ?_⟩
      · have := hfp k hk
        exact ⟨by omega, by omega, by omega⟩
      rintro _ H95 ⟨a96, c98, rfl, hseq95, hx95, hf96⟩
      have hs95 := hx95.size
      have hb95 := hb82.ext hx95 (by simp)
      refine ⟨a96, _, c98, rfl, b21, 0, rfl, hb95.cells 1 5 (by simp [rcells]), fun H101 hp101 => ?_⟩
      have hb101 := hp101.blk hb95 (by simp [rcells])
      have hs101 := hp101.size
      refine ⟨⟨by omega, by omega⟩, ⟨q + 1, putM nw w, a96, c98, H82.size, by omega, by omega, ?_, by simpa [splice, rcells] using hb101, hseq95.extP hp101.ext.toP (fun k hk hm => by simp only [List.mem_singleton] at hm; have := hf96 k hk; omega) (fun k hk hm => by simp only [List.mem_singleton] at hm; exact hk.2.2 hm), hf96, by omega, by omega, (hx82.trans hx95.any).trans hp101.ext⟩, by simp only []; omega⟩
      rw [htake, tAll_snoc]
      exact hsm2.put w
    · have hqe : q = ws.length := by omega
      subst hqe
      rw [List.take_length] at hsm2
      have hX82 : Ext [] H H82 := ext_new hX62 hx82 (fun i hi => by simp only [List.mem_singleton] at hi; omega)
      refine ⟨⟨by omega, by omega⟩, b21, 0, rfl, s, hb82.cell 3, ⟨by omega, by omega⟩, b21, 0, rfl, hb82.cells 1 3 (by simp [rcells]), fun H107 hp107 => ?_⟩
      have hb107 := hp107.blk hb82 (by simp [rcells])
      have hs107 := hp107.size
      have htA : TOk (tAll t ws) (homeN n sz) := TOk.all _ htok w3.2.1
      refine ⟨⟨p + cnt.toNat, f', s + 1, tAll t ws, nw, a85, c87, lo2, by omega, by omega, by omega, by omega, by omega, hsm2, htA, by omega, ?_, by simpa [splice, rcells] using hb107, hseq82.extP hp107.ext.toP (fun k hk hm => by simp only [List.mem_singleton] at hm; have := hlo2 k hk; omega) (fun k hk hm => by simp only [List.mem_singleton] at hm; exact hk.2.2 hm), hlo2, hlob2, by omega, ext_new hX82 hp107.ext (fun i hi => by simp only [List.mem_singleton] at hi; omega)⟩, by omega⟩
      rw [hrec, List.drop_drop]
end Go.Proofs
end

section
open Go Go.Vc
namespace Go.Proofs

/-! ### The numbers in a header stay small -/
def HSm (K : Int) (b : Octs) : Prop := numU (b, false) 4 = 1885695604 → (parseH b).seq ≤ K
def HS (K : Int) (D : Dev) : Prop := ∀ b, (D.kept[0]? = some b ∨ ∃ w ∈ D.pend, w.1.toNat = 0 ∧ w.2 = b) → HSm K b

theorem hdrB_sm {K : Int} {h : Hd} (h0 : 0 ≤ h.seq) (h1 : h.seq ≤ K) (h2 : h.seq < 4294967296) : HSm K (hdrB h) := fun _ => by
  rw [(parseH_eq (hdrB_len h)).2.1]
  have e : (hdrB h).drop 8 = beU 4 (w64 h.seq) ++ (beU 4 (w64 h.size) ++ List.replicate 112 0) := by
    unfold hdrB padL
    rw [show beU 4 (w64 1885695604) ++ beU 4 (w64 h.epoch) ++ beU 4 (w64 h.seq) ++ beU 4 (w64 h.size) ++ List.replicate (128 - (beU 4 (w64 1885695604) ++ beU 4 (w64 h.epoch) ++ beU 4 (w64 h.seq) ++ beU 4 (w64 h.size)).length) 0 = (beU 4 (w64 1885695604) ++ beU 4 (w64 h.epoch)) ++ (beU 4 (w64 h.seq) ++ (beU 4 (w64 h.size) ++ List.replicate (128 - (beU 4 (w64 1885695604) ++ beU 4 (w64 h.epoch) ++ beU 4 (w64 h.seq) ++ beU 4 (w64 h.size)).length) 0)) by simp only [List.append_assoc]]
    rw [List.drop_left' (by simp [beU_len])]
    simp [beU_len]
  rw [e, numU4_app h0 h2]
  exact h1
theorem zeros_sm (K : Int) : HSm K zeros := fun h => by
  have : numU (zeros, false) 4 = 0 := by decide +kernel
  rw [this] at h
  exact absurd h (by decide)

theorem HS.up {K K' : Int} {D : Dev} (h : HS K D) (hk : K ≤ K') : HS K' D := fun b hb hm => Int.le_trans (h b hb hm) hk
theorem HS.eq {K : Int} {D D' : Dev} (h : HS K D) (h1 : D'.kept = D.kept) (h2 : D'.pend = D.pend) : HS K D' := fun b hb => h b (by rw [h1, h2] at hb; exact hb)
theorem HS.wk {K : Int} {D : Dev} (h : HS K D) : HS K (wk D).1 := h.eq (wk_kept D).1 (wk_kept D).2
theorem HS.write {K : Int} {D : Dev} (h : HS K D) (n : Nat) {k : Int} {b : Octs} (hb : k.toNat = 0 → HSm K b) : HS K (writeD D n k b).1 := by
  unfold writeD
  split
  · exact h
  · split
    · intro x hx
      simp only [(wk_kept D).1] at hx
      rcases hx with hx | ⟨w, hw, h1, h2⟩
      · exact h x (.inl hx)
      · rcases List.mem_append.1 hw with hw | hw
        · exact h x (.inr ⟨w, hw, h1, h2⟩)
        · simp only [List.mem_singleton] at hw
          subst hw
          simp only at h1 h2
          rw [← h2]; exact hb h1
    · exact h.wk
theorem laid_poss {b : Octs} : ∀ (p : List (Int × Octs)) (K : List Octs), (laid K p)[0]? = some b → K[0]? = some b ∨ ∃ w ∈ p, w.1.toNat = 0 ∧ w.2 = b
  | [], K, h => .inl h
  | w :: p, K, h => by
    have h' : (laid (K.set w.1.toNat w.2) p)[0]? = some b := h
    rcases laid_poss p _ h' with h1 | ⟨x, hx, h2⟩
    · by_cases e : w.1.toNat = 0
      · rw [e] at h1
        cases K with
        | nil => simp at h1
        | cons y ys =>
          simp only [List.set_cons_zero, List.getElem?_cons_zero, Option.some.injEq] at h1
          exact .inr ⟨w, by simp, e, h1⟩
      · rw [List.getElem?_set_ne e] at h1
        exact .inl h1
    · exact .inr ⟨x, by simp [hx], h2⟩
theorem HS.now {K : Int} {D : Dev} (h : HS K D) {b : Octs} (hb : D.now[0]? = some b) : HSm K b := h b (laid_poss D.pend D.kept hb)
theorem HS.flush {K : Int} {D : Dev} (h : HS K D) : HS K (flushD D).1 := by
  unfold flushD
  split
  · intro b hb
    rcases hb with hb | ⟨w, hw, _⟩
    · exact h.now hb
    · simp at hw
  · exact h.wk
theorem HS.crash {K : Int} {D : Dev} (h : HS K D) (ms : Octs) : HS K (crashD D ms) := by
  intro b hb
  rcases hb with hb | ⟨w, hw, _⟩
  · rcases crash_poss ms (i := 0) D.pend 0 D.kept hb with h1 | ⟨w, hw, h1, h2⟩
    · exact h b (.inl h1)
    · exact h b (.inr ⟨w, hw, h1, h2⟩)
  · simp [crashD] at hw
theorem HS.goW {K : Int} {n : Nat} {size : Int} (hs : 0 ≤ size) {t : List Wr} : ∀ (ks : List Int) {D : Dev}, HS K D → (∀ k ∈ ks, 0 ≤ k) → HS K (goW n size t ks D).1
  | [], D, h, _ => h.flush
  | k :: ks, D, h, hk => by
    have hk0 := hk k (by simp)
    have h1 : HS K (writeD D n (1 + size + k) ((tGet t k).getD [])).1 := h.write n (fun e => by omega)
    rw [Go.Proofs.goW]
    split
    · exact h1
    · exact HS.goW hs ks h1 (fun x hx => hk x (by simp [hx]))
theorem HS.goHome {K : Int} {n : Nat} {J : Jn} {D : Dev} (h : HS K D) (hs : 0 ≤ J.h.size) (ht : TOk J.taken (homeN n J.h.size)) : HS K (goHomeM n J D).1 := by
  unfold goHomeM
  refine HS.goW hs _ h (fun k hk => ?_)
  unfold sorted at hk
  rw [List.mem_mergeSort] at hk
  obtain ⟨w, hw, rfl⟩ := List.mem_map.1 hk
  exact (ht.1 w hw).1
theorem HS.begin_ {K : Int} {n : Nat} {h : Hd} {J : Jn} {D : Dev} (hh : HS K D) (h0 : 0 ≤ h.seq) (h1 : h.seq ≤ K) (h2 : h.seq < 4294967296) : HS K (beginM n h J D).1 := by
  have hw : HS K (writeD D n 0 (hdrB h)).1 := hh.write n (fun _ => hdrB_sm h0 h1 h2)
  unfold beginM
  split
  · exact hw
  · split
    · exact hw.flush
    · exact hw.flush
theorem HS.ckpt {K : Int} {n : Nat} {J : Jn} {D : Dev} (hh : HS K D) (hj : J.Wf n) (h1 : J.h.seq ≤ K) (h2 : J.h.seq < 4294967296) : HS K (ckptM n J D).1 := by
  have hsz := hj.size
  unfold ckptM
  split
  · exact hh.flush
  · have hg : HS K (goHomeM n J (flushD D).1).1 := hh.flush.goHome (by omega) hj.took
    split
    · exact hg
    · exact hg.begin_ hj.seq.1 h1 h2
theorem HS.checkpoint {K : Int} {n : Nat} {J : Jn} {D : Dev} (hh : HS K D) (hj : J.Wf n) (h1 : J.h.seq ≤ K) (h2 : J.h.seq < 4294967296) : HS K (checkpointM n J D).1 := by
  unfold checkpointM
  split
  · exact hh
  · exact hh.ckpt hj h1 h2
theorem HS.sync {K : Int} {J : Jn} {D : Dev} (hh : HS K D) : HS K (syncM J D).1 := by
  unfold syncM
  split
  · exact hh
  · exact hh.flush
theorem HS.layW {K : Int} {n : Nat} : ∀ (bs : List Octs) (u : Int) {D : Dev}, HS K D → 0 ≤ u → HS K (layW n bs u D).1
  | [], u, D, h, _ => h
  | b :: r, u, D, h, hu => by
    have h1 : HS K (writeD D n (1 + u) b).1 := h.write n (fun e => by omega)
    rw [Go.Proofs.layW]
    split
    · exact h1
    · exact HS.layW r (u + 1) h1 (by omega)
theorem HS.lay {K : Int} {n : Nat} {l : List Wr} {J : Jn} {D : Dev} (h : HS K D) (hu : 0 ≤ J.used) : HS K (layM n l J D).1 := by
  unfold layM
  simp only
  split
  · exact HS.layW _ _ h hu
  · exact HS.layW _ _ h hu
theorem lay_seq {n : Nat} {l : List Wr} {J : Jn} {D : Dev} : (layM n l J D).2.1.h.seq ≤ J.h.seq + 1 := by
  unfold layM
  simp only
  split <;> simp only <;> omega
theorem HS.commit {K : Int} {n : Nat} {l : List Wr} {J : Jn} {D : Dev} (hh : HS K D) (hj : J.Wf n) (h1 : J.h.seq ≤ K) (h2 : J.h.seq < 4294967296) : HS K (commitM n l J D).1 ∧ (commitM n l J D).2.1.h.seq ≤ J.h.seq + 1 := by
  have hck := hh.checkpoint hj h1 h2
  have hckh := checkpoint_h (n := n) (J := J) (D := D)
  unfold commitM
  split
  · exact ⟨hh, by show J.h.seq ≤ _; omega⟩
  split
  · exact ⟨hh, by show J.h.seq ≤ _; omega⟩
  split
  · exact ⟨hh, by show J.h.seq ≤ _; omega⟩
  split
  · split
    · exact ⟨hck, by rw [hckh]; omega⟩
    · have hl : (layE n l (checkpointM n J D).2.1 (checkpointM n J D).1).2.1.h.seq = (layM n l (checkpointM n J D).2.1 (checkpointM n J D).1).2.1.h.seq := rfl
      refine ⟨HS.lay hck (checkpoint_jwf hj).used.1, ?_⟩
      rw [hl]
      have := lay_seq (n := n) (l := l) (J := (checkpointM n J D).2.1) (D := (checkpointM n J D).1)
      rw [hckh] at this
      exact this
  · exact ⟨HS.lay hh hj.used.1, lay_seq⟩
theorem HS.fmtW {K : Int} {n : Nat} : ∀ (m : Nat) (k : Int) {D : Dev}, HS K D → 0 ≤ k → HS K (fmtW n m k D).1
  | 0, k, D, h, _ => h
  | m + 1, k, D, h, hk => by
    have h1 : HS K (writeD D n (1 + k) zeros).1 := h.write n (fun e => by omega)
    rw [Go.Proofs.fmtW]
    split
    · exact h1
    · exact HS.fmtW m (k + 1) h1 (by omega)
theorem HS.format {K : Int} {n : Nat} {size : Int} {D : Dev} (h : HS K D) (hK : 1 ≤ K) : HS K (formatM n size D).1 := by
  unfold formatM
  split
  · exact h
  · have h1 := HS.fmtW (n := n) size.toNat 0 h (Int.le_refl _)
    have h2 : HS K (writeD (Go.Proofs.fmtW n size.toNat 0 D).1 n 0 (hdrB ⟨1, 1, size⟩)).1 := h1.write n (fun _ => hdrB_sm (by show (0 : Int) ≤ 1; decide) hK (by show (1 : Int) < 4294967296; decide))
    simp only
    split
    · exact h1
    · split
      · exact h2
      · exact h2.flush
theorem HS.read {K : Int} {n : Nat} {D : Dev} (h : HS K D) (hr : (readM n D).2 = 0) : (readM n D).1.seq ≤ K := by
  obtain ⟨_, e1, e2, _⟩ := readM_ok hr
  rw [e1] at e2
  have hl : (D.now[0]?.getD []).length = 128 := by rw [← e2]; exact hdrB_len _
  cases hb : D.now[0]? with
  | none => rw [hb] at hl; simp at hl
  | some b =>
    rw [hb] at e1 e2 hl
    simp only [Option.getD_some] at e1 e2 hl
    rw [e1]
    exact h.now hb ((hdrB_iff hl).1 e2).1
theorem HS.open_ {K : Int} {n : Nat} {D : Dev} (h : HS K D) (hK : 1 ≤ K) : HS K (openM n D).1 := by
  unfold openM
  split
  · exact h
  · rename_i h0
    have h0' : (readM n D).2 = 0 := by simpa using h0
    obtain ⟨hdd, _, _, z0, z1, _⟩ := readM_ok h0'
    generalize (readM n D).1 = hd at *
    have hrec : HS K (recoverM n ⟨hd, 0, [], false⟩ D).1 := by
      unfold recoverM
      rw [if_neg (by simp [hdd])]
      have ht := recL_tok (homes := homeN n hd.size) ((jblocks D hd.size).length + 1) hd (jblocks D hd.size) [] (TOk.nil _)
      simp only
      generalize recL ((jblocks D hd.size).length + 1) hd (jblocks D hd.size) [] (homeN n hd.size) = r at *
      have hg : HS K (goHomeM n ⟨r.1, 0, r.2, false⟩ D).1 := h.goHome (by show 0 ≤ r.1.size; rw [ht.2.1]; omega) (by show TOk r.2 (homeN n r.1.size); rw [ht.2.1]; exact ht.1)
      split
      · exact hg
      · exact hg.begin_ (by show (0 : Int) ≤ 1; decide) hK (by show (1 : Int) < 4294967296; decide)
    simp only
    split
    · exact hrec
    · exact hrec
/-- The journal that an opening gives. -/
theorem open_jn {n : Nat} {D : Dev} {J : Jn} (h : (openM n D).2.1 = some J) : J.Wf n ∧ J.h.seq = 1 := by
  unfold openM at h
  split at h
  · cases h
  · rename_i h0
    have h0' : (readM n D).2 = 0 := by simpa using h0
    obtain ⟨hdd, _, _, z0, z1, s0, s1, p0, p1⟩ := readM_ok h0'
    generalize (readM n D).1 = hd at *
    simp only at h
    split at h
    · cases h
    · rename_i h2
      simp only [Option.some.injEq] at h
      have h2' : (recoverM n ⟨hd, 0, [], false⟩ D).2.2 = 0 := by simpa using h2
      unfold recoverM at h h2'
      rw [if_neg (by simp [hdd])] at h h2'
      have ht := recL_tok (homes := homeN n hd.size) ((jblocks D hd.size).length + 1) hd (jblocks D hd.size) [] (TOk.nil _)
      simp only at h h2'
      generalize recL ((jblocks D hd.size).length + 1) hd (jblocks D hd.size) [] (homeN n hd.size) = r at *
      split at h
      · rename_i hb
        rw [if_pos hb] at h2'
        exact absurd h2' hb
      · rename_i hb
        rw [if_neg hb] at h2'
        unfold beginM at h h2'
        split at h
        · rename_i hb1; rw [if_pos hb1] at h2'; exact absurd h2' hb1
        · rename_i hb1
          rw [if_neg hb1] at h2'
          split at h
          · rename_i hb2; rw [if_pos hb2] at h2'; exact absurd h2' hb2
          · simp only at h
            subst h
            have e1 := ht.2.1
            have e2 := ht.2.2.1
            exact ⟨⟨by simp only; omega, ⟨by simp, by simp⟩, by simp only; omega, by simp only; omega, TOk.nil _⟩, rfl⟩
theorem sync_h {J : Jn} {D : Dev} : (syncM J D).2.1.h = J.h := by unfold syncM; split <;> rfl
theorem new_hs (K : Int) (n : Nat) : HS K (newD n) := fun b hb => by
  rcases hb with hb | ⟨w, hw, _⟩
  · have : b = zeros := List.eq_of_mem_replicate (List.mem_of_getElem? hb)
    rw [this]; exact zeros_sm K
  · simp [newD] at hw
end Go.Proofs
end

section
open Go Go.Vc
namespace Go.Proofs
set_option maxRecDepth 100000
/-- pentimento/pentimentolaw5.same -/
theorem vcl_same2 (x0 : Option Addr) (x1 : Option Addr) (x2 : Option Addr) (x3 : Option Addr) (H : Heap) (R : Value → Heap → Prop) : Walk Tryz.prog 25 [(3, [])] [(.pointer x0), (.pointer x1), (.pointer x2), (.pointer x3)] H R = (
  ∃ I1 : Heap → Prop, (
    ∃ b2 o3 : Nat, x1 = some (⟨b2, o3, none⟩ : Addr) ∧ (
      ∃ t4 : Bool, hcell H b2 (o3 + 6) = some (.bool t4) ∧ (
        Does Tryz.prog 58 [(.pointer x0)] H fun v5 H6 => ∃ t7 : Bool, v5 = (.bool t7) ∧ (
          isL H6 b2 (o3 + 6) [(.bool t4)] ∧ ((((¬ ((t7 = true) ↔ (t4 = true))) → (
                  R (.bool false) H6)) ∧ (¬ (¬ ((t7 = true) ↔ (t4 = true))) → (
                  ∃ b8 o9 : Nat, x1 = some (⟨b8, o9, none⟩ : Addr) ∧ (
                    ∃ t10 : Bool, hcell H6 b8 (o9 + 6) = some (.bool t10) ∧ (
                      (((t10 = false) → (
                            Does Tryz.prog 32 [(.pointer x0)] H6 fun v11 H12 => ∃ n13 : Int, v11 = (.int .i64 n13) ∧ (
                              (Does Tryz.prog 56 [(.pointer x1)] H12 fun v14 H15 => ∃ n16 : Int, v14 = (.int .i64 n16) ∧ (
                                  (((((n13 : Int) ≠ n16) → (
                                          R (.bool false) H15)) ∧ (¬ ((n13 : Int) ≠ n16) → (
                                          ∃ b17 o18 : Nat, x3 = some (⟨b17, o18, none⟩ : Addr) ∧ (
                                            ∃ n19 : Int, hcell H15 b17 (o18 + 4) = some (.int .i64 n19) ∧ (
                                              Does Tryz.prog 59 [(.pointer x2)] H15 fun v20 H21 => ∃ n22 : Int, v20 = (.int .i64 n22) ∧ (
                                                isL H21 b17 (o18 + 4) [(.int .i64 n19)] ∧ (((((n22 : Int) ≠ n19) → (
                                                        R (.bool false) H21)) ∧ (¬ ((n22 : Int) ≠ n19) → (
                                                        ∃ b23 o24 : Nat, x3 = some (⟨b23, o24, none⟩ : Addr) ∧ (
                                                          ∃ a25 : Option Addr, ∃ l26 : Nat, ∃ c27 : Nat, hcell H21 b23 (o24 + 1) = some (.slice a25 l26 c27) ∧ (
                                                            Does Tryz.prog 60 [(.pointer x2)] H21 fun v28 H29 => ∃ n30 : Int, v28 = (.int .i64 n30) ∧ (
                                                            isL H29 b23 (o24 + 1) [(.slice a25 l26 c27)] ∧ (((((n30 : Int) ≠ (l26 : Int)) → (
                                                            R (.bool false) H29)) ∧ (¬ ((n30 : Int) ≠ (l26 : Int)) → (
                                                            Does Tryz.prog 31 [(.pointer x0)] H29 fun v31 H32 => ∃ n33 : Int, v31 = (.int .i64 n33) ∧ (
                                                            (Does Tryz.prog 22 [(.pointer x1)] H32 fun v34 H35 => ∃ n36 : Int, v34 = (.int .i64 n36) ∧ (
                                                            (((((n33 : Int) ≠ n36) → (
                                                            R (.bool false) H35)) ∧ (¬ ((n33 : Int) ≠ n36) → (
                                                            I1 H35)))))))))))))))))))))))))))))) ∧ (¬ (t10 = false) → (
                            ∃ b37 o38 : Nat, x3 = some (⟨b37, o38, none⟩ : Addr) ∧ (
                              ∃ n39 : Int, hcell H6 b37 (o38 + 4) = some (.int .i64 n39) ∧ (
                                Does Tryz.prog 59 [(.pointer x2)] H6 fun v40 H41 => ∃ n42 : Int, v40 = (.int .i64 n42) ∧ (
                                  isL H41 b37 (o38 + 4) [(.int .i64 n39)] ∧ (((((n42 : Int) ≠ n39) → (
                                          R (.bool false) H41)) ∧ (¬ ((n42 : Int) ≠ n39) → (
                                          ∃ b43 o44 : Nat, x3 = some (⟨b43, o44, none⟩ : Addr) ∧ (
                                            ∃ a45 : Option Addr, ∃ l46 : Nat, ∃ c47 : Nat, hcell H41 b43 (o44 + 1) = some (.slice a45 l46 c47) ∧ (
                                              Does Tryz.prog 60 [(.pointer x2)] H41 fun v48 H49 => ∃ n50 : Int, v48 = (.int .i64 n50) ∧ (
                                                isL H49 b43 (o44 + 1) [(.slice a45 l46 c47)] ∧ (((((n50 : Int) ≠ (l46 : Int)) → (
                                                        R (.bool false) H49)) ∧ (¬ ((n50 : Int) ≠ (l46 : Int)) → (
                                                        Does Tryz.prog 31 [(.pointer x0)] H49 fun v51 H52 => ∃ n53 : Int, v51 = (.int .i64 n53) ∧ (
                                                          (Does Tryz.prog 22 [(.pointer x1)] H52 fun v54 H55 => ∃ n56 : Int, v54 = (.int .i64 n56) ∧ (
                                                            (((((n53 : Int) ≠ n56) → (
                                                            R (.bool false) H55)) ∧ (¬ ((n53 : Int) ≠ n56) → (
                                                            I1 H55)))))))))))))))))))))))))))))))))) ∧
  ∀ H57 : Heap, I1 H57 → (
    ∃ I58 : Int → Heap → Prop, ∃ μ59 : Int → Heap → Nat, (I58 0 H57) ∧
    ∀ n60 : Int, ∀ H61 : Heap, I58 n60 H61 → (
      ∃ b62 o63 : Nat, x3 = some (⟨b62, o63, none⟩ : Addr) ∧ (
        ∃ a64 : Option Addr, ∃ l65 : Nat, ∃ c66 : Nat, hcell H61 b62 o63 = some (.slice a64 l65 c66) ∧ (
          ((((n60 : Int) < (l65 : Int)) → (
                Does Tryz.prog 61 [(.pointer x2), (.int .i64 n60)] H61 fun v67 H68 => ∃ a69 : Option Addr, ∃ l70 : Nat, ∃ c71 : Nat, ∃ n72 : Int, v67 = (.tuple #[(.slice a69 l70 c71), (.int .i64 n72)]) ∧ (
                  Does Tryz.prog 36 [(.pointer x3), (.int .i64 n60)] H68 fun v73 H74 => ∃ a75 : Option Addr, ∃ l76 : Nat, ∃ c77 : Nat, ∃ n78 : Int, v73 = (.tuple #[(.slice a75 l76 c77), (.int .i64 n78)]) ∧ (
                    ((((n72 : Int) ≠ n78) → (
                          R (.bool false) H74)) ∧ (¬ ((n72 : Int) ≠ n78) → (
                          ∃ l79 : List UInt8, SRow H74 1 l70 (.slice a69 l70 c71) (List.map (fun (b : UInt8) => Value.int .u8 b.toNat) l79) ∧ (
                            ∃ l80 : List UInt8, SRow H74 1 l76 (.slice a75 l76 c77) (List.map (fun (b : UInt8) => Value.int .u8 b.toNat) l80) ∧ (
                              (((((ByteArray.mk (List.toArray l79)) : ByteArray) ≠ (ByteArray.mk (List.toArray l80))) → (
                                    R (.bool false) H74)) ∧ (¬ (((ByteArray.mk (List.toArray l79)) : ByteArray) ≠ (ByteArray.mk (List.toArray l80))) → (
                                    (In64 (n60 + 1)) ∧
                                    (I58 (n60 + 1) H74) ∧ μ59 (n60 + 1) H74 < μ59 n60 H61)))))))))))) ∧ (¬ ((n60 : Int) < (l65 : Int)) → (
                R (.bool true) H61)))))))) := by kernel_rfl


/-- pentimento/pentimentolaw5.JournalPlays -/
theorem vcl_plays (x0 : Int) (x1 : Int) (x2 : Option Addr) (x2l : Nat) (x2c : Nat) (H : Heap) (R : Value → Heap → Prop) : Walk Tryz.prog 3 [(5, [(0, (.int .i64 0))]), (26, []), (29, []), (32, []), (44, [(7, (.pointer none)), (10, (.pointer none)), (14, (.bool false))])] [(.int .i64 x0), (.int .i64 x1), (.slice x2 x2l x2c)] H R = (
  Does Tryz.prog 4 [(.int .i64 x1), (.int .i64 14)] H fun v1 H2 => ∃ n3 : Int, v1 = (.int .i64 n3) ∧ (
    (In64 (4 + n3)) ∧
    (In64 ((4 + n3) + 4)) ∧
    Does Tryz.prog 4 [(.int .i64 x0), (.int .i64 10)] H2 fun v4 H5 => ∃ n6 : Int, v4 = (.int .i64 n6) ∧ (
      (In64 (((4 + n3) + 4) + n6)) ∧
      ∃ I7 : Int → Heap → Prop, (
        (((((((4 + n3) + 4) + n6) : Int) < 8) → (
              I7 8 H5)) ∧ (¬ (((((4 + n3) + 4) + n6) : Int) < 8) → (
              I7 (((4 + n3) + 4) + n6) H5)))) ∧
      ∀ n8 : Int, ∀ H9 : Heap, I7 n8 H9 → (
        Does Tryz.prog 5 [(.int .i64 n8), (.int .i64 (4 + n3))] H9 fun v10 H11 => ∃ p12 : Option Addr, ∃ p13 : Option Addr, v10 = (.tuple #[(.pointer p12), (.pointer p13)]) ∧ (
          Does Tryz.prog 6 [] H11 fun v14 H15 => ∃ t16 : Bool, v14 = (.bool t16) ∧ (
            (((t16 = false) → (
                  R (.bool false) H15)) ∧ (¬ (t16 = false) → (
                  ((((p12 : Option Addr) = none) → (
                        R (.bool false) H15)) ∧ (¬ ((p12 : Option Addr) = none) → (
                        ((((p13 : Option Addr) = none) → (
                              R (.bool false) H15)) ∧ (¬ ((p13 : Option Addr) = none) → (
                              Does Tryz.prog 7 [(.int .i64 n8)] H15 fun v17 H18 => ∃ p19 : Option Addr, v17 = (.pointer p19) ∧ (
                                Does Tryz.prog 8 [(.pointer p19), (.int .i64 (4 + n3))] H18 fun v20 H21 => ∃ n22 : Int, v20 = (.int .i64 n22) ∧ (
                                  Does Tryz.prog 9 [(.pointer p19)] H21 fun v23 H24 => ∃ p25 : Option Addr, ∃ n26 : Int, v23 = (.tuple #[(.pointer p25), (.int .i64 n26)]) ∧ (
                                    ∃ I27 : Option Addr → Option Addr → Int → Heap → Prop, ∃ μ28 : Option Addr → Option Addr → Int → Heap → Nat, (I27 p12 p25 0 H24) ∧
                                    ∀ p29 : Option Addr, ∀ p30 : Option Addr, ∀ n31 : Int, ∀ H32 : Heap, I27 p29 p30 n31 H32 → (
                                      ((((n31 : Int) < (x2l : Int)) → (
                                            ((((n31 : Int) < 30) → (
                                                  (0 : Int) ≤ n31 ∧ (n31 : Int) < (x2l : Int) ∧ ∃ b33 o34 : Nat, x2 = some (⟨b33, o34, none⟩ : Addr) ∧ (
                                                    ∃ n35 : Int, hcell H32 b33 (o34 + (Int.toNat n31) * 4) = some (.int .i64 n35) ∧ (
                                                      ∃ n36 : Int, hcell H32 b33 ((o34 + (Int.toNat n31) * 4) + 1) = some (.int .i64 n36) ∧ (
                                                        ∃ a37 : Option Addr, ∃ l38 : Nat, ∃ c39 : Nat, hcell H32 b33 (((o34 + (Int.toNat n31) * 4) + 1) + 1) = some (.slice a37 l38 c39) ∧ (
                                                          ∃ a40 : Option Addr, ∃ l41 : Nat, ∃ c42 : Nat, hcell H32 b33 ((((o34 + (Int.toNat n31) * 4) + 1) + 1) + 1) = some (.slice a40 l41 c42) ∧ (
                                                            ∀ b43 : Nat, ∀ H44 : Heap, New H32 b43 [(.int .i64 0), (.int .i64 0), (.slice none 0 0), (.slice none 0 0)] 39 H44 → (
                                                            Cells H44 b43 0 4 ∧ ∀ H45 : Heap, Puts H44 b43 0 [(.int .i64 n35), (.int .i64 n36), (.slice a37 l38 c39), (.slice a40 l41 c42)] H45 → (
                                                            ∃ I46 : Option Addr → Option Addr → Bool → Heap → Prop, (
                                                            ∃ n47 : Int, hcell H45 b43 0 = some (.int .i64 n47) ∧ (
                                                            Does Tryz.prog 4 [(.int .i64 n47), (.int .i64 12)] H45 fun v48 H49 => ∃ n50 : Int, v48 = (.int .i64 n50) ∧ (
                                                            ((((n50 : Int) = 6) → (
                                                            Does Tryz.prog 10 [(.pointer p29)] H49 fun v51 H52 => ∃ n53 : Int, v51 = (.int .i64 n53) ∧ (
                                                            Does Tryz.prog 11 [(.pointer p30)] H52 fun v54 H55 => ∃ n56 : Int, v54 = (.int .i64 n56) ∧ (
                                                            I46 p29 p30 (@decide ((n53 : Int) = n56) (Classical.propDecidable _)) H55)))) ∧ (¬ ((n50 : Int) = 6) → (
                                                            ((((n50 : Int) = 7) → (
                                                            Does Tryz.prog 12 [(.pointer p29)] H49 fun v57 H58 => ∃ n59 : Int, v57 = (.int .i64 n59) ∧ (
                                                            Does Tryz.prog 13 [(.pointer p30)] H58 fun v60 H61 => ∃ n62 : Int, v60 = (.int .i64 n62) ∧ (
                                                            I46 p29 p30 (@decide ((n59 : Int) = n62) (Classical.propDecidable _)) H61)))) ∧ (¬ ((n50 : Int) = 7) → (
                                                            ((((n50 : Int) = 8) → (
                                                            ((((n50 : Int) = 8) → (
                                                            ∃ I63 : Heap → Prop, (
                                                            ∃ n64 : Int, hcell H49 b43 0 = some (.int .i64 n64) ∧ (
                                                            Does Tryz.prog 4 [(.int .i64 n64), (.int .i64 12)] H49 fun v65 H66 => ∃ n67 : Int, v65 = (.int .i64 n67) ∧ (
                                                            ((((n67 : Int) ≠ 9) → (
                                                            ∃ a68 : Option Addr, ∃ l69 : Nat, ∃ c70 : Nat, hcell H66 b43 (0 + 3) = some (.slice a68 l69 c70) ∧ (
                                                            Does Tryz.prog 15 [(.pointer p13), (.slice a68 l69 c70)] H66 fun v71 H72 => v71 = (.tuple #[]) ∧ (
                                                            ∃ a73 : Option Addr, ∃ l74 : Nat, ∃ c75 : Nat, hcell H72 b43 (0 + 3) = some (.slice a73 l74 c75) ∧ (
                                                            Does Tryz.prog 16 [(.pointer p19), (.slice a73 l74 c75)] H72 fun v76 H77 => v76 = (.tuple #[]) ∧ (
                                                            I63 H77)))))) ∧ (¬ ((n67 : Int) ≠ 9) → (
                                                            Does Tryz.prog 14 [(.pointer p13)] H66 fun v78 H79 => ∃ t80 : Bool, v78 = (.bool t80) ∧ (
                                                            ((t80 = true → (
                                                            ∃ a81 : Option Addr, ∃ l82 : Nat, ∃ c83 : Nat, hcell H79 b43 (0 + 3) = some (.slice a81 l82 c83) ∧ (
                                                            Does Tryz.prog 15 [(.pointer p13), (.slice a81 l82 c83)] H79 fun v84 H85 => v84 = (.tuple #[]) ∧ (
                                                            ∃ a86 : Option Addr, ∃ l87 : Nat, ∃ c88 : Nat, hcell H85 b43 (0 + 3) = some (.slice a86 l87 c88) ∧ (
                                                            Does Tryz.prog 16 [(.pointer p19), (.slice a86 l87 c88)] H85 fun v89 H90 => v89 = (.tuple #[]) ∧ (
                                                            I63 H90)))))) ∧ (t80 = false → (
                                                            I63 H79)))))))))) ∧
                                                            ∀ H91 : Heap, I63 H91 → (
                                                            ∃ I92 : Heap → Prop, (
                                                            ∃ n93 : Int, hcell H91 b43 0 = some (.int .i64 n93) ∧ (
                                                            Does Tryz.prog 4 [(.int .i64 n93), (.int .i64 12)] H91 fun v94 H95 => ∃ n96 : Int, v94 = (.int .i64 n96) ∧ (
                                                            ((((n96 : Int) = 11) → (
                                                            Does Tryz.prog 17 [(.pointer p13), (.int .i64 (4 + n3))] H95 fun v97 H98 => ∃ n99 : Int, v97 = (.int .i64 n99) ∧ (
                                                            Does Tryz.prog 8 [(.pointer p19), (.int .i64 (4 + n3))] H98 fun v100 H101 => ∃ n102 : Int, v100 = (.int .i64 n102) ∧ (
                                                            ((((n99 : Int) ≠ n102) → (
                                                            R (.bool false) H101)) ∧ (¬ ((n99 : Int) ≠ n102) → (
                                                            I92 H101))))))) ∧ (¬ ((n96 : Int) = 11) → (
                                                            I92 H95)))))) ∧
                                                            ∀ H103 : Heap, I92 H103 → (
                                                            Does Tryz.prog 18 [(.pointer p13)] H103 fun v104 H105 => ∃ p106 : Option Addr, ∃ n107 : Int, v104 = (.tuple #[(.pointer p106), (.int .i64 n107)]) ∧ (
                                                            Does Tryz.prog 9 [(.pointer p19)] H105 fun v108 H109 => ∃ p110 : Option Addr, ∃ n111 : Int, v108 = (.tuple #[(.pointer p110), (.int .i64 n111)]) ∧ (
                                                            ((((n107 : Int) ≠ n111) → (
                                                            R (.bool false) H109)) ∧ (¬ ((n107 : Int) ≠ n111) → (
                                                            ((((n111 : Int) ≠ 0) → (
                                                            R (.bool true) H109)) ∧ (¬ ((n111 : Int) ≠ 0) → (
                                                            I46 p106 p110 true H109)))))))))))) ∧ (¬ ((n50 : Int) = 8) → (
                                                            ((((n50 : Int) = 10) → (
                                                            ∃ n112 : Int, hcell H49 b43 (0 + 1) = some (.int .i64 n112) ∧ (
                                                            Does Tryz.prog 4 [(.int .i64 n112), (.int .i64 14)] H49 fun v113 H114 => ∃ n115 : Int, v113 = (.int .i64 n115) ∧ (
                                                            (In64 (n115 - 1)) ∧
                                                            Does Tryz.prog 19 [(.pointer p13), (.int .i64 (n115 - 1))] H114 fun v116 H117 => v116 = (.tuple #[]) ∧ (
                                                            Does Tryz.prog 20 [(.pointer p19), (.int .i64 (n115 - 1))] H117 fun v118 H119 => v118 = (.tuple #[]) ∧ (
                                                            I46 p29 p30 true H119)))))) ∧ (¬ ((n50 : Int) = 10) → (
                                                            ∃ n120 : Int, hcell H49 b43 0 = some (.int .i64 n120) ∧ (
                                                            ∃ n121 : Int, hcell H49 b43 (0 + 1) = some (.int .i64 n121) ∧ (
                                                            ∃ a122 : Option Addr, ∃ l123 : Nat, ∃ c124 : Nat, hcell H49 b43 ((0 + 1) + 1) = some (.slice a122 l123 c124) ∧ (
                                                            ∃ a125 : Option Addr, ∃ l126 : Nat, ∃ c127 : Nat, hcell H49 b43 (((0 + 1) + 1) + 1) = some (.slice a125 l126 c127) ∧ (
                                                            Does Tryz.prog 22 [(.pointer p30)] H49 fun v128 H129 => ∃ n130 : Int, v128 = (.int .i64 n130) ∧ (
                                                            isL H129 b43 0 [(.int .i64 n120), (.int .i64 n121), (.slice a122 l123 c124), (.slice a125 l126 c127)] ∧ (Does Tryz.prog 21 [(.agg #[(.int .i64 n120), (.int .i64 n121), (.slice a122 l123 c124), (.slice a125 l126 c127)]), (.int .i64 n130), (.int .i64 6)] H129 fun v131 H132 => ∃ a133 : Option Addr, ∃ l134 : Nat, ∃ c135 : Nat, ∃ a136 : Option Addr, ∃ l137 : Nat, ∃ c138 : Nat, v131 = (.tuple #[(.slice a133 l134 c135), (.slice a136 l137 c138)]) ∧ (
                                                            (Does Tryz.prog 23 [(.pointer p29), (.slice a133 l134 c135)] H132 fun v139 H140 => ∃ n141 : Int, v139 = (.int .i64 n141) ∧ (
                                                            Does Tryz.prog 24 [(.pointer p30), (.slice a136 l137 c138)] H140 fun v142 H143 => ∃ n144 : Int, v142 = (.int .i64 n144) ∧ (
                                                            I46 p29 p30 (@decide ((n141 : Int) = n144) (Classical.propDecidable _)) H143)))))))))))))))))) ∧ (¬ ((n50 : Int) = 8) → (
                                                            ((((n50 : Int) = 9) → (
                                                            ((((n50 : Int) = 9) → (
                                                            ∃ I145 : Heap → Prop, (
                                                            ∃ n146 : Int, hcell H49 b43 0 = some (.int .i64 n146) ∧ (
                                                            Does Tryz.prog 4 [(.int .i64 n146), (.int .i64 12)] H49 fun v147 H148 => ∃ n149 : Int, v147 = (.int .i64 n149) ∧ (
                                                            ((((n149 : Int) ≠ 9) → (
                                                            ∃ a150 : Option Addr, ∃ l151 : Nat, ∃ c152 : Nat, hcell H148 b43 (0 + 3) = some (.slice a150 l151 c152) ∧ (
                                                            Does Tryz.prog 15 [(.pointer p13), (.slice a150 l151 c152)] H148 fun v153 H154 => v153 = (.tuple #[]) ∧ (
                                                            ∃ a155 : Option Addr, ∃ l156 : Nat, ∃ c157 : Nat, hcell H154 b43 (0 + 3) = some (.slice a155 l156 c157) ∧ (
                                                            Does Tryz.prog 16 [(.pointer p19), (.slice a155 l156 c157)] H154 fun v158 H159 => v158 = (.tuple #[]) ∧ (
                                                            I145 H159)))))) ∧ (¬ ((n149 : Int) ≠ 9) → (
                                                            Does Tryz.prog 14 [(.pointer p13)] H148 fun v160 H161 => ∃ t162 : Bool, v160 = (.bool t162) ∧ (
                                                            ((t162 = true → (
                                                            ∃ a163 : Option Addr, ∃ l164 : Nat, ∃ c165 : Nat, hcell H161 b43 (0 + 3) = some (.slice a163 l164 c165) ∧ (
                                                            Does Tryz.prog 15 [(.pointer p13), (.slice a163 l164 c165)] H161 fun v166 H167 => v166 = (.tuple #[]) ∧ (
                                                            ∃ a168 : Option Addr, ∃ l169 : Nat, ∃ c170 : Nat, hcell H167 b43 (0 + 3) = some (.slice a168 l169 c170) ∧ (
                                                            Does Tryz.prog 16 [(.pointer p19), (.slice a168 l169 c170)] H167 fun v171 H172 => v171 = (.tuple #[]) ∧ (
                                                            I145 H172)))))) ∧ (t162 = false → (
                                                            I145 H161)))))))))) ∧
                                                            ∀ H173 : Heap, I145 H173 → (
                                                            ∃ I174 : Heap → Prop, (
                                                            ∃ n175 : Int, hcell H173 b43 0 = some (.int .i64 n175) ∧ (
                                                            Does Tryz.prog 4 [(.int .i64 n175), (.int .i64 12)] H173 fun v176 H177 => ∃ n178 : Int, v176 = (.int .i64 n178) ∧ (
                                                            ((((n178 : Int) = 11) → (
                                                            Does Tryz.prog 17 [(.pointer p13), (.int .i64 (4 + n3))] H177 fun v179 H180 => ∃ n181 : Int, v179 = (.int .i64 n181) ∧ (
                                                            Does Tryz.prog 8 [(.pointer p19), (.int .i64 (4 + n3))] H180 fun v182 H183 => ∃ n184 : Int, v182 = (.int .i64 n184) ∧ (
                                                            ((((n181 : Int) ≠ n184) → (
                                                            R (.bool false) H183)) ∧ (¬ ((n181 : Int) ≠ n184) → (
                                                            I174 H183))))))) ∧ (¬ ((n178 : Int) = 11) → (
                                                            I174 H177)))))) ∧
                                                            ∀ H185 : Heap, I174 H185 → (
                                                            Does Tryz.prog 18 [(.pointer p13)] H185 fun v186 H187 => ∃ p188 : Option Addr, ∃ n189 : Int, v186 = (.tuple #[(.pointer p188), (.int .i64 n189)]) ∧ (
                                                            Does Tryz.prog 9 [(.pointer p19)] H187 fun v190 H191 => ∃ p192 : Option Addr, ∃ n193 : Int, v190 = (.tuple #[(.pointer p192), (.int .i64 n193)]) ∧ (
                                                            ((((n189 : Int) ≠ n193) → (
                                                            R (.bool false) H191)) ∧ (¬ ((n189 : Int) ≠ n193) → (
                                                            ((((n193 : Int) ≠ 0) → (
                                                            R (.bool true) H191)) ∧ (¬ ((n193 : Int) ≠ 0) → (
                                                            I46 p188 p192 true H191)))))))))))) ∧ (¬ ((n50 : Int) = 9) → (
                                                            ((((n50 : Int) = 10) → (
                                                            ∃ n194 : Int, hcell H49 b43 (0 + 1) = some (.int .i64 n194) ∧ (
                                                            Does Tryz.prog 4 [(.int .i64 n194), (.int .i64 14)] H49 fun v195 H196 => ∃ n197 : Int, v195 = (.int .i64 n197) ∧ (
                                                            (In64 (n197 - 1)) ∧
                                                            Does Tryz.prog 19 [(.pointer p13), (.int .i64 (n197 - 1))] H196 fun v198 H199 => v198 = (.tuple #[]) ∧ (
                                                            Does Tryz.prog 20 [(.pointer p19), (.int .i64 (n197 - 1))] H199 fun v200 H201 => v200 = (.tuple #[]) ∧ (
                                                            I46 p29 p30 true H201)))))) ∧ (¬ ((n50 : Int) = 10) → (
                                                            ∃ n202 : Int, hcell H49 b43 0 = some (.int .i64 n202) ∧ (
                                                            ∃ n203 : Int, hcell H49 b43 (0 + 1) = some (.int .i64 n203) ∧ (
                                                            ∃ a204 : Option Addr, ∃ l205 : Nat, ∃ c206 : Nat, hcell H49 b43 ((0 + 1) + 1) = some (.slice a204 l205 c206) ∧ (
                                                            ∃ a207 : Option Addr, ∃ l208 : Nat, ∃ c209 : Nat, hcell H49 b43 (((0 + 1) + 1) + 1) = some (.slice a207 l208 c209) ∧ (
                                                            Does Tryz.prog 22 [(.pointer p30)] H49 fun v210 H211 => ∃ n212 : Int, v210 = (.int .i64 n212) ∧ (
                                                            isL H211 b43 0 [(.int .i64 n202), (.int .i64 n203), (.slice a204 l205 c206), (.slice a207 l208 c209)] ∧ (Does Tryz.prog 21 [(.agg #[(.int .i64 n202), (.int .i64 n203), (.slice a204 l205 c206), (.slice a207 l208 c209)]), (.int .i64 n212), (.int .i64 6)] H211 fun v213 H214 => ∃ a215 : Option Addr, ∃ l216 : Nat, ∃ c217 : Nat, ∃ a218 : Option Addr, ∃ l219 : Nat, ∃ c220 : Nat, v213 = (.tuple #[(.slice a215 l216 c217), (.slice a218 l219 c220)]) ∧ (
                                                            (Does Tryz.prog 23 [(.pointer p29), (.slice a215 l216 c217)] H214 fun v221 H222 => ∃ n223 : Int, v221 = (.int .i64 n223) ∧ (
                                                            Does Tryz.prog 24 [(.pointer p30), (.slice a218 l219 c220)] H222 fun v224 H225 => ∃ n226 : Int, v224 = (.int .i64 n226) ∧ (
                                                            I46 p29 p30 (@decide ((n223 : Int) = n226) (Classical.propDecidable _)) H225)))))))))))))))))) ∧ (¬ ((n50 : Int) = 9) → (
                                                            ((((n50 : Int) = 11) → (
                                                            ∃ I227 : Heap → Prop, (
                                                            ∃ n228 : Int, hcell H49 b43 0 = some (.int .i64 n228) ∧ (
                                                            Does Tryz.prog 4 [(.int .i64 n228), (.int .i64 12)] H49 fun v229 H230 => ∃ n231 : Int, v229 = (.int .i64 n231) ∧ (
                                                            ((((n231 : Int) ≠ 9) → (
                                                            ∃ a232 : Option Addr, ∃ l233 : Nat, ∃ c234 : Nat, hcell H230 b43 (0 + 3) = some (.slice a232 l233 c234) ∧ (
                                                            Does Tryz.prog 15 [(.pointer p13), (.slice a232 l233 c234)] H230 fun v235 H236 => v235 = (.tuple #[]) ∧ (
                                                            ∃ a237 : Option Addr, ∃ l238 : Nat, ∃ c239 : Nat, hcell H236 b43 (0 + 3) = some (.slice a237 l238 c239) ∧ (
                                                            Does Tryz.prog 16 [(.pointer p19), (.slice a237 l238 c239)] H236 fun v240 H241 => v240 = (.tuple #[]) ∧ (
                                                            I227 H241)))))) ∧ (¬ ((n231 : Int) ≠ 9) → (
                                                            Does Tryz.prog 14 [(.pointer p13)] H230 fun v242 H243 => ∃ t244 : Bool, v242 = (.bool t244) ∧ (
                                                            ((t244 = true → (
                                                            ∃ a245 : Option Addr, ∃ l246 : Nat, ∃ c247 : Nat, hcell H243 b43 (0 + 3) = some (.slice a245 l246 c247) ∧ (
                                                            Does Tryz.prog 15 [(.pointer p13), (.slice a245 l246 c247)] H243 fun v248 H249 => v248 = (.tuple #[]) ∧ (
                                                            ∃ a250 : Option Addr, ∃ l251 : Nat, ∃ c252 : Nat, hcell H249 b43 (0 + 3) = some (.slice a250 l251 c252) ∧ (
                                                            Does Tryz.prog 16 [(.pointer p19), (.slice a250 l251 c252)] H249 fun v253 H254 => v253 = (.tuple #[]) ∧ (
                                                            I227 H254)))))) ∧ (t244 = false → (
                                                            I227 H243)))))))))) ∧
                                                            ∀ H255 : Heap, I227 H255 → (
                                                            ∃ I256 : Heap → Prop, (
                                                            ∃ n257 : Int, hcell H255 b43 0 = some (.int .i64 n257) ∧ (
                                                            Does Tryz.prog 4 [(.int .i64 n257), (.int .i64 12)] H255 fun v258 H259 => ∃ n260 : Int, v258 = (.int .i64 n260) ∧ (
                                                            ((((n260 : Int) = 11) → (
                                                            Does Tryz.prog 17 [(.pointer p13), (.int .i64 (4 + n3))] H259 fun v261 H262 => ∃ n263 : Int, v261 = (.int .i64 n263) ∧ (
                                                            Does Tryz.prog 8 [(.pointer p19), (.int .i64 (4 + n3))] H262 fun v264 H265 => ∃ n266 : Int, v264 = (.int .i64 n266) ∧ (
                                                            ((((n263 : Int) ≠ n266) → (
                                                            R (.bool false) H265)) ∧ (¬ ((n263 : Int) ≠ n266) → (
                                                            I256 H265))))))) ∧ (¬ ((n260 : Int) = 11) → (
                                                            I256 H259)))))) ∧
                                                            ∀ H267 : Heap, I256 H267 → (
                                                            Does Tryz.prog 18 [(.pointer p13)] H267 fun v268 H269 => ∃ p270 : Option Addr, ∃ n271 : Int, v268 = (.tuple #[(.pointer p270), (.int .i64 n271)]) ∧ (
                                                            Does Tryz.prog 9 [(.pointer p19)] H269 fun v272 H273 => ∃ p274 : Option Addr, ∃ n275 : Int, v272 = (.tuple #[(.pointer p274), (.int .i64 n275)]) ∧ (
                                                            ((((n271 : Int) ≠ n275) → (
                                                            R (.bool false) H273)) ∧ (¬ ((n271 : Int) ≠ n275) → (
                                                            ((((n275 : Int) ≠ 0) → (
                                                            R (.bool true) H273)) ∧ (¬ ((n275 : Int) ≠ 0) → (
                                                            I46 p270 p274 true H273)))))))))))) ∧ (¬ ((n50 : Int) = 11) → (
                                                            ((((n50 : Int) = 10) → (
                                                            ∃ n276 : Int, hcell H49 b43 (0 + 1) = some (.int .i64 n276) ∧ (
                                                            Does Tryz.prog 4 [(.int .i64 n276), (.int .i64 14)] H49 fun v277 H278 => ∃ n279 : Int, v277 = (.int .i64 n279) ∧ (
                                                            (In64 (n279 - 1)) ∧
                                                            Does Tryz.prog 19 [(.pointer p13), (.int .i64 (n279 - 1))] H278 fun v280 H281 => v280 = (.tuple #[]) ∧ (
                                                            Does Tryz.prog 20 [(.pointer p19), (.int .i64 (n279 - 1))] H281 fun v282 H283 => v282 = (.tuple #[]) ∧ (
                                                            I46 p29 p30 true H283)))))) ∧ (¬ ((n50 : Int) = 10) → (
                                                            ∃ n284 : Int, hcell H49 b43 0 = some (.int .i64 n284) ∧ (
                                                            ∃ n285 : Int, hcell H49 b43 (0 + 1) = some (.int .i64 n285) ∧ (
                                                            ∃ a286 : Option Addr, ∃ l287 : Nat, ∃ c288 : Nat, hcell H49 b43 ((0 + 1) + 1) = some (.slice a286 l287 c288) ∧ (
                                                            ∃ a289 : Option Addr, ∃ l290 : Nat, ∃ c291 : Nat, hcell H49 b43 (((0 + 1) + 1) + 1) = some (.slice a289 l290 c291) ∧ (
                                                            Does Tryz.prog 22 [(.pointer p30)] H49 fun v292 H293 => ∃ n294 : Int, v292 = (.int .i64 n294) ∧ (
                                                            isL H293 b43 0 [(.int .i64 n284), (.int .i64 n285), (.slice a286 l287 c288), (.slice a289 l290 c291)] ∧ (Does Tryz.prog 21 [(.agg #[(.int .i64 n284), (.int .i64 n285), (.slice a286 l287 c288), (.slice a289 l290 c291)]), (.int .i64 n294), (.int .i64 6)] H293 fun v295 H296 => ∃ a297 : Option Addr, ∃ l298 : Nat, ∃ c299 : Nat, ∃ a300 : Option Addr, ∃ l301 : Nat, ∃ c302 : Nat, v295 = (.tuple #[(.slice a297 l298 c299), (.slice a300 l301 c302)]) ∧ (
                                                            (Does Tryz.prog 23 [(.pointer p29), (.slice a297 l298 c299)] H296 fun v303 H304 => ∃ n305 : Int, v303 = (.int .i64 n305) ∧ (
                                                            Does Tryz.prog 24 [(.pointer p30), (.slice a300 l301 c302)] H304 fun v306 H307 => ∃ n308 : Int, v306 = (.int .i64 n308) ∧ (
                                                            I46 p29 p30 (@decide ((n305 : Int) = n308) (Classical.propDecidable _)) H307))))))))))))))))))))))))))))))) ∧
                                                            ∀ p309 : Option Addr, ∀ p310 : Option Addr, ∀ t311 : Bool, ∀ H312 : Heap, I46 p309 p310 t311 H312 → (
                                                            (((t311 = false) → (
                                                            R (.bool false) H312)) ∧ (¬ (t311 = false) → (
                                                            ((((p309 : Option Addr) = none) → (
                                                            R (.bool false) H312)) ∧ (¬ ((p309 : Option Addr) = none) → (
                                                            Does Tryz.prog 25 [(.pointer p309), (.pointer p310), (.pointer p13), (.pointer p19)] H312 fun v313 H314 => ∃ t315 : Bool, v313 = (.bool t315) ∧ (
                                                            (((t315 = false) → (
                                                            R (.bool false) H314)) ∧ (¬ (t315 = false) → (
                                                            ∃ I316 : Int → Heap → Prop, ∃ μ317 : Int → Heap → Nat, (I316 (-1) H314) ∧
                                                            ∀ n318 : Int, ∀ H319 : Heap, I316 n318 H319 → (
                                                            Does Tryz.prog 22 [(.pointer p310)] H319 fun v320 H321 => ∃ n322 : Int, v320 = (.int .i64 n322) ∧ (
                                                            ((((n318 : Int) ≤ n322) → (
                                                            Does Tryz.prog 26 [(.pointer p309), (.int .i64 n318)] H321 fun v323 H324 => ∃ a325 : Option Addr, ∃ l326 : Nat, ∃ c327 : Nat, ∃ n328 : Int, v323 = (.tuple #[(.slice a325 l326 c327), (.int .i64 n328)]) ∧ (
                                                            Does Tryz.prog 27 [(.pointer p310), (.int .i64 n318)] H324 fun v329 H330 => ∃ a331 : Option Addr, ∃ l332 : Nat, ∃ c333 : Nat, ∃ n334 : Int, v329 = (.tuple #[(.slice a331 l332 c333), (.int .i64 n334)]) ∧ (
                                                            ((((n328 : Int) ≠ n334) → (
                                                            R (.bool false) H330)) ∧ (¬ ((n328 : Int) ≠ n334) → (
                                                            ∃ l335 : List UInt8, SRow H330 1 l326 (.slice a325 l326 c327) (List.map (fun (b : UInt8) => Value.int .u8 b.toNat) l335) ∧ (
                                                            ∃ l336 : List UInt8, SRow H330 1 l332 (.slice a331 l332 c333) (List.map (fun (b : UInt8) => Value.int .u8 b.toNat) l336) ∧ (
                                                            (((((ByteArray.mk (List.toArray l335)) : ByteArray) ≠ (ByteArray.mk (List.toArray l336))) → (
                                                            R (.bool false) H330)) ∧ (¬ (((ByteArray.mk (List.toArray l335)) : ByteArray) ≠ (ByteArray.mk (List.toArray l336))) → (
                                                            (In64 (n318 + 1)) ∧
                                                            (I316 (n318 + 1) H330) ∧ μ317 (n318 + 1) H330 < μ317 n318 H319)))))))))))) ∧ (¬ ((n318 : Int) ≤ n322) → (
                                                            (In64 (n31 + 1)) ∧
                                                            (I27 p309 p310 (n31 + 1) H321) ∧ μ28 p309 p310 (n31 + 1) H321 < μ28 p29 p30 n31 H32))))))))))))))))))))))))) ∧ (¬ ((n31 : Int) < 30) → (
                                                  R (.bool true) H32))))) ∧ (¬ ((n31 : Int) < (x2l : Int)) → (
                                            R (.bool true) H32)))))))))))))))))))))) := by kernel_rfl


end Go.Proofs
end

section
open Go Go.Vc
namespace Go.Proofs

/-- Two regions apart. -/
structure Side (H0 H : Heap) (F G : Nat → Prop) : Prop where
  dis : ∀ k, F k → ¬ G k
  low : ∀ k, F k ∨ G k → H0.size ≤ k
  lt : ∀ k, F k ∨ G k → k < H.size
  ext : Ext [] H0 H
section
variable {H0 H H1 H2 H' : Heap} {F G : Nat → Prop}
theorem Side.step (h : Side H0 H F G) (h1 : ExtP F H H1) (h2 : ExtP G H1 H2) : Side H0 H2 (grow F H H1) (grow G H1 H2) := by
  have s1 := h1.size
  have s2 := h2.size
  have s0 := h.ext.size
  refine ⟨fun k hk hk' => ?_, fun k hk => ?_, fun k hk => ?_, (h.ext.transP h1 (fun k hk => h.low k (.inl hk))).transP h2 (fun k hk => h.low k (.inr hk))⟩
  · rcases hk with hk | hk
    · rcases hk' with hk' | hk'
      · exact h.dis k hk hk'
      · have := h.lt k (.inl hk); omega
    · rcases hk' with hk' | hk'
      · have := h.lt k (.inr hk'); omega
      · omega
  · rcases hk with (hk | hk) | (hk | hk)
    · exact h.low k (.inl hk)
    · omega
    · exact h.low k (.inr hk)
    · omega
  · rcases hk with (hk | hk) | (hk | hk)
    · have := h.lt k (.inl hk); omega
    · omega
    · have := h.lt k (.inr hk); omega
    · omega
theorem Side.more (h : Side H0 H F G) (hx : Ext [] H H') : Side H0 H' F G := ⟨h.dis, h.low, fun k hk => Nat.lt_of_lt_of_le (h.lt k hk) hx.size, h.ext.trans hx⟩
theorem Side.low1 (h : Side H0 H F G) : ∀ k, F k → H0.size ≤ k := fun k hk => h.low k (.inl hk)
theorem Side.low2 (h : Side H0 H F G) : ∀ k, G k → H0.size ≤ k := fun k hk => h.low k (.inr hk)

/-- A local copy apart from both. -/
def L2 (H : Heap) (F G : Nat → Prop) (b : Nat) (cs : List Value) : Prop := Blk H b cs ∧ b < H.size ∧ ¬ F b ∧ ¬ G b
theorem L2.more {b : Nat} {cs : List Value} (h : L2 H F G b cs) (hx : Ext [] H H') : L2 H' F G b cs := ⟨h.1.ext hx (by simp), Nat.lt_of_lt_of_le h.2.1 hx.size, h.2.2⟩
theorem L2.one {b : Nat} {cs : List Value} (h : L2 H F G b cs) (h1 : ExtP F H H1) : L2 H1 (grow F H H1) G b cs := ⟨h.1.extP h1 h.2.2.1, Nat.lt_of_lt_of_le h.2.1 h1.size, fun hk => by
  rcases hk with hk | hk
  · exact h.2.2.1 hk
  · have := h.2.1; omega, h.2.2.2⟩
theorem L2.two {b : Nat} {cs : List Value} (h : L2 H F G b cs) (h2 : ExtP G H H2) : L2 H2 F (grow G H H2) b cs := ⟨h.1.extP h2 h.2.2.2, Nat.lt_of_lt_of_le h.2.1 h2.size, h.2.2.1, fun hk => by
  rcases hk with hk | hk
  · exact h.2.2.2 hk
  · have := h.2.1; omega⟩
end

/-- Two devices, the same. -/
structure DvTwo (H0 H : Heap) (F G : Nat → Prop) (pd py : Nat) (D : Dev) (n B : Nat) (K : Int) : Prop where
  side : Side H0 H F G
  a : IsDev H F pd D
  b : IsRDev H G py D
  wf : D.Wf n B
  hs : HS K D
/-- Two journals, the same. -/
structure JnTwo (H0 H : Heap) (F G : Nat → Prop) (pj pd pr py : Nat) (J : Jn) (D : Dev) (n B : Nat) (K : Int) : Prop where
  side : Side H0 H F G
  a : JD H F pj pd J D
  b : RJD H G pr py J D
  wf : D.Wf n B
  jwf : J.Wf n
  hs : HS K D
  sq : J.h.seq ≤ K
section
variable {H0 H H1 H2 H' : Heap} {F G F' G' : Nat → Prop} {pj pd pr py pj' pr' n B B' : Nat} {J J' : Jn} {D D' : Dev} {K K' : Int}
theorem DvTwo.more (h : DvTwo H0 H F G pd py D n B K) (hx : Ext [] H H') : DvTwo H0 H' F G pd py D n B K := ⟨h.side.more hx, h.a.ext hx.toP (by simp), h.b.ext hx.toP (by simp), h.wf, h.hs⟩
theorem JnTwo.more (h : JnTwo H0 H F G pj pd pr py J D n B K) (hx : Ext [] H H') : JnTwo H0 H' F G pj pd pr py J D n B K := ⟨h.side.more hx, h.a.ext hx.toP (by simp), h.b.ext hx.toP (by simp), h.wf, h.jwf, h.hs, h.sq⟩
theorem DvTwo.up (h : DvTwo H0 H F G pd py D n B K) (hB : B ≤ B') (hK : K ≤ K') : DvTwo H0 H F G pd py D n B' K' := ⟨h.side, h.a, h.b, h.wf.up hB, h.hs.up hK⟩
theorem JnTwo.up (h : JnTwo H0 H F G pj pd pr py J D n B K) (hB : B ≤ B') (hK : K ≤ K') : JnTwo H0 H F G pj pd pr py J D n B' K' := ⟨h.side, h.a, h.b, h.wf.up hB, h.jwf, h.hs.up hK, by have := h.sq; omega⟩
theorem JnTwo.dv (h : JnTwo H0 H F G pj pd pr py J D n B K) : DvTwo H0 H F G pd py D n B K := ⟨h.side, h.a.dev, h.b.dev, h.wf, h.hs⟩
/-- The reference's, when the program's has gone on. -/
theorem Side.off1 (h : Side H0 H F G) : ∀ k, G k → ¬ F k := fun k hk hk' => h.dis k hk' hk
theorem Side.off2 (h : Side H0 H F G) (h1 : ExtP F H H1) : ∀ k, grow F H H1 k → ¬ G k := fun k hk hk' => by
  rcases hk with hk | hk
  · exact h.dis k hk hk'
  · have := h.lt k (.inr hk'); omega
theorem JnTwo.step (h : JnTwo H0 H F G pj pd pr py J D n B K) (ha : JD H1 (grow F H H1) pj' pd J' D') (h1 : ExtP F H H1) (hb : RJD H2 (grow G H1 H2) pr' py J' D') (h2 : ExtP G H1 H2) (hw : D'.Wf n B') (hj : J'.Wf n) (hs : HS K' D') (hq : J'.h.seq ≤ K') :
    JnTwo H0 H2 (grow F H H1) (grow G H1 H2) pj' pd pr' py J' D' n B' K' := ⟨h.side.step h1 h2, ha.ext h2 (h.side.off2 h1), hb, hw, hj, hs, hq⟩
theorem DvTwo.step (h : DvTwo H0 H F G pd py D n B K) (ha : IsDev H1 (grow F H H1) pd D') (h1 : ExtP F H H1) (hb : IsRDev H2 (grow G H1 H2) py D') (h2 : ExtP G H1 H2) (hw : D'.Wf n B') (hs : HS K' D') :
    DvTwo H0 H2 (grow F H H1) (grow G H1 H2) pd py D' n B' K' := ⟨h.side.step h1 h2, ha.ext h2 (h.side.off2 h1), hb, hw, hs⟩
theorem DvTwo.jn (h : DvTwo H0 H F G pd py D n B K) (ha : JD H1 (grow F H H1) pj pd J' D') (h1 : ExtP F H H1) (hb : RJD H2 (grow G H1 H2) pr py J' D') (h2 : ExtP G H1 H2) (hw : D'.Wf n B') (hj : J'.Wf n) (hs : HS K' D') (hq : J'.h.seq ≤ K') :
    JnTwo H0 H2 (grow F H H1) (grow G H1 H2) pj pd pr py J' D' n B' K' := ⟨h.side.step h1 h2, ha.ext h2 (h.side.off2 h1), hb, hw, hj, hs, hq⟩
end

set_option maxHeartbeats 1000000 in
theorem same_ok {H0 H : Heap} {F G : Nat → Prop} {pj pd pr py n B : Nat} {J : Jn} {D : Dev} {K : Int} (h : JnTwo H0 H F G pj pd pr py J D n B K) (hB : B ≤ 900000000) (hn : n ≤ 4096) :
    Does Tryz.prog 25 [.pointer (some ⟨pj, 0, none⟩), .pointer (some ⟨pr, 0, none⟩), .pointer (some ⟨pd, 0, none⟩), .pointer (some ⟨py, 0, none⟩)] H fun v H' => v = .bool true ∧ Ext [] H H' := by
  refine Fn_of_vc Tryz.mixed (vcl_same2 _ _ _ _ _ _) ?_
  obtain ⟨_, _, _, _, hhd, _⟩ := h.b.head
  have hj := h.jwf
  have hl := h.wf.len
  have hnl : D.now.length = n := by rw [← hl]; exact laid_length _ _
  obtain ⟨ak, ck, ap, cp, h3⟩ := h.b.dev
  have hwk := h.wf.works
  refine ⟨fun H' => H = H', ⟨pr, 0, rfl, J.dead, hhd.cell 6, (jdead_ok h.a).mono ?_⟩, ?_⟩
  · rintro _ _ ⟨rfl, rfl⟩
    have tail : ∀ (R : Prop), R → R := fun _ h => h
    refine ⟨_, rfl, ⟨hhd.cell 6, trivial⟩, fun hne => absurd Iff.rfl hne, fun _ => ⟨pr, 0, rfl, J.dead, hhd.cell 6, fun hd => (jfree_ok h.a hj hn).mono ?_, fun hd => ?_⟩⟩
    · rintro _ _ ⟨rfl, rfl⟩
      refine ⟨_, rfl, (rfree_ok h.b hj hn hd).mono ?_⟩
      rintro _ _ ⟨rfl, rfl⟩
      refine ⟨_, rfl, fun hne => absurd rfl hne, fun _ => ⟨py, 0, rfl, _, h3.head.cell 4, (dworks_ok h.a.dev).mono ?_⟩⟩
      rintro _ _ ⟨rfl, rfl⟩
      refine ⟨_, rfl, ⟨h3.head.cell 4, trivial⟩, fun hne => absurd rfl hne, fun _ => ⟨py, 0, rfl, ap, _, cp, h3.head.cell 1, (dpending_ok h.a.dev).mono ?_⟩⟩
      rintro _ _ ⟨rfl, rfl⟩
      refine ⟨_, rfl, ⟨h3.head.cell 1, trivial⟩, fun hne => absurd rfl hne, fun _ => (jhome_ok h.a h.wf).mono ?_⟩
      rintro _ _ ⟨rfl, rfl⟩
      refine ⟨_, rfl, (rhome_ok h.b h.wf hj).mono ?_⟩
      rintro _ _ ⟨rfl, rfl⟩
      exact ⟨_, rfl, fun hne => absurd rfl hne, fun _ => rfl⟩
    · refine ⟨py, 0, rfl, _, h3.head.cell 4, (dworks_ok h.a.dev).mono ?_⟩
      rintro _ _ ⟨rfl, rfl⟩
      refine ⟨_, rfl, ⟨h3.head.cell 4, trivial⟩, fun hne => absurd rfl hne, fun _ => ⟨py, 0, rfl, ap, _, cp, h3.head.cell 1, (dpending_ok h.a.dev).mono ?_⟩⟩
      rintro _ _ ⟨rfl, rfl⟩
      refine ⟨_, rfl, ⟨h3.head.cell 1, trivial⟩, fun hne => absurd rfl hne, fun _ => (jhome_ok h.a h.wf).mono ?_⟩
      rintro _ _ ⟨rfl, rfl⟩
      refine ⟨_, rfl, (rhome_ok h.b h.wf hj).mono ?_⟩
      rintro _ _ ⟨rfl, rfl⟩
      exact ⟨_, rfl, fun hne => absurd rfl hne, fun _ => rfl⟩
  rintro _ rfl
  refine ⟨fun i H' => ∃ j : Nat, i = j ∧ j ≤ n ∧ Ext [] H H', fun i _ => n - i.toNat, ⟨0, rfl, by omega, Ext.refl _ _⟩, ?_⟩
  rintro _ H61 ⟨j, rfl, hjn, hx61⟩
  have h61 := h.more hx61
  obtain ⟨ak, ck, ap, cp, h3⟩ := h61.b.dev
  refine ⟨py, 0, rfl, ak, _, ck, h3.head.cell 0, fun hlt => ?_, fun hge => ⟨rfl, hx61⟩⟩
  have hin : 0 ≤ (j : Int) ∧ (j : Int) < n := by omega
  refine (dread_ok h61.a.dev h.wf j).mono ?_
  rintro _ H68 ⟨hx68, hr⟩
  have h68 := h61.more hx68
  rcases hr with ⟨hno, _⟩ | ⟨_, hd, rfl⟩ | ⟨_, hd, a69, c71, xs, hxs, rfl, ho68, hf68⟩
  · exact absurd hin hno
  · refine ⟨_, _, _, _, rfl, (rdread_ok h68.b.dev h.wf (by omega) j).mono ?_⟩
    rintro _ _ ⟨rfl, hr⟩
    rcases hr with ⟨hno, _⟩ | ⟨_, _, rfl⟩ | ⟨_, hd', _⟩
    · exact absurd hin hno
    · exact ⟨_, _, _, _, rfl, fun hne => absurd rfl hne, fun _ => ⟨[], ⟨rfl, rfl⟩, [], ⟨rfl, rfl⟩, fun hne => absurd rfl hne, fun _ => ⟨⟨by omega, by omega⟩, ⟨j + 1, by omega, by omega, hx61.trans hx68⟩, by simp only []; omega⟩⟩⟩
    · rw [hd] at hd'; cases hd'
  · refine ⟨_, _, _, _, rfl, (rdread_ok h68.b.dev h.wf (by omega) j).mono ?_⟩
    rintro _ _ ⟨rfl, hr⟩
    rcases hr with ⟨hno, _⟩ | ⟨_, hd', _⟩ | ⟨_, _, a75, c77, ys, hys, rfl, hyc, hrow, _⟩
    · exact absurd hin hno
    · rw [hd] at hd'; cases hd'
    · rw [hxs] at hys
      cases hys
      exact ⟨_, _, _, _, rfl, fun hne => absurd rfl hne, fun _ => ⟨xs, ho68.row _ _, xs, hrow, fun hne => absurd rfl hne, fun _ => ⟨⟨by omega, by omega⟩, ⟨j + 1, by omega, by omega, hx61.trans hx68⟩, by simp only []; omega⟩⟩⟩
end Go.Proofs
end

