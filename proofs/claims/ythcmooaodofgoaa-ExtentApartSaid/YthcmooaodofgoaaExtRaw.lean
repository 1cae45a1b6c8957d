/-
  The law ExtentRaw over the contracts. No condition.
-/
import Derived.Test.YthcmooaodofgoaaExtKn

section
open Go Go.Vc
namespace Go.Proofs

theorem GrowR.len {H H' : Heap} {bs : List Bool} {l : List Pc} {k n : Int} {v : Value} {bs' : List Bool} (h : GrowR H H' bs l k n v bs') : bs'.length = bs.length := by
  rcases h with ⟨_, _, rfl⟩ | ⟨_, rfl, _⟩
  · rfl
  · rw [setAll_length]
theorem ShrinkR.len {H H' : Heap} {bs : List Bool} {l : List Pc} {n : Int} {v : Value} {bs' : List Bool} (h : ShrinkR H H' bs l n v bs') : bs'.length = bs.length := by
  rcases h with ⟨_, _, rfl⟩ | ⟨_, rfl, _⟩
  · rfl
  · rw [setAll_length]

theorem GrowR.one {A A' B B' : Heap} {bs : List Bool} {l : List Pc} {k n : Int} {v w : Value} {b1 b2 : List Bool} (h : GrowR A A' bs l k n v b1) (h' : GrowR B B' bs l k n w b2) : b1 = b2 := by
  rcases h with ⟨h1, _, rfl⟩ | ⟨h1, rfl, _⟩ <;> rcases h' with ⟨h2, _, rfl⟩ | ⟨h2, rfl, _⟩
  · rfl
  · exact absurd h2 h1
  · exact absurd h1 h2
  · rfl
theorem ShrinkR.one {A A' B B' : Heap} {bs : List Bool} {l : List Pc} {n : Int} {v w : Value} {b1 b2 : List Bool} (h : ShrinkR A A' bs l n v b1) (h' : ShrinkR B B' bs l n w b2) : b1 = b2 := by
  rcases h with ⟨h1, _, rfl⟩ | ⟨h1, rfl, _⟩ <;> rcases h' with ⟨h2, _, rfl⟩ | ⟨h2, rfl, _⟩
  · rfl
  · exact absurd h2 h1
  · exact absurd h1 h2
  · rfl

noncomputable def growO (bs : List Bool) (l : List Pc) (k n : Int) : List Pc := if decP (growOk bs l k n) = true then growF bs l k n else []
noncomputable def growB (bs : List Bool) (l : List Pc) (k n : Int) : List Bool := if decP (growOk bs l k n) = true then setAll bs (foundF bs k n.toNat) true else bs
noncomputable def shrinkO (bs : List Bool) (l : List Pc) (n : Int) : List Pc := if decP (RightP l 0 bs.length) = true then piecesF ((blocksI l).take n.toNat) else []
noncomputable def shrinkB (bs : List Bool) (l : List Pc) (n : Int) : List Bool := if decP (RightP l 0 bs.length) = true then setAll bs ((blocksI l).drop n.toNat) false else bs

theorem pcs_nil (H : Heap) : Pcs H none 0 [] := ⟨rfl, fun _ => ⟨rfl, rfl⟩⟩

theorem growB_length (bs : List Bool) (l : List Pc) (k n : Int) : (growB bs l k n).length = bs.length := by
  unfold growB
  split
  · rw [setAll_length]
  · rfl
theorem shrinkB_length (bs : List Bool) (l : List Pc) (n : Int) : (shrinkB bs l n).length = bs.length := by
  unfold shrinkB
  split
  · rw [setAll_length]
  · rfl

/-- What Grow tells. -/
theorem GrowR.val {H H' : Heap} {bs : List Bool} {l : List Pc} {k n : Int} {v : Value} {bs' : List Bool} (h : GrowR H H' bs l k n v bs') :
    bs' = growB bs l k n ∧ ∃ a len c, v = .tuple #[.slice a len c, .bool (decP (growOk bs l k n))] ∧ Pcs H' a len (growO bs l k n) ∧ len ≤ c ∧ len ≤ 6 ∧ (∀ k, k ∈ blkOf a → H.size ≤ k ∧ k < H'.size) := by
  unfold growB growO
  rcases h with ⟨h1, rfl, rfl⟩ | ⟨h1, rfl, a, c, rfl, ho, hf⟩
  · rw [← decP_false h1]
    exact ⟨rfl, _, _, _, rfl, pcs_nil _, Nat.le_refl _, by decide, fun k hk => by cases hk⟩
  · rw [← decP_true h1]
    exact ⟨rfl, _, _, _, rfl, Own.pcs ho, ho.2.1, h1.2.2.2, fun k hk => ⟨hf k hk, ho.lt k hk⟩⟩

theorem piecesF_le (xs : List Int) : (piecesF xs).length ≤ xs.length := by
  have : ∀ rs : List Pc, (xs.foldl pushB rs).length ≤ rs.length + xs.length := by
    induction xs with
    | nil => intro rs; simp
    | cons x xs ih =>
      intro rs
      have h1 := ih (pushB rs x)
      have h2 := pushB_length rs x
      rw [List.foldl_cons, List.length_cons]
      omega
  have := this []
  simpa [piecesF] using this

/-- What Shrink tells. -/
theorem ShrinkR.val {H H' : Heap} {bs : List Bool} {l : List Pc} {n : Int} {v : Value} {bs' : List Bool} (h : ShrinkR H H' bs l n v bs') :
    bs' = shrinkB bs l n ∧ ∃ a len c, v = .slice a len c ∧ Pcs H' a len (shrinkO bs l n) ∧ len ≤ c ∧ len ≤ 6 ∧ (∀ k, k ∈ blkOf a → H.size ≤ k ∧ k < H'.size) := by
  unfold shrinkB shrinkO
  rcases h with ⟨h1, rfl, rfl⟩ | ⟨h1, rfl, a, c, rfl, ho, hf⟩
  · rw [← decP_false h1]
    exact ⟨rfl, _, _, _, rfl, pcs_nil _, Nat.le_refl _, by decide, fun k hk => by cases hk⟩
  · rw [← decP_true h1]
    refine ⟨rfl, _, _, _, rfl, Own.pcs ho, ho.2.1, ?_, fun k hk => ⟨hf k hk, ho.lt k hk⟩⟩
    rw [← keepP_pieces h1]
    have := keepP_length l n.toNat
    have := h1.1
    omega

section
variable {H H1 H2 H3 : Heap} {pb bb c qb rb : Nat} {bs bs' : List Bool}

theorem Pair.mapExt (h : Pair H H1 pb bb c qb rb bs) (hx : Ext (blkOf (some ⟨bb, 0, none⟩)) H1 H2) : Ext [] H H2 :=
  h.ext.trans' hx (by intro i hi; simp only [blkOf, List.mem_singleton] at hi; subst hi; exact .inl h.fb)
theorem Pair.ref' (h : Pair H H1 pb bb c qb rb bs) (hx : Ext (blkOf (some ⟨bb, 0, none⟩)) H1 H2) : IsRef H2 qb (some ⟨rb, 0, none⟩) bs.length bs :=
  h.ref.ext hx (by simpa [blkOf] using h.d1) (by simpa [blkOf] using h.d2)
/-- The map turned, then its reference. -/
theorem Pair.next (h : Pair H H1 pb bb c qb rb bs) (hb : IsB H2 pb (some ⟨bb, 0, none⟩) c bs') (hx : Ext (blkOf (some ⟨bb, 0, none⟩)) H1 H2) (hr : IsRef H3 qb (some ⟨rb, 0, none⟩) bs.length bs') (hx3 : Ext (blkOf (some ⟨rb, 0, none⟩)) H2 H3) (hl : bs'.length = bs.length) :
    Pair H H3 pb bb c qb rb bs' :=
  ⟨hb.ext hx3 (by simpa [blkOf] using h.d3) (by simpa [blkOf] using fun e => h.d2 e.symm), by rw [hl]; exact hr,
    (h.mapExt hx).trans' hx3 (by intro i hi; simp only [blkOf, List.mem_singleton] at hi; subst hi; exact .inl h.fr), h.fp, h.fb, h.fq, h.fr, h.d1, h.d2, h.d3, h.d4, h.d5⟩
/-- What lies in other memory stays. -/
theorem Pair.apart (h : Pair H H1 pb bb c qb rb bs) {a : Option Addr} (ha : ∀ k, k ∈ blkOf a → k < H.size ∨ H1.size ≤ k) : (∀ k, k ∈ blkOf a → k ∉ blkOf (some ⟨bb, 0, none⟩)) ∧ (∀ k, k ∈ blkOf a → k ∉ blkOf (some ⟨rb, 0, none⟩)) := by
  have l1 := h.map.lt.2 bb (by simp [blkOf])
  have l2 := h.ref.lt.2 rb (by simp [blkOf])
  have f1 := h.fb
  have f2 := h.fr
  constructor
  · intro k hk hk'
    simp only [blkOf, List.mem_singleton] at hk'
    rcases ha k hk with h5 | h5 <;> omega
  · intro k hk hk'
    simp only [blkOf, List.mem_singleton] at hk'
    rcases ha k hk with h5 | h5 <;> omega
end

/-- Rows of two numbers are pieces. -/
theorem rows_pcs : ∀ {z : List (List Value)}, (∀ r ∈ z, CellsAre [.i .i64, .i .i64] r) → ∃ l : List Pc, z.flatten = piecesV l ∧ l.length = z.length
  | [], _ => ⟨[], rfl, rfl⟩
  | r :: z, h => by
    obtain ⟨l, h1, h2⟩ := rows_pcs (z := z) (fun x hx => h x (by simp [hx]))
    have hc := h r (by simp)
    match r, hc with
    | [.int k a, .int k' b], hc =>
      obtain ⟨⟨rfl, _⟩, ⟨rfl, _⟩, _⟩ := hc
      refine ⟨⟨a, b⟩ :: l, ?_, by simp [h2]⟩
      rw [List.flatten_cons, h1]
      rfl

theorem pcs_of_row {H : Heap} {a : Option Addr} {len cap : Nat} {l : List Pc} (hl : l.length = len) (h : SRow H 2 len (.slice a len cap) (piecesV l)) : Pcs H a len l := ⟨hl, fun _ => h.cap⟩

theorem ints_of_row {H : Heap} {a : Option Addr} {len cap : Nat} {l : List Int} (hl : l.length = len) (h : SRow H 1 len (.slice a len cap) (intsV l)) : Ints H a len l := ⟨hl, fun _ => h.cap⟩

end Go.Proofs
end

section
open Go Go.Vc
namespace Go.Proofs

def rawP (small : Bool) (p : Pc) : Pc := if small then ⟨p.s % 40 - 1, p.c % 7⟩ else p

theorem in64_of_wf {a : Int} (h : (Lit.int .i64 a).wf = true) : -9223372036854775808 ≤ a ∧ a ≤ 9223372036854775807 := by
  simpa [Lit.wf, IntKind.min, IntKind.max, IntKind.bits, IntKind.signed] using h

theorem eraw_law (H : Heap) (a : Option Addr) (len cap : Nat) (z : List (List Value)) (hl : z.length = len) (_ : len ≤ maxLen) (hs : SRow H 2 len (.slice a len cap) z.flatten) (hw : ∀ r ∈ z, CellsAre [.i .i64, .i .i64] r)
    (small : Bool) (x2 : Int) (w2 : (Lit.int .i64 x2).wf = true) (x3 : Int) (w3 : (Lit.int .i64 x3).wf = true) (x4 : Int) (_ : (Lit.int .i64 x4).wf = true) (x5 : Int) (_ : (Lit.int .i64 x5).wf = true) (x6 : Int) (w6 : (Lit.int .i64 x6).wf = true) :
    Does Try.prog 10 [.slice a len cap, .bool small, .int .i64 x2, .int .i64 x3, .int .i64 x4, .int .i64 x5, .int .i64 x6] H fun v H' => v = .bool true ∧ Ext [] H H' := by
  obtain ⟨l, hz, hzl⟩ := rows_pcs hw
  rw [hz] at hs
  have hp : Pcs H a len l := pcs_of_row (by omega) hs
  have hlen := hp.leng
  have b2 := in64_of_wf w2
  have b3 := in64_of_wf w3
  have b6 := in64_of_wf w6
  refine Fn_of_vc Try.mixed (vc_eraw _ _ _ _ _ _ _ _ _ _ _) ?_
  refine ⟨fun a' n' c' H' => Ext [] H H' ∧ n' ≤ 8 ∧ (∀ k, k ∈ blkOf a' → H.size ≤ k) ∧ ∃ x, Own H' 2 a' n' c' (piecesV x), ?_, ?_⟩
  · refine ⟨fun a' n' c' i H' => ∃ j : Nat, i = j ∧ j ≤ len ∧ j ≤ 8 ∧ j = n' ∧ Ext [] H H' ∧ (∀ k, k ∈ blkOf a' → H.size ≤ k) ∧ Own H' 2 a' n' c' (piecesV ((l.take j).map (rawP small))), fun _ _ _ i _ => len - i.toNat, ⟨0, rfl, Nat.zero_le _, Nat.zero_le _, rfl, Ext.refl _ _, fun k hk => (by cases hk), Own.nil _ _⟩, ?_⟩
    rintro a4 _ c6 _ H8 ⟨j, rfl, hj, hj8, rfl, hx8, hf8, ho8⟩
    refine ⟨fun h1 => ⟨fun h2 => ?_, fun h2 => ⟨hx8, hj8, hf8, _, ho8⟩⟩, fun h1 => ⟨hx8, hj8, hf8, _, ho8⟩⟩
    obtain ⟨p, hpj⟩ : ∃ p, l[j]? = some p := ⟨_, List.getElem?_eq_getElem (by omega)⟩
    obtain ⟨b, o, rfl, c0, c1⟩ := hp.get j p hpj
    refine ⟨by omega, h1, b, o, rfl, _, hcell_ext c0 hx8 (by simp), _, hcell_ext c1 hx8 (by simp), fun b13 H14 hn => ⟨hn.blk.cells 2 0 (by simp), fun H15 hput => ?_⟩⟩
    obtain ⟨hb13, hx15, e13, s15⟩ := new_put hn hput rfl
    refine ⟨fun H' => Ext [] H8 H' ∧ Blk H' b13 (pcV (rawP small p)), ⟨fun h3 => ?_, fun h3 => ⟨hx15, by simpa [rawP, h3, pcV] using hb13⟩⟩, ?_⟩
    · refine ⟨p.s, hb13.cell 0, (pick_ok p.s 40 H15 (by decide) (by decide)).mono ?_⟩
      rintro _ _ ⟨rfl, rfl⟩
      refine ⟨_, rfl, ⟨by omega, by omega⟩, hb13.cells 1 0 (by simp), fun H21 hp21 => ?_⟩
      have hb21 := hp21.blk hb13 (by simp)
      rw [splice_one _ _ _ (by simp)] at hb21
      refine ⟨p.c, hb21.cell 1, (pick_ok p.c 7 H21 (by decide) (by decide)).mono ?_⟩
      rintro _ _ ⟨rfl, rfl⟩
      refine ⟨_, rfl, hb21.cells 1 1 (by simp), fun H26 hp26 => ?_⟩
      have hb26 := hp26.blk hb21 (by simp)
      rw [splice_one _ _ _ (by simp)] at hb26
      refine ⟨(hx15.trans' hp21.ext ?_).trans' hp26.ext ?_, by simpa [rawP, h3, pcV] using hb26⟩
      · intro i hi; simp only [List.mem_singleton] at hi; omega
      · intro i hi; simp only [List.mem_singleton] at hi; omega
    · rintro H27 ⟨hx27, hb27⟩
      refine ⟨_, hb27.cell 0, _, hb27.cell 1, ?_⟩
      refine append_one (ho8.ext hx27 (by simp)) rfl (by intro u hu; simp only [List.mem_cons, List.not_mem_nil, or_false] at hu; rcases hu with rfl | rfl <;> rfl) rfl (by omega) ?_
      intro a' c' H' ho' hx' hf'
      refine ⟨⟨by omega, by omega⟩, ⟨j + 1, by omega, by omega, by omega, rfl, (hx8.trans hx27).trans' hx' (fun i hi => .inl (hf8 i hi)), fun k hk => ?_, ?_⟩, by dsimp only; omega⟩
      · rcases hf' k hk with h4 | h4
        · exact hf8 k h4
        · have := hx8.size; have := hx27.size; omega
      · rw [take_snoc hpj, List.map_append, piecesV_append]
        exact ho'
  rintro aq nq cq H40 ⟨hx40, hn8, hf40, x, ho40⟩
  have hq : Pcs H40 aq nq x := Own.pcs ho40
  have hlc := ho40.2.1
  refine ⟨fun f e H' => f ≤ 9223372036854775807 ∧ e ≤ 9223372036854775807 ∧ H40 = H', ⟨fun _ => ?_, fun _ => ⟨b2.2, b3.2, rfl⟩⟩, ?_⟩
  · refine (pick_ok x2 6 H40 (by decide) (by decide)).mono ?_
    rintro _ _ ⟨rfl, rfl⟩
    refine ⟨_, rfl, (pick_ok x3 60 H40 (by decide) (by decide)).mono ?_⟩
    rintro _ _ ⟨rfl, rfl⟩
    exact ⟨_, rfl, by omega, by omega, rfl⟩
  rintro f e _ ⟨hf, he, rfl⟩
  refine (pick_ok x4 40 H40 (by decide) (by decide)).mono ?_
  rintro _ _ ⟨rfl, rfl⟩
  obtain ⟨k, hk⟩ : ∃ k : Int, x4 % 40 - 2 = k := ⟨_, rfl⟩
  refine ⟨_, rfl, ⟨by omega, by omega⟩, ?_⟩
  rw [hk]
  have hnil : Ints H40 none 0 [] := ⟨rfl, fun _ => ⟨rfl, rfl⟩⟩
  refine (of_ok hnil 40 (by decide) (by decide)).mono ?_
  rintro _ H55 ⟨pb, bb, c, qb, rb, rfl, hpr⟩
  have hbl := ofF_length 40 []
  generalize ofF 40 [] = bs at *
  have hn2 : ∀ {x : Addr}, ¬ ((some x : Option Addr) = none) := by intro x e; cases e
  refine ⟨_, _, rfl, (known7_ok H55).mono ?_⟩
  rintro _ H59 ⟨rfl, hx59⟩
  have hpr := hpr.more hx59
  refine ⟨_, rfl, fun e => (by cases e), fun _ => ⟨fun e => absurd e hn2, fun _ => (at_ok (hq.ext hpr.ext (by simp)) k).mono ?_⟩⟩
  rintro _ H62 ⟨rfl, hx62⟩
  have hpr := hpr.more hx62
  refine ⟨_, _, rfl, (rat_ok (hq.ext hpr.ext (by simp)) (by omega) k).mono ?_⟩
  rintro _ H66 ⟨rfl, hx66⟩
  have hpr := hpr.more hx66
  refine ⟨_, _, rfl, (right_ok (hq.ext hpr.ext (by simp)) hlc (max 0 f) (max 0 e) (by omega) (by omega) (by omega)).mono ?_⟩
  rintro _ H70 ⟨rfl, hx70⟩
  have hpr := hpr.more hx70
  refine ⟨_, rfl, (rright_ok (hq.ext hpr.ext (by simp)) (max 0 f) (max 0 e) (by omega) (by omega) (by omega)).mono ?_⟩
  rintro _ H73 ⟨rfl, hx73⟩
  have hpr := hpr.more hx73
  refine ⟨_, rfl, fun e => absurd Iff.rfl e, fun _ => (count_ok (hq.ext hpr.ext (by simp))).mono ?_⟩
  rintro _ H76 ⟨rfl, hx76⟩
  have hpr := hpr.more hx76
  refine ⟨_, rfl, (rcount_ok (hq.ext hpr.ext (by simp)) (by omega)).mono ?_⟩
  rintro _ _ ⟨rfl, rfl⟩
  refine ⟨_, rfl, fun e => absurd rfl e, fun _ => ⟨fun e => absurd rfl e, fun _ => ⟨fun e => absurd Iff.rfl e, fun _ => (pick_ok x5 5 H76 (by decide) (by decide)).mono ?_⟩⟩⟩
  rintro _ _ ⟨rfl, rfl⟩
  obtain ⟨m, hm⟩ : ∃ m : Int, x5 % 5 = m := ⟨_, rfl⟩
  have hm5 : 0 ≤ m ∧ m < 5 := by omega
  rw [hm]
  have ap := hpr.apart (a := aq) (fun i hi => .inl (ho40.lt i hi))
  refine ⟨_, rfl, (grow_ok hpr.map (hq.ext hpr.ext (by simp)) ap.1 hlc 0 m (by decide) (by omega) (by omega)).mono ?_⟩
  rintro _ H85 ⟨bs1, hg1, hb85, hx85⟩
  have hq85 := hq.ext (hpr.mapExt hx85) (by simp)
  obtain ⟨rfl, a86, l87, c88, rfl, hp86, hc86, hl86, hf86⟩ := hg1.val
  refine ⟨_, _, _, _, rfl, (pick_ok x5 5 H85 (by decide) (by decide)).mono ?_⟩
  rintro _ _ ⟨rfl, rfl⟩
  rw [hm]
  refine ⟨_, rfl, (rgrow_ok (hpr.ref' hx85) hq85 0 m (by decide) (by omega) (by omega)).mono ?_⟩
  rintro _ H94 ⟨bs2, hg2, hb94, hx94⟩
  obtain ⟨rfl, a95, l96, c97, rfl, hp95, hc95, hl95, hf95⟩ := hg2.val
  have lrb : rb < H76.size := hpr.ref.lt.2 rb (by simp [blkOf])
  have lbb : bb < H76.size := hpr.map.lt.2 bb (by simp [blkOf])
  have hpr := hpr.next hb85 hx85 hb94 hx94 hg1.len
  have hbl1 : (growB bs x 0 m).length = 40 := by rw [growB_length, hbl]
  have hp86' := hp86.ext hx94 (fun i hi hi' => by
    have := hf86 i hi
    simp only [blkOf, List.mem_singleton] at hi'
    omega)
  refine ⟨_, _, _, _, rfl, fun e => absurd Iff.rfl e, fun _ => (same_ok hp86' hp95 (by omega)).mono ?_⟩
  rintro _ _ ⟨rfl, rfl⟩
  refine ⟨_, rfl, fun e => absurd e (by simp), fun _ => ⟨fun s H' => s ≤ 9223372036854775807 ∧ H94 = H', ⟨fun h1 => ⟨by decide, ?_⟩, fun h1 => ⟨fun h2 => ⟨by decide, ?_⟩, fun h2 => ⟨b6.2, rfl⟩⟩⟩, ?_⟩⟩
  · rintro _ rfl
    have := Int.tmod_lt_of_pos x6 (show (0 : Int) < 1099511627776 by decide)
    exact ⟨by omega, rfl⟩
  · rintro _ rfl
    have := Int.tmod_lt_of_pos x6 (show (0 : Int) < 1099511627776 by decide)
    exact ⟨by omega, rfl⟩
  rintro s _ ⟨hs6, rfl⟩
  have ap2 := hpr.apart (a := aq) (fun i hi => .inl (ho40.lt i hi))
  refine (shrink_ok hpr.map (hq.ext hpr.ext (by simp)) ap2.1 hlc k (by omega) (by omega)).mono ?_
  rintro _ H108 ⟨bs3, hs1, hb108, hx108⟩
  obtain ⟨rfl, a109, l110, c111, rfl, hp109, _, hl109, hf109⟩ := hs1.val
  have hq108 := hq.ext (hpr.mapExt hx108) (by simp)
  refine ⟨_, _, _, rfl, (rshrink_ok (hpr.ref' hx108) hq108 k (by omega)).mono ?_⟩
  rintro _ H113 ⟨bs4, hs2, hb113, hx113⟩
  obtain ⟨rfl, a114, l115, c116, rfl, hp114, _, hl114, hf114⟩ := hs2.val
  have s1 := hx85.size
  have s2 := hx94.size
  have s3 := hx108.size
  have hpr := hpr.next hb108 hx108 hb113 hx113 hs1.len
  have hp109' := hp109.ext hx113 (fun i hi hi' => by
    have := hf109 i hi
    simp only [blkOf, List.mem_singleton] at hi'
    omega)
  refine ⟨_, _, _, rfl, (same_ok hp109' hp114 (by omega)).mono ?_⟩
  rintro _ _ ⟨rfl, rfl⟩
  obtain ⟨xs, hmap, hby⟩ := hpr.map
  refine ⟨_, rfl, fun _ => (bytes_ok hmap).mono ?_, fun e => absurd e (by simp)⟩
  rintro _ H121 ⟨a', c', rfl, ho, hx121, hf⟩
  have hpr := hpr.more hx121
  refine ⟨_, _, _, rfl, xs, ho.row _ _, (rbytes_ok hpr.ref).mono ?_⟩
  rintro _ H127 ⟨a'', ys, rfl, hb2, ho2, hx2, hf2⟩
  have e := hby.one hb2
  subst e
  have hpr := hpr.more hx2
  refine ⟨_, _, _, rfl, (ho.ext hx2 (by simp)).row _ _, xs, ho2.row _ _, fun _ => (blocks_ok s H127 hs6).mono ?_, fun e => absurd rfl e⟩
  rintro _ _ ⟨rfl, rfl⟩
  refine ⟨_, rfl, (rblocks_ok s H127 hs6).mono ?_⟩
  rintro _ _ ⟨rfl, rfl⟩
  exact ⟨_, rfl, yes rfl, hx40.trans hpr.ext⟩

end Go.Proofs
end

