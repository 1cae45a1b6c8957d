/-
  The contracts of the journal's methods, and the plain law of a journal: what it holds and what a crash leaves. No condition.
-/
import Derived.Test.YtmijngnbbpilmaaGreatJnD

section
open Go Go.Vc
namespace Go.Proofs

theorem JD.of {H : Heap} {F : Nat → Prop} {pj pd : Nat} {J : Jn} {D : Dev} (h : JD H F pj pd J D) : ∃ r, Blk H pj (J.cells pd r) := by
  obtain ⟨_, _, r, l, _, hJ, _⟩ := h
  exact ⟨r, hJ.head⟩

/-- The journal's part turned alone. -/
theorem JD.poke {H H' : Heap} {F : Nat → Prop} {pj pd : Nat} {J J' : Jn} {D : Dev} (h : JD H F pj pd J D) {o : Nat} {v : Value} (hp : Puts H pj o [v] H') (ho : o < 7) (hc : ∀ r, (J.cells pd r).set o v = J'.cells pd r) (ht : J'.taken = J.taken) : JD H' F pj pd J' D ∧ ExtP F H H' := by
  obtain ⟨Fd, Fj, r, l, hd, hJ, hdis, hfd, hfj, hlt⟩ := h
  obtain ⟨h1, h2⟩ := hJ.poke (J' := J') hp ho (hc r) ht
  refine ⟨⟨Fd, Fj, r, l, hd.ext h2.toP (fun k hk hk' => ?_), h1, hdis, hfd, hfj, fun k hk => Nat.lt_of_lt_of_le (hlt k hk) h2.size⟩, h2.lift (fun k _ hk => ?_)⟩
  · simp only [List.mem_singleton] at hk'; subst hk'; exact hdis _ hk hJ.hj
  · simp only [List.mem_singleton] at hk; subst hk; exact hfj _ hJ.hj

theorem jread_ok {H : Heap} {F : Nat → Prop} {pj pd : Nat} {J : Jn} {D : Dev} {n B : Nat} (h : JD H F pj pd J D) (hw : D.Wf n B) (hj : J.Wf n) (hn : n ≤ 4096) (k : Int) :
    Does Tryz.prog 26 [.pointer (some ⟨pj, 0, none⟩), .int .i64 k] H fun v H' => ∃ a c, JD H' F pj pd (jreadM n k J D).1 D ∧ ExtP F H H' ∧ v = .tuple #[.slice a ((jreadM n k J D).2.1.getD []).length c, .int .i64 (jreadM n k J D).2.2] ∧
      Own H' 1 a ((jreadM n k J D).2.1.getD []).length c (bytesV ((jreadM n k J D).2.1.getD [])) ∧ ∀ i ∈ blkOf a, H.size ≤ i := by
  have hsz := hj.size
  have hho := homeN_of hsz
  refine Fn_of_vc Tryz.mixed (vc_jread _ _ _ _) ?_
  have bad : ∀ e, (k < 0 ∨ homeN n J.h.size ≤ k) ∧ e = 1 ∨ ¬ (k < 0 ∨ homeN n J.h.size ≤ k) ∧ J.dead = true ∧ e = 4 → ∃ a c, JD H F pj pd (jreadM n k J D).1 D ∧ ExtP F H H ∧ Value.tuple #[.slice none 0 0, .int .i64 e] = .tuple #[.slice a ((jreadM n k J D).2.1.getD []).length c, .int .i64 (jreadM n k J D).2.2] ∧
      Own H 1 a ((jreadM n k J D).2.1.getD []).length c (bytesV ((jreadM n k J D).2.1.getD [])) ∧ ∀ i ∈ blkOf a, H.size ≤ i := by
    intro e he
    have : jreadM n k J D = (J, none, e) := by
      unfold jreadM
      rcases he with ⟨h1, rfl⟩ | ⟨h1, h2, rfl⟩
      · rw [if_pos h1]
      · rw [if_neg h1, if_pos h2]
    rw [this]
    exact ⟨none, 0, h, ExtP.refl _ _, rfl, Own.nil _ _, by simp [blkOf]⟩
  refine ⟨fun h0 => bad 1 (.inl ⟨.inl h0, rfl⟩), fun h0 => (jhome_ok h hw).mono ?_⟩
  rintro _ _ ⟨rfl, rfl⟩
  refine ⟨_, rfl, fun h1 => bad 1 (.inl ⟨.inr h1, rfl⟩), fun h1 => ?_⟩
  have hin : ¬ (k < 0 ∨ homeN n J.h.size ≤ k) := by omega
  obtain ⟨Fd, Fj, r, l, hd, hJ, hdis, hfd, hfj, hlt⟩ := h
  have hjd : JD H F pj pd J D := ⟨Fd, Fj, r, l, hd, hJ, hdis, hfd, hfj, hlt⟩
  refine ⟨pj, 0, rfl, J.dead, hJ.head.cell 6, fun h2 => bad 4 (.inr ⟨hin, h2, rfl⟩), fun h2 => ?_⟩
  have hM : jreadM n k J D = match tGet J.taken k with
    | some x => (J, some x, 0)
    | none => if D.dead = true then (endsM J 4, none, 4) else (endsM J 0, D.now[(1 + J.h.size + k).toNat]?, 0) := by
    unfold jreadM; rw [if_neg hin, if_neg (by simp [h2])]; rfl
  refine ⟨pj, 0, rfl, _, hJ.head.cell 5, r, l, rfl, hJ.map, ?_⟩
  rcases TVs.get k (.slice none 0 0) hJ.vals with ⟨g1, g2, g3⟩ | ⟨x, g1, ⟨a, c, g2, g3, g4⟩, g5⟩
  · rw [g2]
    refine ⟨_, _, _, rfl, fun h3 => absurd h3 (by simp [g3]), fun _ => ?_⟩
    rw [g1] at hM
    simp only at hM
    refine ⟨pj, 0, rfl, _, hJ.head.cell 0, pj, 0, rfl, _, hJ.head.cell 3, ⟨by omega, by omega⟩, ⟨by omega, by omega⟩, (dread_ok hd hw (1 + J.h.size + k)).mono ?_⟩
    rintro _ H27 ⟨hx27, hr⟩
    have hjd27 := hjd.ext hx27.toP (by simp)
    rcases hr with ⟨hno, _⟩ | ⟨_, hdd, rfl⟩ | ⟨_, hdd, a28, c30, b, hb, rfl, ho, hf⟩
    · omega
    · refine ⟨_, _, _, _, rfl, (ends_ok hjd27 4).mono ?_⟩
      rintro _ H33 ⟨rfl, hjd33, hx33⟩
      rw [hM, if_pos hdd]
      exact ⟨_, rfl, none, 0, hjd33, hx27.anyP.trans hx33, rfl, Own.nil _ _, by simp [blkOf]⟩
    · refine ⟨_, _, _, _, rfl, (ends_ok hjd27 0).mono ?_⟩
      rintro _ H33 ⟨rfl, hjd33, hx33⟩
      rw [hM, if_neg (by simp [hdd])]
      simp only [hb, Option.getD_some]
      exact ⟨_, rfl, a28, c30, hjd33, hx27.anyP.trans hx33, rfl, ho.extP hx33 (fun i hi hF => by have := hf i hi; have := hlt i hF; omega), hf⟩
  · rw [g1] at hM
    simp only at hM
    have hx128 : x.length = 128 := by
      have hmem : ∀ {t : List Wr} {x}, tGet t k = some x → (k, x) ∈ t := by
        intro t
        induction t with
        | nil => intro x h; cases h
        | cons p t ih =>
          intro x h
          simp only [tGet] at h
          split at h
          · rename_i e; cases h; rw [← e]; simp
          · exact List.mem_cons_of_mem _ (ih h)
      exact (hj.took.1 _ (hmem g1)).2.2
    rw [g2]
    refine ⟨_, _, _, rfl, fun _ => (clonel_ok g3 (by omega)).mono ?_, fun h3 => absurd h3 (by simp [g5])⟩
    rintro _ H16 ⟨a17, c19, rfl, ho, hx, hf⟩
    rw [hM]
    exact ⟨_, _, _, rfl, a17, c19, hjd.ext hx.toP (by simp), hx.anyP, rfl, ho, hf⟩

/-- A transaction that is kept by whatever turns F. -/
def KeptW (F : Nat → Prop) (H : Heap) (a : Option Addr) (l : List Wr) : Prop := ∀ H', ExtP F H H' → SeqV writeE H' a l
theorem KeptW.at_ {F : Nat → Prop} {H : Heap} {a : Option Addr} {l : List Wr} (h : KeptW F H a l) : SeqV writeE H a l := h H (ExtP.refl _ _)
theorem KeptW.go {F : Nat → Prop} {H H1 : Heap} {a : Option Addr} {l : List Wr} (h : KeptW F H a l) (hx : ExtP F H H1) : KeptW (grow F H H1) H1 a l := fun H' hx' => h H' (hx.trans' hx' (fun i hi => by
  rcases hi with hi | hi
  · exact .inr hi
  · exact .inl hi.1))
theorem KeptW.on {F : Nat → Prop} {H H1 : Heap} {a : Option Addr} {l : List Wr} (h : KeptW F H a l) (hx : ExtP F H H1) : KeptW F H1 a l := fun H' hx' => h H' (hx.trans hx')

theorem layW_used (n : Nat) : ∀ (bs : List Octs) (u : Int) (D : Dev), u ≤ (layW n bs u D).2.1 ∧ (layW n bs u D).2.1 ≤ u + bs.length
  | [], u, D => by simp [layW]
  | b :: bs, u, D => by
    rw [layW]
    split
    · simp
      omega
    · have := layW_used n bs (u + 1) (writeD D n (1 + u) b).1
      simp only [List.length_cons]; omega

set_option maxHeartbeats 1000000 in
theorem jlay_ok {H : Heap} {F : Nat → Prop} {pj pd : Nat} {J : Jn} {D : Dev} {n B : Nat} (h : JD H F pj pd J D) (hw : D.Wf n B) (hB : B ≤ 800000000) (hn : n ≤ 4096) (hj : J.Wf n) (hseq : J.h.seq ≤ 900000000000)
    {l : List Wr} {a : Option Addr} {c : Nat} (hk : KeptW F H a l) (hm : MayP l (homeN n J.h.size)) (hfit : needsN l.length ≤ J.h.size - J.used) :
    Does Tryz.prog 54 [.pointer (some ⟨pj, 0, none⟩), .slice a l.length c] H fun v H' => v = .int .i64 (layM n l J D).2.2 ∧ JD H' (grow F H H') pj pd (layM n l J D).2.1 (layM n l J D).1 ∧ ExtP F H H' := by
  have hsz := hj.size
  have hus := hj.used
  have hsq := hj.seq
  have hho := homeN_of hsz
  have hfew := hm.few (n := 4096) (by omega)
  have hfull := hm.full
  have hcn : cntN l ≤ 10000 := by have := needs_nat l; omega
  refine Fn_of_vc Tryz.mixed (vc_jlay _ _ _ _ _ _) ?_
  obtain ⟨Fd, Fj, r, ml, hd, hJ, hdis, hfd, hfj, hlt⟩ := h
  refine ⟨pj, 0, rfl, _, hJ.head.cell 1, _, hJ.head.cell 2, _, hJ.head.cell 3, (laid_ok J.h (c := c) (by omega) hfull hk.at_).mono ?_⟩
  rintro _ H7 ⟨a8, c10, rfl, hmy, hx7⟩
  refine ⟨_, _, _, rfl, ?_⟩
  have hs7 := hx7.size
  have hlaid := laidB_len J.h l
  have hlb : ∀ x ∈ laidB J.h l, x.length = 128 := fun x hx => by
    unfold laidB at hx
    obtain ⟨i, hi, rfl⟩ := List.mem_map.1 hx
    exact jblk_len hfull (by simpa using hi)
  unfold layM
  generalize hbs : laidB J.h l = bs at *
  have hd7 := hd.ext hx7.toP (by simp)
  have hJ7 := hJ.extP hx7.toP (by simp) (fun _ h => h) (fun k hk => Nat.lt_of_lt_of_le (hJ.lt k hk) hs7)
  have hpj := hJ.lt _ hJ.hj
  have hpr := hJ.lt _ hJ.hr
  refine ⟨fun i H' => ∃ (j : Nat) (D' : Dev), i = j ∧ j ≤ bs.length ∧ layW n bs J.used D = layW n (bs.drop j) (J.used + j) D' ∧ D'.Wf n (B + j) ∧ IsDev H' (grow Fd H7 H') pd D' ∧ IsJn H' Fj pj pd { J with used := J.used + j } r ml ∧ ExtP (fun k => Fd k ∨ k = pj) H7 H', fun i _ => bs.length - i.toNat,
    ⟨0, D, rfl, by omega, by simp, hw, hd7.up (fun _ => .inl) (grow_lt (fun k hk => hd7.lt k hk) (Nat.le_refl _)), by simpa using hJ7, ExtP.refl _ _⟩, ?_⟩
  rintro _ H14 ⟨j, D', rfl, hjl, hgo, hw', hd', hJ', hx'⟩
  have hs14 := hx'.size
  have fin : ∀ {H' : Heap} {D' : Dev} {J' : Jn} {Fj' : Nat → Prop} {ml' : List (Int × Value)}, IsDev H' (grow Fd H7 H14) pd D' → IsJn H' Fj' pj pd J' r ml' → ExtP (fun k => Fd k ∨ Fj k) H7 H' → H14.size ≤ H'.size → (∀ k, Fj' k → Fj k ∨ (H14.size ≤ k ∧ k < H'.size)) → JD H' (grow F H H') pj pd J' D' ∧ ExtP F H H' := by
    intro H' D' J' Fj' ml' hd' hJ' hx' hss hFj
    refine ⟨⟨_, Fj', r, ml', hd', hJ', ?_, ?_, ?_, grow_lt hlt (by omega)⟩, hx7.anyP.trans (hx'.mono (fun k _ hk => by
      rcases hk with hk | hk
      · exact hfd k hk
      · exact hfj k hk))⟩
    · rintro k (hk | hk) hk'
      · rcases hFj k hk' with h' | h'
        · exact hdis k hk h'
        · have := hd.lt k hk; omega
      · rcases hFj k hk' with h' | h'
        · have := hJ.lt k h'; omega
        · omega
    · rintro k (hk | hk)
      · exact .inl (hfd k hk)
      · exact .inr ⟨by omega, by omega⟩
    · intro k hk
      rcases hFj k hk with h' | h'
      · exact .inl (hfj k h')
      · exact .inr ⟨by omega, by omega⟩
  have hxF : ∀ {H'}, ExtP (fun k => Fd k ∨ k = pj) H7 H' → ExtP (fun k => Fd k ∨ Fj k) H7 H' := fun hx => hx.mono (fun k _ hk => by
    rcases hk with hk | rfl
    · exact .inl hk
    · exact .inr hJ.hj)
  refine ⟨fun hlt1 => ?_, fun hge => ?_⟩
  · have hi : bs[j]? = some bs[j] := List.getElem?_eq_getElem (by omega)
    have hdr : bs.drop j = bs[j] :: bs.drop (j + 1) := List.drop_eq_getElem_cons (by omega)
    have hm14 := hmy.extP hx' (fun k _ h0 hk => by
      rcases hk with hk | rfl
      · have := hd.lt k hk; omega
      · omega)
    obtain ⟨G, hG, hG2, hG3⟩ := hm14
    obtain ⟨b15, o16, u, ea, hc, hok, hfp⟩ := hG.get1 rfl hi
    obtain ⟨a17, m17, c19, eu, hle, hrow, _⟩ := hok
    cases eu
    have hm17 : bs[j].length = m17 := by have := hrow.1; rw [bytesV_length] at this; omega
    have hfp' : ∀ k ∈ blkOf a17, H.size ≤ k := fun k hk => (hG2 k (hfp k hk)).1
    have hfp2 : ∀ k ∈ blkOf a17, k < H7.size := by
      obtain ⟨G', hG', hG2', hG3'⟩ := hmy
      obtain ⟨b15', o16', u', ea', hc', hok', hfp'⟩ := hG'.get1 rfl hi
      have e1 : a8 = some ⟨b15, o16, none⟩ := ea
      rw [e1] at ea'
      cases ea'
      have hne : ¬ (Fd b15 ∨ b15 = pj) := by
        have := hG3' b15 (by rw [e1]; simp [blkOf])
        rintro (hk | rfl)
        · have := hd.lt _ hk; omega
        · omega
      have := hcell_extP hc' hx' hne
      rw [hc] at this
      cases this
      intro k hk
      exact (hG2' k (hfp' k hk)).2.1
    generalize bs[j] = b at *
    have hu : J.used + j + 1 ≤ J.h.size := by have := needs_nat l; omega
    refine ⟨by omega, by omega, b15, o16, ea, a17, m17, c19, by rw [Int.toNat_natCast]; exact hc, pj, 0, rfl, _, hJ'.head.cell 0, pj, 0, rfl, _, hJ'.head.cell 4, ⟨by show _ ≤ 1 + (J.used + j); omega, by show 1 + (J.used + j) ≤ _; omega⟩, (dwrite_ok hd' hw' (by omega) (1 + (J.used + j)) (KeptB.of hrow (fun i hi hg => ?_))).mono ?_⟩
    · have h1 := hfp' i hi
      have h2 := hfp2 i hi
      rcases hg with hg | hg
      · have := hd.lt i hg; omega
      · omega
    rintro _ H27 ⟨rfl, hd27, hx27⟩
    have hs27 := hx27.size
    have hw27 := writeWf hw' (1 + (J.used + j)) b
    have hd27' := hd27.up (grow_sub (F := Fd) hs14 hs27) (grow_lt (fun k hk => hd7.lt k hk) (by omega))
    have hx27' : ExtP (fun k => Fd k ∨ k = pj) H7 H27 := hx'.trans' hx27 (fun i hi => by
      rcases hi with hi | hi
      · exact .inr (.inl hi)
      · exact .inl hi.1)
    have hJ27 := hJ'.extP (F' := Fj) hx27 (fun k hk hk' => by
      rcases hk' with hk' | hk'
      · exact hdis k hk' hk
      · have := hJ.lt k hk; omega) (fun _ h => h) (fun k hk => by have := hJ.lt k hk; omega)
    rw [hdr, layW] at hgo
    refine ⟨_, rfl, fun hne => ?_, fun he => ?_⟩
    · rw [if_pos hne] at hgo
      rw [hgo]
      simp only [if_pos hne]
      refine ⟨trivial, ?_⟩
      refine ⟨⟨_, Fj, r, ml, hd27', hJ27, ?_, ?_, fun k hk => .inl (hfj k hk), grow_lt hlt (by omega)⟩, hx7.anyP.trans ((hxF hx27').mono (fun k _ hk => by
        rcases hk with hk | hk
        · exact hfd k hk
        · exact hfj k hk))⟩
      · rintro k (hk | hk) hk'
        · exact hdis k hk hk'
        · have := hJ.lt k hk'; omega
      · rintro k (hk | hk)
        · exact .inl (hfd k hk)
        · exact .inr ⟨by omega, by omega⟩
    · rw [if_neg he] at hgo
      refine ⟨pj, 0, rfl, _, hJ27.head.cell 4, ⟨by show _ ≤ J.used + j + 1; omega, by show J.used + j + 1 ≤ _; omega⟩, pj, 0, rfl, hJ27.head.cells 1 4 (by simp [Jn.cells]), fun H34 hp34 => ?_⟩
      obtain ⟨hJ34, hx34⟩ := hJ27.poke (J' := { J with used := J.used + (j + 1 : Nat) }) hp34 (by decide) (by simp [Jn.cells]; omega) rfl
      have hs34 : H34.size = H27.size := hp34.size
      refine ⟨⟨by omega, by omega⟩, ⟨j + 1, _, by omega, by omega, by rw [hgo]; congr 1; omega, hw27.up (by omega), ?_, hJ34, hx27'.trans (hx34.toP.mono (fun k _ hk => .inr (by simpa using hk)))⟩, by simp only []; omega⟩
      have := hd27'.ext hx34.toP (fun k hk hk' => by
        simp only [List.mem_singleton] at hk'; subst hk'
        rcases hk with hk | hk
        · exact hdis _ hk hJ.hj
        · omega)
      refine this.up (fun k hk => by unfold grow at hk ⊢; rw [hs34]; exact hk) (grow_lt (fun k hk => hd7.lt k hk) (by omega))
  · have : j = bs.length := by omega
    subst this
    rw [List.drop_eq_nil_of_le (by omega), layW] at hgo
    rw [hgo]
    simp only [ne_eq, not_true, if_false]
    have hKW : SeqV writeE H14 a l := hk H14 (hx7.anyP.trans (hx'.mono (fun k _ hk => by
      rcases hk with hk | rfl
      · exact hfd k hk
      · exact hfj _ hJ.hj)))
    refine ⟨fun i H' => ∃ (j : Nat) (ml' : List (Int × Value)), i = j ∧ j ≤ l.length ∧ IsJn H' (grow Fj H14 H') pj pd { J with used := J.used + bs.length, taken := tAll J.taken (l.take j) } r ml' ∧ ExtP (fun k => k = pj ∨ k = r) H14 H', fun i _ => l.length - i.toNat,
      ⟨0, ml, rfl, by omega, by simpa [tAll] using hJ'.extP (ExtP.refl (fun _ => False) _) (by simp) (fun _ h => .inl h) (grow_lt (fun k hk => by have := hJ.lt k hk; omega) (Nat.le_refl _)), ExtP.refl _ _⟩, ?_⟩
    rintro _ H38 ⟨i, ml', rfl, hil, hJ38, hx38⟩
    have hs38 := hx38.size
    have hxF38 : ExtP F H H38 := (hx7.anyP.trans (hx'.mono (fun k _ hk => by
      rcases hk with hk | rfl
      · exact hfd k hk
      · exact hfj _ hJ.hj))).trans (hx38.mono (fun k _ hk => by
      rcases hk with rfl | rfl
      · exact hfj _ hJ.hj
      · exact hfj _ hJ.hr))
    refine ⟨fun hlt2 => ?_, fun hge2 => ?_⟩
    · have hi : l[i]? = some l[i] := List.getElem?_eq_getElem (by omega)
      have htk : l.take (i + 1) = l.take i ++ [l[i]] := by rw [List.take_add_one, hi]; rfl
      obtain ⟨b39, o40, a42, c44, ea, g0, g1, gr, gf⟩ := (hk H38 hxF38).wr hi
      have hw128 : l[i].2.length = 128 := hfull _ (List.getElem_mem _)
      generalize l[i] = w at *
      refine ⟨by omega, by omega, b39, o40, ea, _, by rw [Int.toNat_natCast]; exact g0, a42, _, c44, by rw [Int.toNat_natCast]; exact g1, fun b45 H46 hn46 => ⟨hn46.blk.cells _ _ (by simp), fun H47 hp47 => ?_⟩⟩
      have hb47 : Blk H47 b45 [.int .i64 w.1, .slice a42 w.2.length c44] := by simpa [splice] using hp47.blk hn46.blk (by simp)
      have e45 := hn46.eq
      have hx47 : Ext [] H38 H47 := ext_new hn46.ext hp47.ext (by simp; omega)
      have hs47 := hx47.size
      have hJ47 := hJ38.extP (F' := grow Fj H14 H47) hx47.toP (by simp) (grow_in (fun _ h => h) (Nat.le_refl _) hs47) (grow_lt (fun k hk => by have := hJ.lt k hk; omega) (by omega))
      refine ⟨pj, 0, rfl, _, hJ47.head.cell 5, w.1, hb47.cell 0, a42, _, c44, hb47.cell 1, (clonel_ok (gr.ext hx47 (by simp)) (by omega)).mono ?_⟩
      rintro _ H56 ⟨a57, c59, rfl, ho56, hx56, hf56⟩
      have hs56 := hx56.size
      have hJ56 := hJ47.extP (F' := grow Fj H14 H56) hx56.toP (by simp) (grow_in (fun _ h => h) (Nat.le_refl _) hs56) (grow_lt (fun k hk => by have := hJ.lt k hk; omega) (by omega))
      refine ⟨_, _, _, rfl, ⟨(hb47.ext hx56 (by simp)).cell 0, trivial⟩, ⟨hJ56.head.cell 5, trivial⟩, r, ml', rfl, hJ56.map, fun H62 hp62 => ?_⟩
      obtain ⟨hJ62, hx62⟩ := hJ56.take (k := w.1) (x := w.2) ⟨a57, c59, rfl, ho56.row _ _, fun k hk => by
        have h1 := hf56 k hk
        have h2 := ho56.lt k hk
        exact ⟨.inr ⟨by omega, by omega⟩, by omega, by omega⟩⟩ hp62
      have hs62 : H62.size = H56.size := by obtain ⟨_, _, _, rfl, _⟩ := hp62; simp
      refine ⟨⟨by omega, by omega⟩, ⟨i + 1, mapSet ml' w.1 (.slice a57 w.2.length c59), by omega, by omega, ?_, hx38.trans ((hx47.trans hx56).anyP.trans (hx62.toP.mono (fun k _ hk => .inr (by simpa using hk))))⟩, by simp only []; omega⟩
      rw [htk, tAll_snoc]
      have : grow Fj H14 H62 = grow Fj H14 H56 := by unfold grow; rw [hs62]
      rw [this]
      exact hJ62
    · have : i = l.length := by omega
      subst this
      rw [List.take_length] at hJ38
      refine ⟨pj, 0, rfl, _, hJ38.head.cell 2, ⟨by show _ ≤ J.h.seq + 1; omega, by show J.h.seq + 1 ≤ _; omega⟩, pj, 0, rfl, hJ38.head.cells 1 2 (by simp [Jn.cells]), fun H68 hp68 => ?_⟩
      obtain ⟨hJ68, hx68⟩ := hJ38.poke (J' := { J with used := J.used + bs.length, taken := tAll J.taken l, h := { J.h with seq := J.h.seq + 1 } }) hp68 (by decide) (by simp [Jn.cells]) rfl
      have hs68 : H68.size = H38.size := hp68.size
      have hx1468 : ExtP (fun k => k = pj ∨ k = r) H14 H68 := hx38.trans (hx68.toP.mono (fun k _ hk => .inl (by simpa using hk)))
      refine ⟨trivial, fin (hd'.ext hx1468 (fun k hk hk' => ?_)) hJ68 ((hxF hx').trans (hx1468.mono (fun k _ hk => ?_))) (by omega) (fun k hk => ?_)⟩
      · have hkj : Fj k := by
          rcases hk' with rfl | rfl
          · exact hJ.hj
          · exact hJ.hr
        rcases hk with hk | hk
        · exact hdis k hk hkj
        · have := hJ.lt k hkj; omega
      · rcases hk with rfl | rfl
        · exact .inr hJ.hj
        · exact .inr hJ.hr
      · rcases hk with hk | hk
        · exact .inl hk
        · exact .inr ⟨by omega, by omega⟩
end Go.Proofs
end

section
open Go Go.Vc
namespace Go.Proofs

/-! ### A journal that is right, and stays so -/
theorem Jn.Wf.ends {J : Jn} {n : Nat} (h : J.Wf n) (e : Int) : (endsM J e).Wf n := ⟨h.size, h.seq, h.epoch, h.used, h.took⟩
theorem flush_ret (D : Dev) : (flushD D).2 = 0 ∨ (flushD D).2 = 4 := by unfold flushD; split <;> simp

theorem begin_jwf {n : Nat} {h : Hd} {J : Jn} {D : Dev} (hj : J.Wf n) (hh : 4 ≤ h.size ∧ h.size ≤ n - 4) (hs : 0 ≤ h.seq ∧ h.seq ≤ 1000000000000) (he : 0 ≤ h.epoch ∧ h.epoch ≤ 1000000000000) : (beginM n h J D).2.1.Wf n := by
  unfold beginM
  split
  · exact hj
  · split
    · exact hj
    · exact ⟨hh, hs, he, ⟨by simp, by show 0 ≤ h.size; omega⟩, TOk.nil _⟩

theorem ckpt_jwf {n : Nat} {J : Jn} {D : Dev} (hj : J.Wf n) : (ckptM n J D).2.1.Wf n := by
  unfold ckptM
  split
  · exact hj
  · split
    · exact hj
    · exact begin_jwf hj hj.size hj.seq hj.epoch
theorem ckpt_dwf {n B : Nat} {J : Jn} {D : Dev} (hw : D.Wf n B) (hj : J.Wf n) (hn : n ≤ 4096) : (ckptM n J D).1.Wf n (B + 4100) := by
  have h1 := flushWf hw
  have h2 := goHome_wf h1 hj.took (by rw [homeN_of hj.size]; have := hj.size; omega)
  unfold ckptM
  split
  · exact h1.up (by omega)
  · split
    · exact h2.up (by omega)
    · exact (begin_wf h2).up (by omega)
theorem checkpoint_jwf {n : Nat} {J : Jn} {D : Dev} (hj : J.Wf n) : (checkpointM n J D).2.1.Wf n := by
  unfold checkpointM
  split
  · exact hj
  · exact (ckpt_jwf hj).ends _
theorem checkpoint_dwf {n B : Nat} {J : Jn} {D : Dev} (hw : D.Wf n B) (hj : J.Wf n) (hn : n ≤ 4096) : (checkpointM n J D).1.Wf n (B + 4100) := by
  unfold checkpointM
  split
  · exact hw.up (by omega)
  · exact ckpt_dwf hw hj hn
theorem sync_jwf {n : Nat} {J : Jn} {D : Dev} (hj : J.Wf n) : (syncM J D).2.1.Wf n := by
  unfold syncM
  split
  · exact hj
  · exact hj.ends _
theorem sync_dwf {n B : Nat} {J : Jn} {D : Dev} (hw : D.Wf n B) : (syncM J D).1.Wf n (B + 1) := by
  unfold syncM
  split
  · exact hw.up (by omega)
  · exact flushWf hw

theorem begin_keep {n : Nat} {h : Hd} {J : Jn} {D : Dev} : (beginM n h J D).2.1.dead = J.dead ∧ ((beginM n h J D).2.1 = J ∨ (beginM n h J D).2.1 = { J with h := h, used := 0, taken := [] }) := by
  unfold beginM
  split
  · exact ⟨rfl, .inl rfl⟩
  · split
    · exact ⟨rfl, .inl rfl⟩
    · exact ⟨rfl, .inr rfl⟩
theorem ckpt_keep {n : Nat} {J : Jn} {D : Dev} : (ckptM n J D).2.1.h = J.h := by
  unfold ckptM
  split
  · rfl
  · split
    · rfl
    · rcases (begin_keep (n := n) (h := J.h) (J := J) (D := (goHomeM n J (flushD D).1).1)).2 with h | h <;> rw [h]
theorem checkpoint_h {n : Nat} {J : Jn} {D : Dev} : (checkpointM n J D).2.1.h = J.h := by
  unfold checkpointM
  split
  · rfl
  · exact ckpt_keep
/-- Behind a checkpoint that was OK the journal is free. -/
theorem checkpoint_ok0 {n : Nat} {J : Jn} {D : Dev} (h : (checkpointM n J D).2.2 = 0) : (checkpointM n J D).2.1.used = 0 ∧ (checkpointM n J D).2.1.taken = [] ∧ J.dead = false ∧ (checkpointM n J D).2.1.dead = false := by
  unfold checkpointM at h ⊢
  split at h
  · simp at h
  · rename_i hd
    rw [if_neg hd]
    simp only at h ⊢
    have hd' : J.dead = false := by simpa using hd
    have : (ckptM n J D).2.1 = { J with h := J.h, used := 0, taken := [] } := by
      unfold ckptM at h ⊢
      split at h
      · rename_i h1; exact absurd h h1
      · rename_i h1
        rw [if_neg h1]
        split at h
        · rename_i h2; exact absurd h h2
        · rename_i h2
          rw [if_neg h2]
          unfold beginM at h ⊢
          split at h
          · rename_i h3; exact absurd h h3
          · rename_i h3
            rw [if_neg h3]
            split at h
            · rename_i h4; exact absurd h h4
            · rename_i h4
              rw [if_neg h4]
    rw [h, this]
    exact ⟨rfl, rfl, hd', by simp [endsM, hd']⟩

theorem lay_jwf {n : Nat} {l : List Wr} {J : Jn} {D : Dev} (hj : J.Wf n) (hseq : J.h.seq ≤ 900000000000) (hm : MayP l (homeN n J.h.size)) (hfit : needsN l.length ≤ J.h.size - J.used) : (layM n l J D).2.1.Wf n := by
  have h1 := layW_used n (laidB J.h l) J.used D
  have h2 := laidB_len J.h l
  have h3 := needs_nat l
  have hu := hj.used
  have hs := hj.seq
  unfold layM
  simp only
  split
  · exact ⟨hj.size, hj.seq, hj.epoch, ⟨by show 0 ≤ (layW n (laidB J.h l) J.used D).2.1; omega, by show (layW n (laidB J.h l) J.used D).2.1 ≤ J.h.size; omega⟩, hj.took⟩
  · exact ⟨hj.size, ⟨by show 0 ≤ J.h.seq + 1; omega, by show J.h.seq + 1 ≤ _; omega⟩, hj.epoch, ⟨by show 0 ≤ (layW n (laidB J.h l) J.used D).2.1; omega, by show (layW n (laidB J.h l) J.used D).2.1 ≤ J.h.size; omega⟩, hj.took.all l hm.2.1⟩
theorem lay_dwf {n B : Nat} {l : List Wr} {J : Jn} {D : Dev} (hw : D.Wf n B) (hcn : cntN l ≤ 10000) : (layM n l J D).1.Wf n (B + 10000) := by
  have h1 := layW_wf (n := n) (laidB J.h l) J.used hw
  rw [laidB_len] at h1
  unfold layM
  simp only
  split <;> exact h1.up (by omega)
theorem may_few {n : Nat} {l : List Wr} {J : Jn} (hj : J.Wf n) (hn : n ≤ 4096) (hm : MayP l (homeN n J.h.size)) : cntN l ≤ 10000 := by
  have := hm.few (n := 4096) (by rw [homeN_of hj.size]; have := hj.size; omega)
  have h2 := needs_nat l
  unfold needsN at h2
  split at h2 <;> omega
theorem mayB_iff {l : List Wr} {homes : Int} (h : mayB l homes ≠ false) : MayP l homes := by simpa [mayB] using h

theorem commit_jwf {n : Nat} {l : List Wr} {J : Jn} {D : Dev} (hj : J.Wf n) (hseq : J.h.seq ≤ 900000000000) : (commitM n l J D).2.1.Wf n := by
  unfold commitM
  split
  · exact hj
  rename_i h1
  have hm := mayB_iff h1
  split
  · exact hj
  split
  · exact hj
  rename_i h2
  split
  · split
    · exact checkpoint_jwf hj
    · rename_i h3
      have := checkpoint_ok0 (n := n) (J := J) (D := D) (by simpa using h3)
      have hh := checkpoint_h (n := n) (J := J) (D := D)
      exact (lay_jwf (checkpoint_jwf hj) (by rw [hh]; exact hseq) (by rw [hh]; exact hm) (by rw [hh, this.1]; omega)).ends _
  · exact (lay_jwf hj hseq hm (by omega)).ends _
theorem commit_dwf {n B : Nat} {l : List Wr} {J : Jn} {D : Dev} (hw : D.Wf n B) (hj : J.Wf n) (hn : n ≤ 4096) : (commitM n l J D).1.Wf n (B + 14100) := by
  unfold commitM
  split
  · exact hw.up (by omega)
  rename_i h1
  have hcn := may_few hj hn (mayB_iff h1)
  split
  · exact hw.up (by omega)
  split
  · exact hw.up (by omega)
  split
  · split
    · exact (checkpoint_dwf hw hj hn).up (by omega)
    · exact (lay_dwf (checkpoint_dwf hw hj hn) hcn).up (by omega)
  · exact (lay_dwf hw hcn).up (by omega)

/-! ### The contracts -/
theorem sync_ok {H : Heap} {F : Nat → Prop} {pj pd : Nat} {J : Jn} {D : Dev} {n B : Nat} (h : JD H F pj pd J D) (hw : D.Wf n B) (hB : B ≤ 900000000) :
    Does Tryz.prog 10 [.pointer (some ⟨pj, 0, none⟩)] H fun v H' => v = .int .i64 (syncM J D).2.2 ∧ JD H' (grow F H H') pj pd (syncM J D).2.1 (syncM J D).1 ∧ ExtP F H H' := by
  obtain ⟨r, hb⟩ := h.of
  refine Fn_of_vc Tryz.mixed (vc_sync _ _ _) ?_
  refine ⟨pj, 0, rfl, J.dead, hb.cell 6, fun hd => ?_, fun hd => ?_⟩
  · have : syncM J D = (D, J, 4) := if_pos hd
    rw [this]
    exact ⟨rfl, h.up (fun _ => .inl) (grow_lt h.lt (Nat.le_refl _)), ExtP.refl _ _⟩
  · have : syncM J D = ((flushD D).1, endsM J (flushD D).2, (flushD D).2) := if_neg (by simp [hd])
    rw [this]
    obtain ⟨Fd, Fj, r, l, hdv, hJ, hdis, hfd, hfj, hlt⟩ := h
    refine ⟨pj, 0, rfl, _, hb.cell 0, (dflush_ok hdv hw (by omega)).mono ?_⟩
    rintro _ H8 ⟨rfl, hd8, hx8⟩
    have hs8 := hx8.size
    have hJ8 := hJ.extP (F' := Fj) hx8 (fun k hk hk' => hdis k hk' hk) (fun _ h => h) (fun k hk => by have := hJ.lt k hk; omega)
    have hjd8 : JD H8 (grow F H H8) pj pd J (flushD D).1 := ⟨_, Fj, r, l, hd8, hJ8, fun k hk hk' => by
      rcases hk with hk | hk
      · exact hdis k hk hk'
      · have := hJ.lt k hk'; omega, grow_in hfd (Nat.le_refl _) (Nat.le_refl _), fun k hk => .inl (hfj k hk), grow_lt hlt hs8⟩
    refine ⟨_, rfl, (ends_ok hjd8 (flushD D).2).mono ?_⟩
    rintro _ H11 ⟨rfl, hjd11, hx11⟩
    have hs11 := hx11.size
    exact ⟨_, rfl, rfl, hjd11.up (fun k hk => by
      rcases hk with hk | hk
      · exact .inl hk
      · exact .inr ⟨hk.1, by omega⟩) (grow_lt hlt (by omega)), (hx8.mono (fun k _ hk => hfd k hk)).trans' hx11 (fun i hi => by
      rcases hi with hi | hi
      · exact .inr hi
      · exact .inl hi.1)⟩

theorem ckpt_ok {H : Heap} {F : Nat → Prop} {pj pd : Nat} {J : Jn} {D : Dev} {n B : Nat} (h : JD H F pj pd J D) (hw : D.Wf n B) (hB : B ≤ 800000000) (hn : n ≤ 4096) (hj : J.Wf n) :
    Does Tryz.prog 44 [.pointer (some ⟨pj, 0, none⟩)] H fun v H' => v = .int .i64 (ckptM n J D).2.2 ∧ JD H' (grow F H H') pj pd (ckptM n J D).2.1 (ckptM n J D).1 ∧ ExtP F H H' := by
  obtain ⟨r, hb⟩ := h.of
  have hlt := h.lt
  refine Fn_of_vc Tryz.mixed (vc_ckpt _ _ _) ?_
  obtain ⟨Fd, Fj, r', l, hdv, hJ, hdis, hfd, hfj, _⟩ := h
  refine ⟨pj, 0, rfl, _, hb.cell 0, (dflush_ok hdv hw (by omega)).mono ?_⟩
  rintro _ H8 ⟨rfl, hd8, hx8⟩
  have hs8 := hx8.size
  have hJ8 := hJ.extP (F' := Fj) hx8 (fun k hk hk' => hdis k hk' hk) (fun _ h => h) (fun k hk => by have := hJ.lt k hk; omega)
  have hxF8 : ExtP F H H8 := hx8.mono (fun k _ hk => hfd k hk)
  have hjd8 : JD H8 (grow F H H8) pj pd J (flushD D).1 := ⟨_, Fj, r', l, hd8, hJ8, fun k hk hk' => by
    rcases hk with hk | hk
    · exact hdis k hk hk'
    · have := hJ.lt k hk'; omega, grow_in hfd (Nat.le_refl _) (Nat.le_refl _), fun k hk => .inl (hfj k hk), grow_lt hlt hs8⟩
  have step : ∀ {A C : Heap}, ExtP F H A → ExtP (grow F H A) A C → ExtP F H C := fun h1 h2 => h1.trans' h2 (fun i hi => by
    rcases hi with hi | hi
    · exact .inr hi
    · exact .inl hi.1)
  unfold ckptM
  refine ⟨_, rfl, fun hne => ?_, fun he => ?_⟩
  · rw [if_pos hne]; exact ⟨rfl, hjd8, hxF8⟩
  rw [if_neg he]
  have hw8 := flushWf hw
  refine (goHome_ok hjd8 hw8 (by omega) hn hj).mono ?_
  rintro _ H9 ⟨rfl, hjd9, hx9⟩
  have hs9 := hx9.size
  have hxF9 := step hxF8 hx9
  have hjd9' := hjd9.up (F' := grow F H H9) (grow_sub hs8 hs9) (grow_lt hlt (by omega))
  refine ⟨_, rfl, fun hne => ?_, fun he => ?_⟩
  · rw [if_pos hne]; exact ⟨rfl, hjd9', hxF9⟩
  rw [if_neg he]
  have hw9 := goHome_wf hw8 hj.took (by rw [homeN_of hj.size]; have := hj.size; omega)
  obtain ⟨r9, hb9⟩ := hjd9'.of
  refine ⟨pj, 0, rfl, _, hb9.cell 1, _, hb9.cell 2, _, hb9.cell 3, (begin_ok hjd9' hw9 (by omega) J.h).mono ?_⟩
  rintro _ H16 ⟨rfl, hjd16, hx16⟩
  exact ⟨_, rfl, rfl, hjd16.up (grow_sub (by omega) hx16.size) (grow_lt hlt (by have := hx16.size; omega)), step hxF9 hx16⟩

theorem checkpoint_ok {H : Heap} {F : Nat → Prop} {pj pd : Nat} {J : Jn} {D : Dev} {n B : Nat} (h : JD H F pj pd J D) (hw : D.Wf n B) (hB : B ≤ 800000000) (hn : n ≤ 4096) (hj : J.Wf n) :
    Does Tryz.prog 12 [.pointer (some ⟨pj, 0, none⟩)] H fun v H' => v = .int .i64 (checkpointM n J D).2.2 ∧ JD H' (grow F H H') pj pd (checkpointM n J D).2.1 (checkpointM n J D).1 ∧ ExtP F H H' := by
  obtain ⟨r, hb⟩ := h.of
  have hlt := h.lt
  refine Fn_of_vc Tryz.mixed (vc_checkpoint _ _ _) ?_
  unfold checkpointM
  refine ⟨pj, 0, rfl, J.dead, hb.cell 6, fun hd => ?_, fun hd => (ckpt_ok h hw hB hn hj).mono ?_⟩
  · rw [if_pos hd]
    exact ⟨rfl, h.up (fun _ => .inl) (grow_lt h.lt (Nat.le_refl _)), ExtP.refl _ _⟩
  · rintro _ H5 ⟨rfl, hjd5, hx5⟩
    rw [if_neg (by simp [hd])]
    have hs5 := hx5.size
    refine ⟨_, rfl, (ends_ok hjd5 _).mono ?_⟩
    rintro _ H8 ⟨rfl, hjd8, hx8⟩
    have hs8 := hx8.size
    exact ⟨_, rfl, rfl, hjd8.up (fun k hk => by
      rcases hk with hk | hk
      · exact .inl hk
      · exact .inr ⟨hk.1, by omega⟩) (grow_lt hlt (by omega)), hx5.trans' hx8 (fun i hi => by
      rcases hi with hi | hi
      · exact .inr hi
      · exact .inl hi.1)⟩

theorem commit_ok {H : Heap} {F : Nat → Prop} {pj pd : Nat} {J : Jn} {D : Dev} {n B : Nat} (h : JD H F pj pd J D) (hw : D.Wf n B) (hB : B ≤ 700000000) (hn : n ≤ 4096) (hj : J.Wf n) (hseq : J.h.seq ≤ 900000000000)
    {l : List Wr} {a : Option Addr} {c : Nat} (hk : KeptW F H a l) (hl : l.length ≤ 1000000) :
    Does Tryz.prog 23 [.pointer (some ⟨pj, 0, none⟩), .slice a l.length c] H fun v H' => v = .int .i64 (commitM n l J D).2.2 ∧ JD H' (grow F H H') pj pd (commitM n l J D).2.1 (commitM n l J D).1 ∧ ExtP F H H' := by
  have hlt := h.lt
  have hsz := hj.size
  refine Fn_of_vc Tryz.mixed (vc_commit _ _ _ _ _ _) ?_
  refine (jhome_ok h hw).mono ?_
  rintro _ _ ⟨rfl, rfl⟩
  refine ⟨_, rfl, (may_ok (homeN n J.h.size) (by omega) hk.at_).mono ?_⟩
  rintro _ H5 ⟨rfl, hx5⟩
  have hs5 := hx5.size
  have hjd5 := (h.ext hx5.toP (by simp))
  have hk5 : KeptW F H5 a l := hk.on hx5.anyP
  have step : ∀ {A C : Heap}, ExtP F H A → ExtP (grow F H A) A C → ExtP F H C := fun h1 h2 => h1.trans' h2 (fun i hi => by
    rcases hi with hi | hi
    · exact .inr hi
    · exact .inl hi.1)
  have lift : ∀ {A : Heap} {J' : Jn} {D' : Dev}, H5.size ≤ A.size → JD A (grow F H5 A) pj pd J' D' → JD A (grow F H A) pj pd J' D' := fun hs h' => h'.up (fun k hk => by
    rcases hk with hk | hk
    · exact .inl hk
    · exact .inr ⟨by omega, hk.2⟩) (grow_lt hlt (by omega))
  have now5 : JD H5 (grow F H H5) pj pd J D := hjd5.up (fun _ => .inl) (grow_lt hlt hs5)
  obtain ⟨r5, hb5⟩ := hjd5.of
  unfold commitM
  refine ⟨_, rfl, fun h1 => ?_, fun h1 => ⟨pj, 0, rfl, J.dead, hb5.cell 6, fun h2 => ?_, fun h2 => ?_⟩⟩
  · rw [if_pos h1]; exact ⟨rfl, now5, hx5.anyP⟩
  · rw [if_neg h1, if_pos h2]; exact ⟨rfl, now5, hx5.anyP⟩
  rw [if_neg h1, if_neg (by simp [h2])]
  have hm := mayB_iff h1
  refine ⟨pj, 0, rfl, _, hb5.cell 3, (needs_ok l.length H5 (by omega)).mono ?_⟩
  rintro _ _ ⟨rfl, rfl⟩
  refine ⟨_, rfl, ⟨hb5.cell 3, trivial⟩, fun h3 => ?_, fun h3 => (needs_ok l.length H5 (by omega)).mono ?_⟩
  · rw [if_pos h3]; exact ⟨rfl, now5, hx5.anyP⟩
  rw [if_neg h3]
  rintro _ _ ⟨rfl, rfl⟩
  refine ⟨_, rfl, (jfree_ok hjd5 hj hn).mono ?_⟩
  rintro _ _ ⟨rfl, rfl⟩
  refine ⟨_, rfl, fun h4 => ?_, fun h4 => ?_⟩
  · rw [if_pos h4]
    refine (checkpoint_ok hjd5 hw (by omega) hn hj).mono ?_
    rintro _ H23 ⟨rfl, hjd23, hx23⟩
    have hs23 := hx23.size
    refine ⟨_, rfl, fun hne => ?_, fun he => ?_⟩
    · rw [if_pos hne]; exact ⟨rfl, lift hs23 hjd23, hx5.anyP.trans hx23⟩
    rw [if_neg he]
    have hck := checkpoint_ok0 (n := n) (J := J) (D := D) (by simpa using he)
    have hh := checkpoint_h (n := n) (J := J) (D := D)
    refine (jlay_ok (lift hs23 hjd23) (checkpoint_dwf hw hj hn) (by omega) hn (checkpoint_jwf hj) (by rw [hh]; exact hseq) (c := c) ((hk.go (hx5.anyP.trans hx23))) (by rw [hh]; exact hm) (by rw [hh, hck.1]; omega)).mono ?_
    rintro _ H26 ⟨rfl, hjd26, hx26⟩
    have hs26 := hx26.size
    refine ⟨_, rfl, (ends_ok hjd26 _).mono ?_⟩
    rintro _ H29 ⟨rfl, hjd29, hx29⟩
    have hs29 := hx29.size
    refine ⟨_, rfl, rfl, hjd29.up (fun k hk => ?_) (grow_lt hlt (by omega)), (step (hx5.anyP.trans hx23) hx26).trans' hx29 (fun i hi => ?_)⟩
    · rcases hk with (hk | hk) | hk
      · exact .inl hk
      · exact .inr ⟨hk.1, by omega⟩
      · exact .inr ⟨by omega, by omega⟩
    · rcases hi with (hi | hi) | hi
      · exact .inr hi
      · exact .inl hi.1
      · exact .inl (by omega)
  · rw [if_neg h4]
    refine (jlay_ok hjd5 hw (by omega) hn hj hseq (c := c) hk5 hm (by omega)).mono ?_
    rintro _ H26 ⟨rfl, hjd26, hx26⟩
    have hs26 := hx26.size
    refine ⟨_, rfl, (ends_ok (lift hs26 hjd26) _).mono ?_⟩
    rintro _ H29 ⟨rfl, hjd29, hx29⟩
    have hs29 := hx29.size
    refine ⟨_, rfl, rfl, hjd29.up (fun k hk => ?_) (grow_lt hlt (by omega)), (hx5.anyP.trans hx26).trans' hx29 (fun i hi => ?_)⟩
    · rcases hk with hk | hk
      · exact .inl hk
      · exact .inr ⟨hk.1, by omega⟩
    · rcases hi with hi | hi
      · exact .inr hi
      · exact .inl hi.1
end Go.Proofs
end

section
open Go Go.Vc
namespace Go.Proofs

/-! ### Bytes that were laid, read -/
theorem w64_small {v : Int} (h0 : 0 ≤ v) (h1 : v < 18446744073709551616) : w64 v = v := by unfold w64; rw [wrap_u64]; omega
theorem rdU_app {xs ys : Octs} {n : Nat} (h : xs.length = n) : rdU (xs ++ ys, false) n = (xs, (ys, false)) := by
  subst h
  unfold rdU
  rw [if_pos ⟨rfl, by simp⟩]
  simp
theorem be_four {v : Int} (h0 : 0 ≤ v) (h1 : v < 4294967296) : be (beL 4 v) = v := by simp [be, beL]; omega
theorem be_two {v : Int} (h0 : 0 ≤ v) (h1 : v < 65536) : be (beL 2 v) = v := by simp [be, beL]; omega
theorem numU4_app {v : Int} {ys : Octs} (h0 : 0 ≤ v) (h1 : v < 4294967296) : numU (beU 4 (w64 v) ++ ys, false) 4 = v := by
  unfold numU
  rw [rdU_app (beU_len 4 _), w64_small h0 (by omega), toI_beU, be_four h0 h1]
theorem numU2_app {v : Int} {ys : Octs} (h0 : 0 ≤ v) (h1 : v < 65536) : numU (beU 2 (w64 v) ++ ys, false) 2 = v := by
  unfold numU
  rw [rdU_app (beU_len 2 _), w64_small h0 (by omega), toI_beU, be_two h0 h1]

def tagE (b : Octs) : Int := numU (b, false) 4
def tagS (b : Octs) : Int := numU (rdU (b, false) 4).2 4
def tagC (b : Octs) : Int := numU (rdU (b, false) 10).2 2

/-- A number of a header that may stand. -/
def Small (h : Hd) : Prop := 0 ≤ h.epoch ∧ h.epoch < 4294967296 ∧ 0 ≤ h.seq ∧ h.seq < 4294967296

theorem jblk_tags {h : Hd} (hs : Small h) {l : List Wr} (hc : cntN l < 65536) (k : Nat) : tagE (jblk h l k) = h.epoch ∧ tagS (jblk h l k) = h.seq ∧ tagC (jblk h l k) = cntN l := by
  obtain ⟨h0, h1, h2, h3⟩ := hs
  refine ⟨?_, ?_, ?_⟩
  · unfold tagE jblk
    rw [List.append_assoc, List.append_assoc, List.append_assoc, numU4_app h0 h1]
  · unfold tagS jblk
    rw [List.append_assoc, List.append_assoc, List.append_assoc, rdU_app (beU_len 4 _), numU4_app h2 h3]
  · unfold tagC jblk
    rw [show beU 4 (w64 h.epoch) ++ beU 4 (w64 h.seq) ++ beU 2 (w64 ↑k) ++ beU 2 (w64 ↑(cntN l)) ++ ((bodyB l).drop (k * 116)).take 116 = (beU 4 (w64 h.epoch) ++ beU 4 (w64 h.seq) ++ beU 2 (w64 ↑k)) ++ (beU 2 (w64 ↑(cntN l)) ++ ((bodyB l).drop (k * 116)).take 116) by simp only [List.append_assoc]]
    rw [rdU_app (by simp [beU_len]), numU2_app (by omega) (by omega)]

theorem numU_zeros (n m k : Nat) : numU (List.replicate n (0 : UInt8), false) k = 0 ∧ ((rdU (List.replicate n (0 : UInt8), false) m).2.1 = List.replicate (n - m) 0 ∨ (rdU (List.replicate n (0 : UInt8), false) m).2 = ([], true)) := by
  have z : ∀ m, be (toI (List.replicate m (0 : UInt8))) = 0 := by
    intro m
    unfold be toI
    rw [List.map_replicate]
    induction m with
    | zero => rfl
    | succ m ih => rw [List.replicate_succ, List.foldl_cons]; exact ih
  constructor
  · unfold numU rdU
    split
    · simp only [List.take_replicate]; exact z _
    · rfl
  · unfold rdU
    split
    · exact .inl (by simp)
    · exact .inr rfl
theorem tagE_zeros : tagE zeros = 0 := (numU_zeros 128 0 4).1

/-- All pieces, one behind the other. -/
theorem pieces_all (n : Nat) : ∀ (c : Nat) (xs : Octs), xs.length = c * n → ((List.range c).map (fun k => (xs.drop (k * n)).take n)).flatten = xs
  | 0, xs, h => by simp at h; subst h; rfl
  | c + 1, xs, h => by
    rw [List.range_succ_eq_map, List.map_cons, List.map_map, List.flatten_cons]
    have e : (fun k => (xs.drop (k * n)).take n) ∘ Nat.succ = fun k => ((xs.drop n).drop (k * n)).take n := by
      funext k
      simp only [Function.comp_apply, List.drop_drop, Nat.succ_eq_add_one, Nat.add_mul, Nat.one_mul]
      rw [Nat.add_comm n]
    rw [e, pieces_all n c (xs.drop n) (by rw [List.length_drop, h, Nat.add_mul]; omega)]
    simp

theorem restB_laid {h : Hd} {l : List Wr} (hf : Full l) (hl : 0 < l.length) : restB (laidB h l) = bodyB l := by
  unfold restB laidB
  rw [List.map_map]
  have e : (fun x : Octs => x.drop 12) ∘ jblk h l = fun k => ((bodyB l).drop (k * 116)).take 116 := by
    funext k
    simp only [Function.comp_apply]
    unfold jblk
    rw [List.drop_left' (by simp [beU_len])]
  rw [e]
  exact pieces_all 116 (cntN l) (bodyB l) (bodyB_len hf hl)

theorem parse_laid : ∀ (l : List Wr) (rest : Octs), (∀ w ∈ l, 0 ≤ w.1 ∧ w.1 < 4294967296 ∧ w.2.length = 128) → parseW l.length ((l.map wrB).flatten ++ rest, false) = l
  | [], _, _ => rfl
  | w :: l, rest, h => by
    obtain ⟨h0, h1, h2⟩ := h w (by simp)
    rw [List.length_cons, parseW, if_neg (by simp), List.map_cons, List.flatten_cons]
    unfold wrB
    rw [List.append_assoc, List.append_assoc, numU4_app h0 h1, rdU_app (beU_len 4 _), rdU_app h2]
    rw [show (fun w : Wr => beU 4 (w64 w.1) ++ w.2) = wrB from rfl, parse_laid l rest (fun x hx => h x (by simp [hx]))]

theorem writes_laid {l : List Wr} (h : ∀ w ∈ l, 0 ≤ w.1 ∧ w.1 < 4294967296 ∧ w.2.length = 128) (hn : l.length < 65536) : writesM (bodyB l) = l := by
  unfold writesM bodyB padL streamB
  rw [List.append_assoc, numU2_app (by omega) (by omega), rdU_app (beU_len 2 _), Int.toNat_natCast]
  exact parse_laid l _ h

theorem cnt_pos {l : List Wr} (h : l ≠ []) : 0 < cntN l := by
  have h' : 0 < l.length := by cases l with
    | nil => exact absurd rfl h
    | cons => simp
  have := cnt_len h'
  omega
theorem cnt_more {l : List Wr} : l.length ≤ cntN l := by
  rcases Nat.eq_zero_or_pos l.length with h | h
  · omega
  · have := cnt_len h; omega

theorem whole_all {h : Hd} (hs : Small h) {l : List Wr} {homes : Int} (hm : MayP l homes) (hh : homes ≤ 4294967296) (hc : cntN l < 65536) (rest : List Octs) : wholeB h (laidB h l ++ rest) homes = (l, (cntN l : Int)) := by
  have hpos := cnt_pos hm.1
  have hlen : 0 < l.length := by have := hm.1; cases l with
    | nil => exact absurd rfl this
    | cons => simp
  have hlaid := laidB_len h l
  have htake : (laidB h l ++ rest).take (cntN l) = laidB h l := List.take_left' hlaid
  have hhead : ∃ r, laidB h l ++ rest = jblk h l 0 :: r := by
    obtain ⟨c, e⟩ : ∃ c, cntN l = c + 1 := ⟨cntN l - 1, by omega⟩
    unfold laidB
    rw [e, List.range_succ_eq_map]
    exact ⟨_, rfl⟩
  obtain ⟨r, hr⟩ := hhead
  have hlen2 : cntN l ≤ (laidB h l ++ rest).length := by rw [List.length_append, hlaid]; omega
  have ht := (jblk_tags hs hc 0).2.2
  unfold tagC at ht
  unfold wholeB
  rw [hr] at htake hlen2 ⊢
  simp only [ht, Int.toNat_natCast]
  rw [if_neg (by omega), htake, restB_laid hm.full hlen, writes_laid (fun w hw => by have := hm.2.1 w hw; omega) (by have := cnt_more (l := l); omega)]
  rw [if_pos ⟨decide_eq_true hm, rfl⟩]

/-- What is found bears the marks. -/
theorem whole_tags {h : Hd} (hs : Small h) {bs : List Octs} {homes : Int} (hne : (wholeB h bs homes).2 ≠ 0) : ∃ b0 r, bs = b0 :: r ∧ 0 < (wholeB h bs homes).2 ∧ (wholeB h bs homes).2 = tagC b0 ∧ (wholeB h bs homes).2 ≤ bs.length ∧ ∀ b ∈ bs.take (wholeB h bs homes).2.toNat, tagE b = h.epoch ∧ tagS b = h.seq := by
  rcases wholeB_spec h bs homes with h0 | ⟨h1, h2, h3, h4⟩
  · exact absurd h0 hne
  · have hc : (wholeB h bs homes).2 < 65536 ∧ ∃ b0 r, bs = b0 :: r ∧ (wholeB h bs homes).2 = tagC b0 := by
      cases bs with
      | nil => exact absurd rfl hne
      | cons b0 r =>
        have hl2 := numU_lt2 (rdU (b0, false) 10).2
        have : (wholeB h (b0 :: r) homes).2 = 0 ∨ (wholeB h (b0 :: r) homes).2 = tagC b0 := by
          unfold wholeB tagC
          simp only
          split
          · exact .inl rfl
          · split
            · exact .inr rfl
            · exact .inl rfl
        rcases this with h | h
        · exact absurd h hne
        · exact ⟨by rw [h]; exact hl2.2, b0, r, rfl, h⟩
    obtain ⟨hlt, b0, r, hb, ht⟩ := hc
    refine ⟨b0, r, hb, h1, ht, h2, ?_⟩
    rw [← h4]
    intro b hb'
    have hcn : cntN (wholeB h bs homes).1 < 65536 := by
      have := laidB_len h (wholeB h bs homes).1
      rw [h4, List.length_take] at this
      omega
    unfold laidB at hb'
    obtain ⟨k, _, rfl⟩ := List.mem_map.1 hb'
    have := jblk_tags hs hcn k
    exact ⟨this.1, this.2.1⟩

/-! ### What recovery finds -/
/-- A block of an older life, or of an older transaction. -/
def OldB (e s : Int) (b : Octs) : Prop := tagE b < e ∨ (tagE b = e ∧ tagS b < s)
theorem OldB.up {e s s' : Int} {b : Octs} (h : OldB e s b) (hs : s ≤ s') : OldB e s' b := by
  rcases h with h | h
  · exact .inl h
  · exact .inr ⟨h.1, by omega⟩
theorem OldB.life {e e' s s' : Int} {b : Octs} (h : OldB e s b) (he : e < e') : OldB e' s' b := by
  rcases h with h | h
  · exact .inl (by omega)
  · exact .inl (by omega)

/-- The blocks of transactions, one behind the other. -/
def LT (e : Int) : Int → List (List Wr) → List Octs
  | _, [] => []
  | s, l :: T => laidB ⟨e, s, 0⟩ l ++ LT e (s + 1) T
theorem laidB_size (e s z : Int) (l : List Wr) : laidB ⟨e, s, z⟩ l = laidB ⟨e, s, 0⟩ l := rfl

/-- The transactions that stand there whole. -/
def fullT (e : Int) : Int → List Octs → List (List Wr) → List (List Wr)
  | _, _, [] => []
  | s, bs, l :: T => if laidB ⟨e, s, 0⟩ l = bs.take (cntN l) then l :: fullT e (s + 1) (bs.drop (cntN l)) T else []

def GoodB (e s : Int) (T : List (List Wr)) (bs : List Octs) : Prop := ∀ (p : Nat) (b : Octs), bs[p]? = some b → (LT e s T)[p]? = some b ∨ OldB e s b
def MayT (T : List (List Wr)) (homes : Int) : Prop := ∀ l ∈ T, MayP l homes ∧ cntN l < 65536

theorem recL_good (e z homes : Int) (he0 : 0 ≤ e) (he1 : e < 4294967296) (hh : homes ≤ 4294967296) : ∀ (T : List (List Wr)) (s : Int) (bs : List Octs) (t : List Wr) (f : Nat), 0 ≤ s → s + T.length < 4294967296 → MayT T homes → GoodB e s T bs → bs.length < f →
    recL f ⟨e, s, z⟩ bs t homes = (⟨e, s + (fullT e s bs T).length, z⟩, tAll t (fullT e s bs T).flatten)
  | [], s, bs, t, f, h0, h1, hm, hg, hf => by
    simp only [List.length_nil] at h1
    obtain ⟨f, rfl⟩ : ∃ k, f = k + 1 := ⟨f - 1, by omega⟩
    have hs : Small ⟨e, s, z⟩ := ⟨he0, he1, h0, by show s < _; omega⟩
    have : (wholeB ⟨e, s, z⟩ bs homes).2 = 0 := by
      by_cases hne : (wholeB ⟨e, s, z⟩ bs homes).2 = 0
      · exact hne
      · obtain ⟨b0, r, hb, hp, _, _, ht⟩ := whole_tags hs hne
        have h2 := ht b0 (by rw [hb]; obtain ⟨c, hc⟩ : ∃ c, (wholeB ⟨e, s, z⟩ (b0 :: r) homes).2.toNat = c + 1 := ⟨(wholeB ⟨e, s, z⟩ (b0 :: r) homes).2.toNat - 1, by rw [hb] at hp; omega⟩; rw [hc]; simp)
        rcases hg 0 b0 (by rw [hb]; rfl) with h3 | h3
        · simp [LT] at h3
        · rcases h3 with h3 | h3
          · have := h2.1; simp only at this; omega
          · have := h2.2; simp only at this; omega
    rw [recL, if_pos this]
    simp [fullT, tAll]
  | l :: T, s, bs, t, f, h0, h1, hm, hg, hf => by
    simp only [List.length_cons] at h1
    obtain ⟨f, rfl⟩ : ∃ k, f = k + 1 := ⟨f - 1, by omega⟩
    have hs : Small ⟨e, s, z⟩ := ⟨he0, he1, h0, by show s < _; omega⟩
    obtain ⟨hml, hcl⟩ := hm l (by simp)
    have hpos := cnt_pos hml.1
    by_cases hfull : laidB ⟨e, s, 0⟩ l = bs.take (cntN l)
    · have hlen : cntN l ≤ bs.length := by
        have := laidB_len ⟨e, s, 0⟩ l
        rw [hfull, List.length_take] at this
        omega
      have hbs : bs = laidB ⟨e, s, z⟩ l ++ bs.drop (cntN l) := by
        rw [laidB_size, hfull, List.take_append_drop]
      have hw : wholeB ⟨e, s, z⟩ bs homes = (l, (cntN l : Int)) := by
        conv => lhs; rw [hbs]
        exact whole_all hs hml hh hcl _
      have hstep : recL (f + 1) ⟨e, s, z⟩ bs t homes = recL f ⟨e, s + 1, z⟩ (bs.drop (cntN l)) (tAll t l) homes := by
        rw [recL, hw, if_neg (by simp only; omega), Int.toNat_natCast]
      rw [hstep, recL_good e z homes he0 he1 hh T (s + 1) (bs.drop (cntN l)) (tAll t l) f (by omega) (by omega) (fun x hx => hm x (by simp [hx])) ?_ (by rw [List.length_drop]; omega)]
      · rw [fullT, if_pos hfull, List.length_cons, List.flatten_cons]
        congr 1
        · congr 1; omega
        · unfold tAll; rw [List.foldl_append]
      · intro p b hp
        rw [List.getElem?_drop] at hp
        rcases hg _ b hp with h3 | h3
        · rw [LT, List.getElem?_append_right (by rw [laidB_len]; omega), laidB_len, Nat.add_sub_cancel_left] at h3
          exact .inl h3
        · exact .inr (h3.up (by omega))
    · have : (wholeB ⟨e, s, z⟩ bs homes).2 = 0 := by
        by_cases hne : (wholeB ⟨e, s, z⟩ bs homes).2 = 0
        · exact hne
        · exfalso
          obtain ⟨b0, r, hb, hp, htc, hle, ht⟩ := whole_tags hs hne
          have notold : ∀ b, tagE b = e ∧ tagS b = s → ¬ OldB e s b := fun b h3 h4 => by
            rcases h4 with h4 | h4 <;> omega
          have hmem : ∀ p, p < (wholeB ⟨e, s, z⟩ bs homes).2.toNat → ∃ b, bs[p]? = some b ∧ (LT e s (l :: T))[p]? = some b := fun p hp' => by
            have hlt : p < bs.length := by omega
            refine ⟨bs[p], List.getElem?_eq_getElem hlt, ?_⟩
            have h2 := ht bs[p] (List.mem_take_iff_getElem.2 ⟨p, by omega, rfl⟩)
            rcases hg p _ (List.getElem?_eq_getElem hlt) with h3 | h3
            · exact h3
            · exact absurd h3 (notold _ h2)
          have hc0 : (wholeB ⟨e, s, z⟩ bs homes).2 = cntN l := by
            obtain ⟨b, hb1, hb2⟩ := hmem 0 (by omega)
            rw [LT, List.getElem?_append_left (by rw [laidB_len]; omega)] at hb2
            unfold laidB at hb2
            rw [List.getElem?_map, List.getElem?_range (by omega)] at hb2
            simp only [Option.map_some, Option.some.injEq] at hb2
            rw [hb] at hb1
            simp only [List.getElem?_cons_zero, Option.some.injEq] at hb1
            have hs0 : Small ⟨e, s, 0⟩ := hs
            rw [htc, hb1, ← hb2]
            exact (jblk_tags hs0 hcl 0).2.2
          apply hfull
          rw [hc0, Int.toNat_natCast] at hmem
          have hll := laidB_len ⟨e, s, 0⟩ l
          apply List.ext_getElem?
          intro p
          by_cases hp' : p < cntN l
          · obtain ⟨b, hb1, hb2⟩ := hmem p hp'
            rw [LT, List.getElem?_append_left (by omega)] at hb2
            rw [hb2, List.getElem?_take, if_pos hp', hb1]
          · rw [List.getElem?_eq_none (by omega), List.getElem?_take, if_neg hp']
      rw [recL, if_pos this, fullT, if_neg hfull]
      simp [tAll]

theorem fullT_all (e : Int) : ∀ (T : List (List Wr)) (s : Int) (rest : List Octs), fullT e s (LT e s T ++ rest) T = T
  | [], _, _ => rfl
  | l :: T, s, rest => by
    rw [fullT, LT, List.append_assoc, List.take_left' (laidB_len _ _), if_pos rfl, List.drop_left' (laidB_len _ _), fullT_all e T]
theorem fullT_pre (e : Int) : ∀ (T : List (List Wr)) (s : Int) (bs : List Octs), fullT e s bs T <+: T
  | [], _, _ => List.prefix_refl _
  | l :: T, s, bs => by
    rw [fullT]
    split
    · exact (List.prefix_cons_inj l).2 (fullT_pre e T _ _)
    · exact List.nil_prefix
/-- All that stands there whole ahead is found. -/
theorem fullT_ahead (e : Int) : ∀ (T U : List (List Wr)) (s : Int) (bs : List Octs), LT e s T <+: bs → T <+: fullT e s bs (T ++ U)
  | [], U, s, bs, _ => List.nil_prefix
  | l :: T, U, s, bs, h => by
    rw [LT] at h
    obtain ⟨r, hr⟩ := h
    rw [List.append_assoc] at hr
    rw [List.cons_append, fullT, ← hr, List.take_left' (laidB_len _ _), if_pos rfl, List.drop_left' (laidB_len _ _)]
    exact (List.prefix_cons_inj l).2 (fullT_ahead e T U _ _ ⟨r, rfl⟩)
end Go.Proofs
end

section
open Go Go.Vc
namespace Go.Proofs

/-! ### The device, step by step -/
structure At (D : Dev) (K : List Octs) (P : List (Int × Octs)) : Prop where
  kept : D.kept = K
  pend : D.pend = P
  dead : D.dead = false
structure Down (D : Dev) (K : List Octs) (P : List (Int × Octs)) : Prop where
  kept : D.kept = K
  pend : D.pend = P
  dead : D.dead = true

theorem wk_cases {D : Dev} {K : List Octs} {P : List (Int × Octs)} (h : At D K P) : ((wk D).2 = true ∧ At (wk D).1 K P ∧ (D.fuse = -1 → (wk D).1.fuse = -1)) ∨ ((wk D).2 = false ∧ Down (wk D).1 K P ∧ D.fuse ≠ -1) := by
  have hk := wk_kept D
  unfold wk at hk ⊢
  by_cases h1 : D.fuse = 0 ∨ D.dead = true
  · rw [if_pos h1] at hk ⊢
    refine .inr ⟨rfl, ⟨h.kept, h.pend, rfl⟩, ?_⟩
    rcases h1 with h1 | h1
    · omega
    · rw [h.dead] at h1; cases h1
  · rw [if_neg h1]
    refine .inl ⟨rfl, ⟨h.kept, h.pend, h.dead⟩, fun he => ?_⟩
    show (if 0 < D.fuse then D.fuse - 1 else D.fuse) = -1
    rw [he]; rfl

theorem flush_cases {D : Dev} {K : List Octs} {P : List (Int × Octs)} (h : At D K P) : ((flushD D).2 = 0 ∧ At (flushD D).1 (laid K P) [] ∧ (D.fuse = -1 → (flushD D).1.fuse = -1)) ∨ ((flushD D).2 = 4 ∧ Down (flushD D).1 K P ∧ D.fuse ≠ -1) := by
  unfold flushD
  rcases wk_cases h with ⟨h1, h2, h3⟩ | ⟨h1, h2, h3⟩
  · rw [if_pos h1]
    refine .inl ⟨rfl, ⟨?_, rfl, h2.dead⟩, h3⟩
    show D.now = _
    unfold Dev.now
    rw [h.kept, h.pend]
  · rw [if_neg (by simp [h1])]
    exact .inr ⟨rfl, h2, h3⟩

theorem write_cases {D : Dev} {K : List Octs} {P : List (Int × Octs)} (h : At D K P) {n : Nat} {k : Int} {b : Octs} (hk : 0 ≤ k ∧ k < n) (hb : b.length = 128) :
    ((writeD D n k b).2 = 0 ∧ At (writeD D n k b).1 K (P ++ [(k, b)]) ∧ (D.fuse = -1 → (writeD D n k b).1.fuse = -1)) ∨ ((writeD D n k b).2 = 4 ∧ Down (writeD D n k b).1 K P ∧ D.fuse ≠ -1) := by
  unfold writeD
  rw [if_neg (by simp [hk, hb])]
  rcases wk_cases h with ⟨h1, h2, h3⟩ | ⟨h1, h2, h3⟩
  · rw [if_pos h1]
    exact .inl ⟨rfl, ⟨h2.kept, by rw [← h.pend], h2.dead⟩, h3⟩
  · rw [if_neg (by simp [h1])]
    exact .inr ⟨rfl, h2, h3⟩

/-- The writes home. -/
def homeWs (size : Int) (t : List Wr) (ks : List Int) : List (Int × Octs) := ks.map fun k => (1 + size + k, (tGet t k).getD [])
theorem goW_cases {n : Nat} {size : Int} {t : List Wr} : ∀ (ks : List Int) {D : Dev} {K : List Octs} {P : List (Int × Octs)}, At D K P → (∀ k ∈ ks, 0 ≤ 1 + size + k ∧ 1 + size + k < n ∧ ((tGet t k).getD []).length = 128) →
    ((goW n size t ks D).2 = 0 ∧ At (goW n size t ks D).1 (laid K (P ++ homeWs size t ks)) [] ∧ (D.fuse = -1 → (goW n size t ks D).1.fuse = -1)) ∨ ((goW n size t ks D).2 = 4 ∧ (∃ i, Down (goW n size t ks D).1 K (P ++ (homeWs size t ks).take i)) ∧ D.fuse ≠ -1)
  | [], D, K, P, h, _ => by
    rw [goW]
    rcases flush_cases h with ⟨h1, h2, h3⟩ | ⟨h1, h2, h3⟩
    · exact .inl ⟨h1, by simpa [homeWs] using h2, h3⟩
    · exact .inr ⟨h1, ⟨0, by simpa [homeWs] using h2⟩, h3⟩
  | k :: ks, D, K, P, h, hk => by
    obtain ⟨a0, a1, a2⟩ := hk k (by simp)
    rw [goW]
    rcases write_cases (n := n) h ⟨a0, a1⟩ a2 with ⟨h1, h2, h3⟩ | ⟨h1, h2, h3⟩
    · rw [if_neg (by simp [h1])]
      rcases goW_cases ks h2 (fun k hk' => hk k (by simp [hk'])) with ⟨g1, g2, g3⟩ | ⟨g1, ⟨i, g2⟩, g3⟩
      · exact .inl ⟨g1, by simpa [homeWs] using g2, fun he => g3 (h3 he)⟩
      · exact .inr ⟨g1, ⟨i + 1, by simpa [homeWs] using g2⟩, fun he => g3 (h3 he)⟩
    · rw [if_pos (by simp [h1])]
      exact .inr ⟨h1, ⟨0, by simpa using h2⟩, h3⟩

/-- The writes of a row of blocks. -/
def rowWs : Int → List Octs → List (Int × Octs)
  | _, [] => []
  | u, b :: r => (1 + u, b) :: rowWs (u + 1) r
theorem layW_cases {n : Nat} : ∀ (bs : List Octs) (u : Int) {D : Dev} {K : List Octs} {P : List (Int × Octs)}, At D K P → 0 ≤ u → u + bs.length < n → (∀ b ∈ bs, b.length = 128) →
    ((layW n bs u D).2.2 = 0 ∧ (layW n bs u D).2.1 = u + bs.length ∧ At (layW n bs u D).1 K (P ++ rowWs u bs) ∧ (D.fuse = -1 → (layW n bs u D).1.fuse = -1)) ∨ ((layW n bs u D).2.2 = 4 ∧ (∃ i, Down (layW n bs u D).1 K (P ++ (rowWs u bs).take i)) ∧ D.fuse ≠ -1)
  | [], u, D, K, P, h, _, _, _ => by
    rw [layW]
    exact .inl ⟨rfl, by simp, by simpa [rowWs] using h, fun he => he⟩
  | b :: bs, u, D, K, P, h, h0, h1, hb => by
    simp only [List.length_cons] at h1
    rw [layW]
    rcases write_cases (n := n) (k := 1 + u) h ⟨by omega, by omega⟩ (hb b (by simp)) with ⟨g1, g2, g3⟩ | ⟨g1, g2, g3⟩
    · rw [if_neg (by simp [g1])]
      rcases layW_cases (n := n) bs (u + 1) g2 (by omega) (by omega) (fun x hx => hb x (by simp [hx])) with ⟨k1, k2, k3, k4⟩ | ⟨k1, ⟨i, k2⟩, k3⟩
      · exact .inl ⟨k1, by rw [k2, List.length_cons]; omega, by simpa [rowWs] using k3, fun he => k4 (g3 he)⟩
      · exact .inr ⟨k1, ⟨i + 1, by simpa [rowWs] using k2⟩, fun he => k3 (g3 he)⟩
    · rw [if_pos (by simp [g1])]
      exact .inr ⟨g1, ⟨0, by simpa using g2⟩, g3⟩

theorem fmtW_safe {n : Nat} : ∀ (m : Nat) (k : Int) {D : Dev} {K : List Octs} {P : List (Int × Octs)}, At D K P → D.fuse = -1 → 0 ≤ k → k + m < n → ∃ W, (fmtW n m k D).2 = 0 ∧ At (fmtW n m k D).1 K (P ++ W) ∧ (fmtW n m k D).1.fuse = -1 ∧ (∀ w ∈ W, w.2 = zeros ∧ 1 + k ≤ w.1 ∧ w.1 < 1 + k + m) ∧ ∀ i : Int, 1 + k ≤ i → i < 1 + k + m → (i, zeros) ∈ W
  | 0, k, D, K, P, h, hf, _, _ => ⟨[], rfl, by rw [List.append_nil]; exact h, hf, by simp, fun i h1 h2 => by omega⟩
  | m + 1, k, D, K, P, h, hf, h0, h1 => by
    rw [fmtW]
    rcases write_cases (n := n) (k := 1 + k) h ⟨by omega, by omega⟩ (show zeros.length = 128 by simp [zeros]) with ⟨g1, g2, g3⟩ | ⟨_, _, g3⟩
    · rw [if_neg (by simp [g1])]
      obtain ⟨W, k1, k2, k3, k4, k5⟩ := fmtW_safe (n := n) m (k + 1) g2 (g3 hf) (by omega) (by omega)
      refine ⟨(1 + k, zeros) :: W, k1, by rw [List.append_assoc] at k2; exact k2, k3, fun w hw => ?_, fun i h2 h3 => ?_⟩
      · rcases List.mem_cons.1 hw with rfl | hw
        · exact ⟨rfl, by simp, by simp only; omega⟩
        · have := k4 w hw; exact ⟨this.1, by omega, by omega⟩
      · by_cases e : i = 1 + k
        · subst e; simp
        · exact List.mem_cons_of_mem _ (k5 i (by omega) (by omega))
    · exact absurd hf g3

theorem laid_none {i : Nat} : ∀ (P : List (Int × Octs)) (K : List Octs), (∀ w ∈ P, w.1.toNat ≠ i) → (laid K P)[i]? = K[i]?
  | [], _, _ => rfl
  | w :: P, K, h => by
    show (laid (K.set w.1.toNat w.2) P)[i]? = _
    rw [laid_none P _ (fun x hx => h x (by simp [hx])), List.getElem?_set_ne (h w (by simp))]
theorem laid_same {i : Nat} {x : Octs} : ∀ (P : List (Int × Octs)) (K : List Octs), (∀ w ∈ P, w.1.toNat = i → w.2 = x) → K[i]? = some x ∨ (∃ w ∈ P, w.1.toNat = i) ∧ i < K.length → (laid K P)[i]? = some x
  | [], K, _, h => by
    rcases h with h | ⟨⟨w, hw, _⟩, _⟩
    · exact h
    · cases hw
  | w :: P, K, hs, h => by
    show (laid (K.set w.1.toNat w.2) P)[i]? = _
    by_cases e : w.1.toNat = i
    · have hx := hs w (by simp) e
      refine laid_same P _ (fun y hy => hs y (by simp [hy])) (.inl ?_)
      subst e
      have hlt : w.1.toNat < K.length := by
        rcases h with h | h
        · exact (List.getElem?_eq_some_iff.1 h).1
        · exact h.2
      rw [List.getElem?_set_self hlt, hx]
    · refine laid_same P _ (fun y hy => hs y (by simp [hy])) ?_
      rcases h with h | ⟨⟨y, hy, he⟩, hl⟩
      · exact .inl (by rw [List.getElem?_set_ne e]; exact h)
      · rcases List.mem_cons.1 hy with rfl | hy
        · exact absurd he e
        · exact .inr ⟨⟨y, hy, he⟩, by simpa using hl⟩
theorem crash_poss (ms : Octs) {i : Nat} {b : Octs} : ∀ (P : List (Int × Octs)) (j : Nat) (K : List Octs), (crashL ms P j K)[i]? = some b → K[i]? = some b ∨ ∃ w ∈ P, w.1.toNat = i ∧ w.2 = b
  | [], j, K, h => .inl h
  | w :: P, j, K, h => by
    rw [crashL] at h
    rcases crash_poss ms P (j + 1) _ h with h1 | ⟨y, hy, h1⟩
    · split at h1
      · by_cases e : w.1.toNat = i
        · rw [e, List.getElem?_set] at h1
          simp only [if_true] at h1
          split at h1
          · exact .inr ⟨w, by simp, e, by simpa using h1⟩
          · cases h1
        · rw [List.getElem?_set_ne e] at h1; exact .inl h1
      · exact .inl h1
    · exact .inr ⟨y, by simp [hy], h1⟩

/-! ### The header -/
theorem parseH_hdrB {h : Hd} (hs : Small h) (hz : 0 ≤ h.size ∧ h.size < 4294967296) : parseH (hdrB h) = h := by
  obtain ⟨h0, h1, h2, h3⟩ := hs
  unfold parseH hdrB padL
  generalize (128 - _) = m
  rw [List.append_assoc, List.append_assoc, List.append_assoc, rdU_app (beU_len 4 _), numU4_app h0 h1, rdU_app (beU_len 4 _), numU4_app h2 h3, rdU_app (beU_len 4 _), numU4_app hz.1 hz.2]

theorem readM_good {n : Nat} {D : Dev} {e s : Int} {z : Nat} (hd : D.dead = false) (hh : D.now[0]? = some (hdrB ⟨e, s, z⟩)) (he : 0 ≤ e ∧ e < 4294967296) (hs : 1 ≤ s ∧ s < 4294967296) (hz : 4 ≤ z ∧ z + 4 ≤ n) (hn : n ≤ 4096) : readM n D = (⟨e, s, z⟩, 0) := by
  unfold readM
  rw [if_neg (by simp [hd])]
  simp only [hh, Option.getD_some]
  rw [parseH_hdrB ⟨he.1, he.2, by show 0 ≤ s; omega, hs.2⟩ ⟨by show (0 : Int) ≤ z; omega, by show (z : Int) < _; omega⟩, if_neg]
  rintro (h | h | h)
  · exact h rfl
  · rw [homeN_of (by show 4 ≤ (z : Int) ∧ (z : Int) ≤ n - 4; omega)] at h
    simp only at h; omega
  · simp only at h; omega
end Go.Proofs
end

section
open Go Go.Vc
namespace Go.Proofs

/-! ### Home behind transactions -/
def overT (base : Nat → Octs) (l : List Wr) : Nat → Octs := fun k => (tGet (tAll [] l) k).getD (base k)
def hmT (base : Nat → Octs) (T : List (List Wr)) : Nat → Octs := overT base T.flatten

theorem tGet_all (k : Int) : ∀ (l t : List Wr), tGet (tAll t l) k = (tGet (tAll [] l) k).or (tGet t k)
  | [], t => rfl
  | w :: l, t => by
    show tGet (tAll (tSet t w.1 w.2) l) k = (tGet (tAll (tSet [] w.1 w.2) l) k).or (tGet t k)
    rw [tGet_all k l (tSet t w.1 w.2), tGet_all k l (tSet [] w.1 w.2), tGet_set, tGet_set]
    by_cases h : k = w.1
    · rw [if_pos h, if_pos h]; cases tGet (tAll [] l) k <;> rfl
    · rw [if_neg h, if_neg h]; cases tGet (tAll [] l) k <;> rfl
theorem tAll_app (t l m : List Wr) : tAll t (l ++ m) = tAll (tAll t l) m := by unfold tAll; rw [List.foldl_append]
theorem over_app (base : Nat → Octs) (l m : List Wr) : overT base (l ++ m) = overT (overT base l) m := by
  funext k
  unfold overT
  rw [tAll_app, tGet_all k m (tAll [] l)]
  cases tGet (tAll [] m) k <;> rfl
theorem hmT_snoc (base : Nat → Octs) (T : List (List Wr)) (l : List Wr) : hmT base (T ++ [l]) = overT (hmT base T) l := by
  unfold hmT
  rw [List.flatten_append, over_app]
  simp
theorem hmT_nil (base : Nat → Octs) : hmT base [] = base := rfl

theorem LT_app (e : Int) : ∀ (T U : List (List Wr)) (s : Int), LT e s (T ++ U) = LT e s T ++ LT e (s + T.length) U
  | [], U, s => by simp [LT]
  | l :: T, U, s => by
    rw [List.cons_append, LT, LT, LT_app e T U (s + 1), List.append_assoc, List.length_cons]
    congr 3; omega
theorem LT_tags {e : Int} (he : 0 ≤ e ∧ e < 4294967296) : ∀ (T : List (List Wr)) (s : Int), 0 ≤ s → s + T.length ≤ 4294967296 → (∀ l ∈ T, cntN l < 65536) → ∀ b ∈ LT e s T, tagE b = e ∧ s ≤ tagS b ∧ tagS b < s + T.length
  | [], s, _, _, _, b, hb => by simp [LT] at hb
  | l :: T, s, h0, h1, hc, b, hb => by
    simp only [List.length_cons] at h1 ⊢
    rw [LT] at hb
    rcases List.mem_append.1 hb with hb | hb
    · unfold laidB at hb
      obtain ⟨k, _, rfl⟩ := List.mem_map.1 hb
      have := jblk_tags (h := ⟨e, s, 0⟩) ⟨he.1, he.2, h0, by show s < _; omega⟩ (hc l (by simp)) k
      exact ⟨this.1, by rw [this.2.1]; exact Int.le_refl _, by rw [this.2.1]; show s < _; omega⟩
    · have := LT_tags he T (s + 1) (by omega) (by omega) (fun x hx => hc x (by simp [hx])) b hb
      exact ⟨this.1, by omega, by omega⟩
theorem LT_size {e : Int} : ∀ (T : List (List Wr)) (s : Int), (∀ l ∈ T, Full l) → ∀ b ∈ LT e s T, b.length = 128
  | [], s, _, b, hb => by simp [LT] at hb
  | l :: T, s, hc, b, hb => by
    rw [LT] at hb
    rcases List.mem_append.1 hb with hb | hb
    · unfold laidB at hb
      obtain ⟨k, hk, rfl⟩ := List.mem_map.1 hb
      exact jblk_len (hc l (by simp)) (by simpa using hk)
    · exact LT_size T _ (fun x hx => hc x (by simp [hx])) b hb

theorem prefix_of {α : Type} : ∀ (A C : List α), (∀ (p : Nat) b, A[p]? = some b → C[p]? = some b) → A <+: C
  | [], C, _ => List.nil_prefix
  | a :: A, C, h => by
    have h0 := h 0 a rfl
    cases C with
    | nil => cases h0
    | cons c C =>
      simp only [List.getElem?_cons_zero, Option.some.injEq] at h0
      subst h0
      exact (List.prefix_cons_inj c).2 (prefix_of A C fun p b hp => by simpa using h (p + 1) b (by simpa using hp))

/-! ### Blocks that home comes out of for sure -/
structure Lays (n z B : Nat) (e s : Int) (T : List (List Wr)) : Prop where
  zn : 4 ≤ z ∧ z + 4 ≤ n
  nn : n ≤ 4096
  e0 : 1 ≤ e
  s0 : 1 ≤ s
  top : e ≤ B ∧ s + T.length ≤ B
  bb : B ≤ 1000000000
  may : MayT T (n - 1 - z : Int)
theorem Lays.up {n z B B' : Nat} {e s : Int} {T : List (List Wr)} (h : Lays n z B e s T) (h1 : B ≤ B') (h2 : B' ≤ 1000000000) : Lays n z B' e s T := ⟨h.zn, h.nn, h.e0, h.s0, ⟨by have := h.top; omega, by have := h.top; omega⟩, h2, h.may⟩

def jbX (z : Nat) (X : List Octs) : List Octs := (X.drop 1).take z
theorem jbX_at {z : Nat} {X : List Octs} {p : Nat} (hp : p < z) : (jbX z X)[p]? = X[1 + p]? := by unfold jbX; rw [List.getElem?_take, if_pos hp, List.getElem?_drop]
theorem jbX_lt {z : Nat} {X : List Octs} {p : Nat} {b : Octs} (h : (jbX z X)[p]? = some b) : p < z := by
  unfold jbX at h
  rw [List.getElem?_take] at h
  split at h
  · assumption
  · cases h

structure SureAt (n z B : Nat) (X : List Octs) (hm : Nat → Octs) (e s : Int) (T : List (List Wr)) : Prop where
  lays : Lays n z B e s T
  len : X.length = n
  size : ∀ b ∈ X, b.length = 128
  hdr : X[0]? = some (hdrB ⟨e, s, z⟩)
  good : GoodB e s T (jbX z X)
  home : ∀ k, k < n - 1 - z → ∃ b, X[1 + z + k]? = some b ∧ (tGet (tAll [] (fullT e s (jbX z X) T).flatten) k).getD b = hm k
def Sure (n z B : Nat) (X : List Octs) (hm : Nat → Octs) : Prop := ∃ e s T, SureAt n z B X hm e s T
theorem Sure.up {n z B B' : Nat} {X : List Octs} {hm : Nat → Octs} (h : Sure n z B X hm) (h1 : B ≤ B') (h2 : B' ≤ 1000000000) : Sure n z B' X hm := by
  obtain ⟨e, s, T, h⟩ := h
  exact ⟨e, s, T, h.lays.up h1 h2, h.len, h.size, h.hdr, h.good, h.home⟩

/-! ### Home blocks written -/
def keysOf (t : List Wr) : List Int := sorted (t.map (·.1))
theorem keysOf_mem {t : List Wr} {k : Int} : k ∈ keysOf t ↔ k ∈ t.map (·.1) := by unfold keysOf sorted; rw [List.mem_mergeSort]
theorem homeWs_mem {z : Nat} {n : Nat} {t : List Wr} (hto : TOk t (n - 1 - z : Int)) {w : Int × Octs} (hw : w ∈ homeWs z t (keysOf t)) : ∃ k : Nat, k < n - 1 - z ∧ w.1 = ((1 + z + k : Nat) : Int) ∧ tGet t k = some w.2 ∧ w.2.length = 128 := by
  unfold homeWs at hw
  obtain ⟨k, hk, rfl⟩ := List.mem_map.1 hw
  obtain ⟨x, hx, hxm⟩ := tGet_mem (keysOf_mem.1 hk)
  have := hto.1 _ hxm
  simp only at this
  refine ⟨k.toNat, by omega, by simp only; omega, ?_, ?_⟩
  · rw [show ((k.toNat : Nat) : Int) = k by omega, hx]; rfl
  · rw [hx]; exact this.2.2
theorem home_low {n z : Nat} {t : List Wr} (hto : TOk t (n - 1 - z : Int)) (X : List Octs) {i : Nat} (hi : i ≤ z) : (laid X (homeWs z t (keysOf t)))[i]? = X[i]? :=
  laid_none _ _ fun w hw => by
    obtain ⟨k, h1, h2, _⟩ := homeWs_mem hto hw
    omega
theorem home_high {n z : Nat} {t : List Wr} (hto : TOk t (n - 1 - z : Int)) {X : List Octs} (hX : X.length = n) {k : Nat} (hk : k < n - 1 - z) {b : Octs} (hb : X[1 + z + k]? = some b) : (laid X (homeWs z t (keysOf t)))[1 + z + k]? = some ((tGet t k).getD b) := by
  by_cases h : (k : Int) ∈ t.map (·.1)
  · obtain ⟨x, hx, hxm⟩ := tGet_mem h
    rw [hx, Option.getD_some]
    refine laid_same _ _ (fun w hw he => ?_) (.inr ⟨⟨(1 + (z : Int) + k, x), ?_, by simp only; omega⟩, by omega⟩)
    · obtain ⟨k', h1, h2, h3, _⟩ := homeWs_mem hto hw
      have : k' = k := by omega
      subst this
      rw [hx] at h3
      exact (Option.some.inj h3).symm
    · unfold homeWs
      exact List.mem_map.2 ⟨k, keysOf_mem.2 h, by rw [hx]; rfl⟩
  · rw [tGet_none h, Option.getD_none]
    rw [laid_none _ _ fun w hw => ?_]
    · exact hb
    · obtain ⟨k', h1, h2, h3, _⟩ := homeWs_mem hto hw
      intro he
      have : k' = k := by omega
      subst this
      rw [tGet_none h] at h3
      cases h3

/-- What home is, is sure, whichever of its blocks are written. -/
theorem SureAt.part {n z B : Nat} {X X' : List Octs} {hm : Nat → Octs} {e s : Int} {T : List (List Wr)} (h : SureAt n z B X hm e s T) {t : List Wr} (ht : t = tAll [] (fullT e s (jbX z X) T).flatten) (hto : TOk t (n - 1 - z : Int))
    (hl : X'.length = n) (hs : ∀ b ∈ X', b.length = 128) (hp : ∀ (i : Nat) (b : Octs), X'[i]? = some b → X[i]? = some b ∨ ∃ w ∈ homeWs z t (keysOf t), w.1.toNat = i ∧ w.2 = b) : SureAt n z B X' hm e s T := by
  have hzn := h.lays.zn
  have low : ∀ i : Nat, i ≤ z → X'[i]? = X[i]? := fun i hi => by
    have h1 : X'[i]? = some X'[i] := List.getElem?_eq_getElem (by omega)
    rcases hp i _ h1 with h2 | ⟨w, hw, h2, _⟩
    · rw [h1, h2]
    · obtain ⟨k, _, h3, _⟩ := homeWs_mem hto hw
      omega
  have hj : jbX z X' = jbX z X := by
    apply List.ext_getElem?
    intro p
    by_cases hp : p < z
    · rw [jbX_at hp, jbX_at hp, low _ (by omega)]
    · unfold jbX; rw [List.getElem?_take, if_neg hp, List.getElem?_take, if_neg hp]
  refine ⟨h.lays, hl, hs, by rw [low 0 (by omega)]; exact h.hdr, by rw [hj]; exact h.good, fun k hk => ?_⟩
  rw [hj, ← ht]
  obtain ⟨b, hb, he⟩ := h.home k hk
  rw [← ht] at he
  have h1 : X'[1 + z + k]? = some X'[1 + z + k] := List.getElem?_eq_getElem (by omega)
  refine ⟨_, h1, ?_⟩
  rcases hp _ _ h1 with h2 | ⟨w, hw, h2, h3⟩
  · rw [hb] at h2
    rw [← Option.some.inj h2]
    exact he
  · obtain ⟨k', _, h4, h5, _⟩ := homeWs_mem hto hw
    have : k' = k := by omega
    subst this
    rw [h5, Option.getD_some] at he ⊢
    exact he

/-- A life begun. -/
theorem SureAt.fresh {n z B : Nat} {X : List Octs} {hm : Nat → Octs} {e s : Int} (hly : Lays n z B e s []) (hl : X.length = n) (hs : ∀ b ∈ X, b.length = 128) (hh : X[0]? = some (hdrB ⟨e, s, z⟩)) (hj : ∀ p b, p < z → X[1 + p]? = some b → OldB e s b) (hk : ∀ k, k < n - 1 - z → X[1 + z + k]? = some (hm k)) : SureAt n z B X hm e s [] := by
  refine ⟨hly, hl, hs, hh, fun p b hp => .inr ?_, fun k h => ⟨_, hk k h, rfl⟩⟩
  have := jbX_lt hp
  rw [jbX_at this] at hp
  exact hj p b this hp

theorem MayT.flat {T : List (List Wr)} {homes : Int} (h : MayT T homes) : ∀ w ∈ T.flatten, 0 ≤ w.1 ∧ w.1 < homes ∧ w.2.length = 128 := fun w hw => by
  obtain ⟨l, hl, hw⟩ := List.mem_flatten.1 hw
  exact (h l hl).1.2.1 w hw
theorem MayT.tok {T : List (List Wr)} {homes : Int} (h : MayT T homes) : TOk (tAll [] T.flatten) homes := (TOk.nil _).all _ h.flat
theorem MayT.pre {T U : List (List Wr)} {homes : Int} (h : MayT T homes) (hp : U <+: T) : MayT U homes := fun l hl => h l (hp.subset hl)

/-- Blocks of a life are old in the next one. -/
theorem GoodB.old {e s : Int} {T : List (List Wr)} {bs : List Octs} (h : GoodB e s T bs) (he : 0 ≤ e ∧ e < 4294967296) (h0 : 0 ≤ s) (h1 : s + T.length ≤ 4294967296) (hc : ∀ l ∈ T, cntN l < 65536) {e' s' : Int} (hn : e < e' ∨ (e = e' ∧ s + T.length ≤ s')) {p : Nat} {b : Octs} (hp : bs[p]? = some b) : OldB e' s' b := by
  rcases h p b hp with h2 | h2
  · have := LT_tags he T s h0 h1 hc b (List.mem_of_getElem? h2)
    rcases hn with hn | ⟨rfl, hn⟩
    · exact .inl (by omega)
    · exact .inr ⟨this.1, by omega⟩
  · rcases hn with hn | ⟨rfl, hn⟩
    · exact h2.life hn
    · exact h2.up (by omega)

/-! ### Writing home, and a header -/
/-- The device's fall on its way home: what may be there. -/
theorem home_sure {n z B : Nat} {X : List Octs} {hm : Nat → Octs} {e s : Int} {T : List (List Wr)} (h : SureAt n z B X hm e s T) {t : List Wr} (ht : t = tAll [] (fullT e s (jbX z X) T).flatten) (hto : TOk t (n - 1 - z : Int)) (i : Nat) (ms : Octs) : SureAt n z B (crashL ms ((homeWs z t (keysOf t)).take i) 0 X) hm e s T := by
  refine h.part ht hto (by rw [crashL_length]; exact h.len) (crashL_size ms _ _ _ h.size fun w hw => ?_) fun i b hb => ?_
  · obtain ⟨_, _, _, _, h5⟩ := homeWs_mem hto (List.mem_of_mem_take hw)
    exact h5
  · rcases crash_poss ms _ _ _ hb with h1 | ⟨w, hw, h1, h2⟩
    · exact .inl h1
    · exact .inr ⟨w, List.mem_of_mem_take hw, h1, h2⟩

theorem home_laid {n z B : Nat} {X : List Octs} {hm : Nat → Octs} {e s : Int} {T : List (List Wr)} (h : SureAt n z B X hm e s T) {t : List Wr} (ht : t = tAll [] (fullT e s (jbX z X) T).flatten) (hto : TOk t (n - 1 - z : Int)) :
    SureAt n z B (laid X (homeWs z t (keysOf t))) hm e s T ∧ ∀ k, k < n - 1 - z → (laid X (homeWs z t (keysOf t)))[1 + z + k]? = some (hm k) := by
  have hsz : ∀ b ∈ laid X (homeWs z t (keysOf t)), b.length = 128 := laid_size _ _ h.size fun w hw => by
    obtain ⟨_, _, _, _, h5⟩ := homeWs_mem hto hw
    exact h5
  have hk : ∀ k, k < n - 1 - z → (laid X (homeWs z t (keysOf t)))[1 + z + k]? = some (hm k) := fun k hk => by
    obtain ⟨b, hb, he⟩ := h.home k hk
    rw [← ht] at he
    rw [home_high hto h.len hk hb, he]
  refine ⟨h.part ht hto (by rw [laid_length]; exact h.len) hsz fun i b hb => ?_, hk⟩
  by_cases hi : i ≤ z
  · rw [home_low hto X hi] at hb
    exact .inl hb
  · have hlt : i < n := by rw [← h.len, ← laid_length (homeWs z t (keysOf t)) X]; exact (List.getElem?_eq_some_iff.1 hb).1
    obtain ⟨k, rfl⟩ : ∃ k, i = 1 + z + k := ⟨i - 1 - z, by omega⟩
    have hxl : 1 + z + k < X.length := by rw [h.len]; exact hlt
    have hx : X[1 + z + k]? = some X[1 + z + k] := List.getElem?_eq_getElem hxl
    rw [home_high hto h.len (by omega) hx] at hb
    cases hg : tGet t (k : Int) with
    | none => rw [hg] at hb; exact .inl (by rw [hx]; exact hb)
    | some x =>
      rw [hg, Option.getD_some, Option.some.injEq] at hb
      subst hb
      refine .inr ⟨(1 + (z : Int) + k, x), ?_, by simp only; omega, rfl⟩
      unfold homeWs
      refine List.mem_map.2 ⟨k, keysOf_mem.2 ?_, by rw [hg]; rfl⟩
      by_cases hkm : (k : Int) ∈ t.map (·.1)
      · exact hkm
      · rw [tGet_none hkm] at hg; cases hg

/-- A new header over blocks all of which are home. -/
theorem hdr_sure {n z B : Nat} {X : List Octs} {hm : Nat → Octs} {e s : Int} {T : List (List Wr)} (h : SureAt n z B X hm e s T) (hk : ∀ k, k < n - 1 - z → X[1 + z + k]? = some (hm k)) {e' s' : Int} (hn : e < e' ∨ (e = e' ∧ s + T.length ≤ s')) {B' : Nat} (hly : Lays n z B' e' s' []) :
    SureAt n z B' (X.set 0 (hdrB ⟨e', s', z⟩)) hm e' s' [] := by
  have hzn := h.lays.zn
  have hb := h.lays.bb
  have htop := h.lays.top
  have he0 := h.lays.e0
  have hs0 := h.lays.s0
  refine .fresh hly (by rw [List.length_set]; exact h.len) (fun b hb => ?_) (by rw [List.getElem?_set_self (by have := h.len; omega)]) (fun p b hp hb => ?_) fun k hk' => by rw [List.getElem?_set_ne (by omega)]; exact hk k hk'
  · rcases List.mem_or_eq_of_mem_set hb with hb | rfl
    · exact h.size b hb
    · exact hdrB_len _
  · rw [List.getElem?_set_ne (by omega), ← jbX_at hp] at hb
    exact h.good.old ⟨by omega, by omega⟩ (by omega) (by omega) (fun l hl => (h.lays.may l hl).2) hn hb

/-! ### Opening -/
/-- Going home, and a header begun: it comes to its end, or it falls, and all is sure. -/
theorem begin_cases {n z B : Nat} {X : List Octs} {hm : Nat → Octs} {e s : Int} {T : List (List Wr)} (h : SureAt n z B X hm e s T) {J : Jn} {D : Dev} {K : List Octs} {P : List (Int × Octs)} (ha : At D K P) (hX : laid K P = X) (hJs : J.h.size = z)
    (hJt : J.taken = tAll [] (fullT e s (jbX z X) T).flatten) {e' s' : Int} (hn : e < e' ∨ (e = e' ∧ s + T.length ≤ s')) {B' : Nat} (hB : B ≤ B') (hly : Lays n z B' e' s' []) :
    ((goHomeM n J D).2 = 0 ∧ (beginM n ⟨e', s', z⟩ J (goHomeM n J D).1).2.2 = 0 ∧ (beginM n ⟨e', s', z⟩ J (goHomeM n J D).1).2.1 = { J with h := ⟨e', s', z⟩, used := 0, taken := [] } ∧
      ∃ K', At (beginM n ⟨e', s', z⟩ J (goHomeM n J D).1).1 K' [] ∧ SureAt n z B' K' hm e' s' [] ∧ (∀ k, k < n - 1 - z → K'[1 + z + k]? = some (hm k)) ∧ (D.fuse = -1 → (beginM n ⟨e', s', z⟩ J (goHomeM n J D).1).1.fuse = -1)) ∨
    (D.fuse ≠ -1 ∧ (goHomeM n J D).2 = 4 ∧ ∃ i, Down (goHomeM n J D).1 K (P ++ (homeWs z J.taken (keysOf J.taken)).take i)) ∨
    (D.fuse ≠ -1 ∧ (goHomeM n J D).2 = 0 ∧ (beginM n ⟨e', s', z⟩ J (goHomeM n J D).1).2.2 = 4 ∧ ∃ K' P', Down (beginM n ⟨e', s', z⟩ J (goHomeM n J D).1).1 K' P' ∧ ∀ ms, Sure n z B' (crashL ms P' 0 K') hm) := by
  have hzn := h.lays.zn
  have hto : TOk J.taken (n - 1 - z : Int) := by rw [hJt]; exact (h.lays.may.pre (fullT_pre e T s _)).tok
  have hgo : goHomeM n J D = goW n z J.taken (keysOf J.taken) D := by unfold goHomeM keysOf; rw [hJs]
  rw [hgo]
  have hok : ∀ k ∈ keysOf J.taken, 0 ≤ 1 + (z : Int) + k ∧ 1 + (z : Int) + k < n ∧ ((tGet J.taken k).getD []).length = 128 := fun k hk => by
    obtain ⟨x, hx, hxm⟩ := tGet_mem (keysOf_mem.1 hk)
    have := hto.1 _ hxm
    simp only at this
    rw [hx]
    exact ⟨by omega, by omega, this.2.2⟩
  rcases goW_cases (n := n) (size := z) (t := J.taken) (keysOf J.taken) ha hok with ⟨g1, g2, g3⟩ | ⟨g1, g2, g3⟩
  · have hlaid : laid K (P ++ homeWs z J.taken (keysOf J.taken)) = laid X (homeWs z J.taken (keysOf J.taken)) := by
      rw [← hX]; unfold laid; rw [List.foldl_append]
    rw [hlaid] at g2
    obtain ⟨q1, q2⟩ := home_laid h hJt hto
    generalize laid X (homeWs z J.taken (keysOf J.taken)) = X1 at *
    generalize goW n z J.taken (keysOf J.taken) D = r at *
    unfold beginM
    have hset : laid X1 [((0 : Int), hdrB ⟨e', s', z⟩)] = X1.set 0 (hdrB ⟨e', s', z⟩) := rfl
    have hs := hdr_sure q1 q2 hn hly
    have hk' : ∀ k, k < n - 1 - z → (X1.set 0 (hdrB ⟨e', s', z⟩))[1 + z + k]? = some (hm k) := fun k hk => by rw [List.getElem?_set_ne (by omega)]; exact q2 k hk
    have old : ∀ ms, Sure n z B' (crashL ms [] 0 X1) hm := fun ms => Sure.up ⟨e, s, T, q1⟩ hB hly.bb
    rcases write_cases (n := n) (k := 0) g2 ⟨by omega, by omega⟩ (hdrB_len ⟨e', s', z⟩) with ⟨w1, w2, w3⟩ | ⟨w1, w2, w3⟩
    · rw [if_neg (by simp [w1])]
      rcases flush_cases w2 with ⟨f1, f2, f3⟩ | ⟨f1, f2, f3⟩
      · rw [if_neg (by simp [f1])]
        rw [List.nil_append, hset] at f2
        exact .inl ⟨g1, rfl, rfl, _, f2, hs, hk', fun he => f3 (w3 (g3 he))⟩
      · rw [if_pos (by simp [f1])]
        refine .inr (.inr ⟨fun he => f3 (w3 (g3 he)), g1, f1, X1, _, f2, fun ms => ?_⟩)
        rw [List.nil_append, crashL, crashL]
        split
        · exact ⟨e', s', [], hs⟩
        · exact old ms
    · rw [if_pos (by simp [w1])]
      exact .inr (.inr ⟨fun he => w3 (g3 he), g1, w1, X1, [], w2, old⟩)
  · exact .inr (.inl ⟨g3, g1, g2⟩)
end Go.Proofs
end

section
open Go Go.Vc
namespace Go.Proofs

/-! ### A journal that lives -/
structure Pers (n z B : Nat) (K : List Octs) (P : List (Int × Octs)) (e s : Int) (T : List (List Wr)) (f : Nat) (base : Nat → Octs) : Prop where
  lays : Lays n z B e s T
  fits : (LT e s T).length ≤ z
  ff : f ≤ T.length
  len : K.length = n
  size : ∀ b ∈ K, b.length = 128
  hdr : K[0]? = some (hdrB ⟨e, s, z⟩)
  pin : ∀ w ∈ P, ∃ p : Nat, w.1 = ((1 + p : Nat) : Int) ∧ (LT e s T)[p]? = some w.2
  jb : ∀ (p : Nat) (b : Octs), p < z → K[1 + p]? = some b → (LT e s T)[p]? = some b ∨ OldB e s b
  ahead : ∀ (p : Nat) (b : Octs), (LT e s (T.take f))[p]? = some b → K[1 + p]? = some b
  home : ∀ k, k < n - 1 - z → K[1 + z + k]? = some (base k)

theorem Pers.lt {n z B : Nat} {K : List Octs} {P : List (Int × Octs)} {e s : Int} {T : List (List Wr)} {f : Nat} {base : Nat → Octs} (h : Pers n z B K P e s T f base) {w : Int × Octs} (hw : w ∈ P) : ∃ p : Nat, w.1.toNat = 1 + p ∧ p < z ∧ (LT e s T)[p]? = some w.2 ∧ w.2.length = 128 := by
  obtain ⟨p, h1, h2⟩ := h.pin w hw
  have := (List.getElem?_eq_some_iff.1 h2).1
  have hf := h.fits
  exact ⟨p, by omega, by omega, h2, LT_size T s (fun l hl => (h.lays.may l hl).1.full) _ (List.mem_of_getElem? h2)⟩

/-- What a crash leaves. -/
theorem Pers.crash {n z B : Nat} {K : List Octs} {P : List (Int × Octs)} {e s : Int} {T : List (List Wr)} {f : Nat} {base : Nat → Octs} (h : Pers n z B K P e s T f base) (ms : Octs) : ∃ j, f ≤ j ∧ j ≤ T.length ∧ Sure n z B (crashL ms P 0 K) (hmT base (T.take j)) := by
  have hzn := h.lays.zn
  have hl : (crashL ms P 0 K).length = n := by rw [crashL_length]; exact h.len
  have hs : ∀ b ∈ crashL ms P 0 K, b.length = 128 := crashL_size ms _ _ _ h.size fun w hw => by obtain ⟨_, _, _, _, h5⟩ := h.lt hw; exact h5
  have low : ∀ {i : Nat} {b : Octs}, (crashL ms P 0 K)[i]? = some b → K[i]? = some b ∨ ∃ p, i = 1 + p ∧ p < z ∧ (LT e s T)[p]? = some b := fun hb => by
    rcases crash_poss ms _ _ _ hb with h1 | ⟨w, hw, h1, rfl⟩
    · exact .inl h1
    · obtain ⟨p, h2, h3, h4, _⟩ := h.lt hw
      exact .inr ⟨p, by omega, h3, h4⟩
  generalize crashL ms P 0 K = X at *
  have hpre := fullT_pre e T s (jbX z X)
  obtain ⟨j, hj, hT⟩ : ∃ j, j ≤ T.length ∧ fullT e s (jbX z X) T = T.take j := ⟨_, hpre.length_le, List.prefix_iff_eq_take.1 hpre⟩
  refine ⟨j, ?_, hj, e, s, T, h.lays, hl, hs, ?_, fun p b hp => ?_, fun k hk => ?_⟩
  · have h1 : LT e s (T.take f) <+: jbX z X := prefix_of _ _ fun p b hp => by
      have hLT : (LT e s T)[p]? = some b := by
        conv => lhs; rw [← List.take_append_drop f T, LT_app]
        rw [List.getElem?_append_left (List.getElem?_eq_some_iff.1 hp).1]
        exact hp
      have hpz : p < z := by have := (List.getElem?_eq_some_iff.1 hLT).1; have := h.fits; omega
      rw [jbX_at hpz]
      have hx : X[1 + p]? = some (X[1 + p]'(by omega)) := List.getElem?_eq_getElem _
      rw [hx]
      rcases low hx with h2 | ⟨q, h2, h3, h4⟩
      · rw [← h2]; exact h.ahead p b hp
      · have : q = p := by omega
        subst this
        rw [← h4]; exact hLT
    have h2 := (fullT_ahead e (T.take f) (T.drop f) s _ h1).length_le
    rw [List.take_append_drop, hT, List.length_take, List.length_take] at h2
    have := h.ff
    omega
  · have hx : X[0]? = some (X[0]'(by omega)) := List.getElem?_eq_getElem _
    rcases low hx with h2 | ⟨q, h2, _⟩
    · rw [hx, ← h2]; exact h.hdr
    · omega
  · have hpz := jbX_lt hp
    rw [jbX_at hpz] at hp
    rcases low hp with h2 | ⟨q, h2, h3, h4⟩
    · exact h.jb p b hpz h2
    · have : q = p := by omega
      subst this
      exact .inl h4
  · have hlt : 1 + z + k < X.length := by omega
    have hx : X[1 + z + k]? = some X[1 + z + k] := List.getElem?_eq_getElem hlt
    refine ⟨_, hx, ?_⟩
    rw [hT]
    rcases low hx with h2 | ⟨q, h2, h3, _⟩
    · rw [h.home k hk] at h2
      rw [← Option.some.inj h2]
      rfl
    · omega

structure Live (n z B : Nat) (J : Jn) (D : Dev) (e s : Int) (T : List (List Wr)) (f : Nat) (base : Nat → Octs) : Prop where
  pers : Pers n z B D.kept D.pend e s T f base
  dead : D.dead = false
  jdead : J.dead = false
  jh : J.h = ⟨e, s + T.length, z⟩
  used : J.used = (LT e s T).length
  taken : J.taken = tAll [] T.flatten
  now : ∀ (p : Nat) (b : Octs), (LT e s T)[p]? = some b → D.now[1 + p]? = some b

/-- Now home is cur; behind a fall it is one of those that S says. -/
def LiveA (n z B : Nat) (J : Jn) (D : Dev) (cur : Nat → Octs) (S : (Nat → Octs) → Prop) : Prop :=
  ∃ e s T f base, Live n z B J D e s T f base ∧ cur = hmT base T ∧ ∀ j, f ≤ j → j ≤ T.length → S (hmT base (T.take j))
/-- Fallen. -/
def Fell (n z B : Nat) (D : Dev) (S : (Nat → Octs) → Prop) : Prop := D.dead = true ∧ ∀ ms, ∃ hm, S hm ∧ Sure n z B (crashL ms D.pend 0 D.kept) hm

theorem Live.low {n z B : Nat} {J : Jn} {D : Dev} {e s : Int} {T : List (List Wr)} {f : Nat} {base : Nat → Octs} (h : Live n z B J D e s T f base) {i : Nat} (hi : i = 0 ∨ z < i) : D.now[i]? = D.kept[i]? :=
  laid_none _ _ fun w hw => by
    obtain ⟨p, h1, h2, _⟩ := h.pers.lt hw
    omega

theorem Live.at_ {n z B : Nat} {J : Jn} {D : Dev} {e s : Int} {T : List (List Wr)} {f : Nat} {base : Nat → Octs} (h : Live n z B J D e s T f base) : At D D.kept D.pend := ⟨rfl, rfl, h.dead⟩

/-- What stands on the device, as it is read. -/
theorem Live.sure {n z B : Nat} {J : Jn} {D : Dev} {e s : Int} {T : List (List Wr)} {f : Nat} {base : Nat → Octs} (h : Live n z B J D e s T f base) : SureAt n z B D.now (hmT base T) e s T ∧ fullT e s (jbX z D.now) T = T := by
  have hp := h.pers
  have hzn := hp.lays.zn
  have hfull : fullT e s (jbX z D.now) T = T := by
    have h1 : LT e s T <+: jbX z D.now := prefix_of _ _ fun p b hb => by
      have := (List.getElem?_eq_some_iff.1 hb).1
      rw [jbX_at (by have := hp.fits; omega)]
      exact h.now p b hb
    have h2 := (fullT_ahead e T [] s _ h1)
    rw [List.append_nil] at h2
    exact (h2.eq_of_length_le (fullT_pre e T s _).length_le).symm
  refine ⟨⟨hp.lays, by unfold Dev.now; rw [laid_length]; exact hp.len, laid_size _ _ hp.size fun w hw => by obtain ⟨_, _, _, _, h5⟩ := hp.lt hw; exact h5, by rw [h.low (.inl rfl)]; exact hp.hdr, fun p b hb => ?_, fun k hk => ?_⟩, hfull⟩
  · have hpz := jbX_lt hb
    rw [jbX_at hpz] at hb
    by_cases hl : p < (LT e s T).length
    · have h1 : (LT e s T)[p]? = some (LT e s T)[p] := List.getElem?_eq_getElem hl
      rw [h.now p _ h1] at hb
      rw [h1]; exact .inl hb
    · have : D.now[1 + p]? = D.kept[1 + p]? := laid_none _ _ fun w hw => by
        obtain ⟨q, h1, h2, h3, _⟩ := hp.lt hw
        have := (List.getElem?_eq_some_iff.1 h3).1
        omega
      rw [this] at hb
      exact hp.jb p b hpz hb
  · rw [hfull, h.low (.inr (by omega)), hp.home k hk]
    exact ⟨_, rfl, rfl⟩

theorem Live.crash {n z B : Nat} {J : Jn} {D : Dev} {cur : Nat → Octs} {S : (Nat → Octs) → Prop} (h : LiveA n z B J D cur S) (ms : Octs) : ∃ hm, S hm ∧ Sure n z B (crashL ms D.pend 0 D.kept) hm := by
  obtain ⟨e, s, T, f, base, h, _, hS⟩ := h
  obtain ⟨j, h1, h2, h3⟩ := h.pers.crash ms
  exact ⟨_, hS j h1 h2, h3⟩

/-- A life begun is one. -/
theorem live_new {n z B : Nat} {X : List Octs} {hm : Nat → Octs} {e s : Int} (h : SureAt n z B X hm e s []) {D : Dev} (ha : At D X []) {J : Jn} (hJ : J = ⟨⟨e, s, z⟩, 0, [], false⟩) : Live n z B J D e s [] 0 hm := by
  obtain ⟨rfl, hp, hd⟩ := ha
  refine ⟨⟨h.lays, Nat.zero_le _, Nat.le_refl _, h.len, h.size, h.hdr, by rw [hp]; simp, fun p b hz hb => ?_, by simp [LT], fun k hk => ?_⟩, hd, by rw [hJ], by rw [hJ]; simp, by rw [hJ]; rfl, by rw [hJ]; rfl, by simp [LT]⟩
  · rcases h.good p b (by rw [jbX_at hz]; exact hb) with h1 | h1
    · simp [LT] at h1
    · exact .inr h1
  · obtain ⟨b, hb, he⟩ := h.home k hk
    rw [hb]
    exact congrArg _ he

theorem Lays.next {n z B : Nat} {e s : Int} {T : List (List Wr)} (h : Lays n z B e s T) {B' : Nat} (hB : B + 1 ≤ B') (hB' : B' ≤ 1000000000) : Lays n z B' (e + 1) 1 [] :=
  ⟨h.zn, h.nn, by have := h.e0; omega, Int.le_refl _, ⟨by have := h.top; omega, by have := h.top; have := h.e0; simp; omega⟩, hB', by intro l hl; cases hl⟩

/-- Opening. -/
theorem open_cases {n z B : Nat} {X : List Octs} {hm : Nat → Octs} (h : Sure n z B X hm) {D : Dev} {K : List Octs} {P : List (Int × Octs)} (ha : At D K P) (hX : laid K P = X) (hB : B + 1 ≤ 1000000000) :
    (∃ J e, openM n D = ((openM n D).1, some J, 0) ∧ Live n z (B + 1) J (openM n D).1 e 1 [] 0 hm ∧ (D.fuse = -1 → (openM n D).1.fuse = -1)) ∨
    (openM n D = ((openM n D).1, none, 4) ∧ D.fuse ≠ -1 ∧ (openM n D).1.dead = true ∧ (P = [] → ∀ ms, Sure n z (B + 1) (crashL ms (openM n D).1.pend 0 (openM n D).1.kept) hm)) := by
  obtain ⟨e, s, T, h⟩ := h
  have hzn := h.lays.zn
  have hnn := h.lays.nn
  have he0 := h.lays.e0
  have hs0 := h.lays.s0
  have htop := h.lays.top
  have hnow : D.now = X := by unfold Dev.now; rw [ha.kept, ha.pend]; exact hX
  have hread : readM n D = (⟨e, s, z⟩, 0) := readM_good ha.dead (by rw [hnow]; exact h.hdr) ⟨by omega, by omega⟩ ⟨hs0, by omega⟩ hzn hnn
  have hjl : (jbX z X).length = z := by unfold jbX; rw [List.length_take, List.length_drop, h.len]; omega
  have hho : homeN n z = n - 1 - z := homeN_of (by omega)
  have hrec : recL ((jblocks D z).length + 1) ⟨e, s, z⟩ (jblocks D z) [] (homeN n z) = (⟨e, s + (fullT e s (jbX z X) T).length, z⟩, tAll [] (fullT e s (jbX z X) T).flatten) := by
    have : jblocks D z = jbX z X := by unfold jblocks jbX; rw [hnow, Int.toNat_natCast]
    rw [this, hho]
    exact recL_good e z _ (by omega) (by omega) (by omega) T s _ [] _ (by omega) (by omega) h.lays.may h.good (by omega)
  have hopen : openM n D = (if (recoverM n ⟨⟨e, s, z⟩, 0, [], false⟩ D).2.2 ≠ 0 then ((recoverM n ⟨⟨e, s, z⟩, 0, [], false⟩ D).1, none, (recoverM n ⟨⟨e, s, z⟩, 0, [], false⟩ D).2.2) else ((recoverM n ⟨⟨e, s, z⟩, 0, [], false⟩ D).1, some (recoverM n ⟨⟨e, s, z⟩, 0, [], false⟩ D).2.1, 0)) := by
    unfold openM; rw [hread]; simp
  generalize hJ1 : (⟨⟨e, s + (fullT e s (jbX z X) T).length, z⟩, 0, tAll [] (fullT e s (jbX z X) T).flatten, false⟩ : Jn) = J1 at *
  have hrecM : recoverM n ⟨⟨e, s, z⟩, 0, [], false⟩ D = if (goHomeM n J1 D).2 ≠ 0 then ((goHomeM n J1 D).1, J1, (goHomeM n J1 D).2) else beginM n ⟨e + 1, 1, z⟩ J1 (goHomeM n J1 D).1 := by
    unfold recoverM
    rw [if_neg (by simp [ha.dead])]
    simp only [hrec, hJ1]
  have hlast := begin_cases h (J := J1) ha hX (by rw [← hJ1]) (by rw [← hJ1]) (e' := e + 1) (s' := 1) (.inl (by omega)) (B' := B + 1) (by omega) (h.lays.next (Nat.le_refl _) hB)
  rcases hlast with ⟨g1, g2, g3, K', g4, g5, g6, g7⟩ | ⟨g0, g1, i, g2⟩ | ⟨g0, g1, g2, K', P', g3, g4⟩
  · rw [if_neg (by simp [g1])] at hrecM
    rw [hrecM, if_neg (by simp [g2])] at hopen
    refine .inl ⟨(beginM n ⟨e + 1, 1, z⟩ J1 (goHomeM n J1 D).1).2.1, e + 1, by rw [hopen], ?_, by rw [hopen]; exact g7⟩
    rw [hopen]
    exact live_new g5 g4 (by rw [g3, ← hJ1])
  · rw [if_pos (by simp [g1])] at hrecM
    rw [hrecM, if_pos (by simp [g1])] at hopen
    simp only [g1] at hopen
    refine .inr ⟨by rw [hopen], g0, by rw [hopen]; exact g2.dead, fun hP ms => ?_⟩
    rw [hopen]
    simp only [g2.pend, g2.kept]
    subst hP
    have hKX : K = X := hX
    rw [List.nil_append, hKX, ← hJ1]
    exact Sure.up ⟨e, s, T, home_sure h rfl ((h.lays.may.pre (fullT_pre e T s _)).tok) i ms⟩ (by omega) hB
  · rw [if_neg (by simp [g1])] at hrecM
    rw [hrecM, if_pos (by simp [g2])] at hopen
    rw [g2] at hopen
    refine .inr ⟨by rw [hopen], g0, by rw [hopen]; exact g3.dead, fun _ ms => ?_⟩
    rw [hopen]
    simp only [g3.pend, g3.kept]
    exact g4 ms

theorem Live.up {n z B B' : Nat} {J : Jn} {D : Dev} {e s : Int} {T : List (List Wr)} {f : Nat} {base : Nat → Octs} (h : Live n z B J D e s T f base) (h1 : B ≤ B') (h2 : B' ≤ 1000000000) : Live n z B' J D e s T f base :=
  ⟨⟨h.pers.lays.up h1 h2, h.pers.fits, h.pers.ff, h.pers.len, h.pers.size, h.pers.hdr, h.pers.pin, h.pers.jb, h.pers.ahead, h.pers.home⟩, h.dead, h.jdead, h.jh, h.used, h.taken, h.now⟩
theorem LiveA.up {n z B B' : Nat} {J : Jn} {D : Dev} {cur : Nat → Octs} {S S' : (Nat → Octs) → Prop} (h : LiveA n z B J D cur S) (h1 : B ≤ B') (h2 : B' ≤ 1000000000) (hS : ∀ x, S x → S' x) : LiveA n z B' J D cur S' := by
  obtain ⟨e, s, T, f, base, h, hc, hs⟩ := h
  exact ⟨e, s, T, f, base, h.up h1 h2, hc, fun j a b => hS _ (hs j a b)⟩

/-- Flushed. -/
theorem Live.flushed {n z B : Nat} {J : Jn} {D D' : Dev} {e s : Int} {T : List (List Wr)} {f : Nat} {base : Nat → Octs} (h : Live n z B J D e s T f base) (ha : At D' D.now []) : Live n z B J D' e s T T.length base := by
  have hs := h.sure.1
  have hp := h.pers
  refine ⟨⟨hp.lays, hp.fits, Nat.le_refl _, by rw [ha.kept]; exact hs.len, by rw [ha.kept]; exact hs.size, by rw [ha.kept]; exact hs.hdr, by rw [ha.pend]; simp, fun p b hz hb => ?_, fun p b hb => ?_, fun k hk => ?_⟩, ha.dead, h.jdead, h.jh, h.used, h.taken, fun p b hb => ?_⟩
  · rw [ha.kept] at hb
    exact hs.good p b (by rw [jbX_at hz]; exact hb)
  · rw [List.take_length] at hb
    rw [ha.kept]; exact h.now p b hb
  · rw [ha.kept, h.low (.inr (by omega))]; exact hp.home k hk
  · unfold Dev.now
    rw [ha.kept, ha.pend]
    exact h.now p b hb

theorem endsM_ok {J : Jn} (h : J.dead = false) : endsM J 0 = J := by
  obtain ⟨a, b, c, d⟩ := J
  simp only at h
  subst h
  rfl

/-- Sync. -/
theorem sync_cases {n z B : Nat} {J : Jn} {D : Dev} {cur : Nat → Octs} {S : (Nat → Octs) → Prop} (h : LiveA n z B J D cur S) : ((syncM J D).2.2 = 0 ∧ (∀ S' : (Nat → Octs) → Prop, S' cur → LiveA n z B (syncM J D).2.1 (syncM J D).1 cur S') ∧ (D.fuse = -1 → (syncM J D).1.fuse = -1)) ∨ ((syncM J D).2.2 = 4 ∧ Fell n z B (syncM J D).1 S ∧ D.fuse ≠ -1) := by
  obtain ⟨e, s, T, f, base, h, hc, hS⟩ := h
  unfold syncM
  rw [if_neg (by simp [h.jdead])]
  rcases flush_cases h.at_ with ⟨g1, g2, g3⟩ | ⟨g1, g2, g3⟩
  · refine .inl ⟨g1, fun S' hS' => ?_, g3⟩
    simp only [g1, endsM_ok h.jdead]
    exact ⟨e, s, T, _, base, h.flushed g2, hc, fun j h1 h2 => by rw [show j = T.length by omega, List.take_length, ← hc]; exact hS'⟩
  · refine .inr ⟨g1, ⟨g2.dead, fun ms => ?_⟩, g3⟩
    simp only [g2.pend, g2.kept]
    obtain ⟨j, h1, h2, h3⟩ := h.pers.crash ms
    exact ⟨_, hS j h1 h2, h3⟩

/-- Checkpoint. -/
theorem checkpoint_cases {n z B : Nat} {J : Jn} {D : Dev} {cur : Nat → Octs} {S : (Nat → Octs) → Prop} (h : LiveA n z B J D cur S) : ((checkpointM n J D).2.2 = 0 ∧ (∀ S' : (Nat → Octs) → Prop, S' cur → LiveA n z B (checkpointM n J D).2.1 (checkpointM n J D).1 cur S') ∧ (D.fuse = -1 → (checkpointM n J D).1.fuse = -1)) ∨ ((checkpointM n J D).2.2 = 4 ∧ Fell n z B (checkpointM n J D).1 S ∧ D.fuse ≠ -1) := by
  obtain ⟨e, s, T, f, base, h, hc, hS⟩ := h
  have hScur : S cur := by have := hS T.length h.pers.ff (Nat.le_refl _); rw [List.take_length, ← hc] at this; exact this
  have hM : checkpointM n J D = ((ckptM n J D).1, endsM (ckptM n J D).2.1 (ckptM n J D).2.2, (ckptM n J D).2.2) := by
    unfold checkpointM; rw [if_neg (by simp [h.jdead])]
  rw [hM]
  unfold ckptM
  rcases flush_cases h.at_ with ⟨g1, g2, g3⟩ | ⟨g1, g2, g3⟩
  · rw [if_neg (by simp [g1])]
    have hl := h.flushed g2
    have hnow : laid (flushD D).1.kept (flushD D).1.pend = D.now := by rw [g2.kept, g2.pend]; rfl
    obtain ⟨q1, q2⟩ := h.sure
    have hly : Lays n z B e (s + T.length) [] := ⟨h.pers.lays.zn, h.pers.lays.nn, h.pers.lays.e0, by have := h.pers.lays.s0; omega, ⟨h.pers.lays.top.1, by have := h.pers.lays.top.2; simp; omega⟩, h.pers.lays.bb, by intro l hl; cases hl⟩
    have hjh : (⟨e, s + T.length, z⟩ : Hd) = J.h := h.jh.symm
    have hlast := begin_cases q1 (J := J) g2 rfl (by rw [h.jh]) (by rw [h.taken, q2]) (e' := e) (s' := s + T.length) (.inr ⟨rfl, Int.le_refl _⟩) (Nat.le_refl B) hly
    rw [hjh] at hlast
    generalize (flushD D).1 = D1 at *
    rcases hlast with ⟨k1, k2, k3, K', k4, k5, k6, k7⟩ | ⟨k0, k1, i, k2⟩ | ⟨k0, k1, k2, K', P', k3, k4⟩
    · rw [if_neg (by simp [k1])]
      refine .inl ⟨k2, fun S' hS' => ?_, fun he => k7 (g3 he)⟩
      simp only [k2]
      rw [endsM_ok (by rw [k3]; exact h.jdead)]
      exact ⟨e, s + T.length, [], 0, hmT base T, live_new k5 k4 (by rw [k3, h.jdead, h.jh]), hc, fun j h1 h2 => by simp only [List.take_nil, hmT_nil]; rw [← hc]; exact hS'⟩
    · rw [if_pos (by simp [k1])]
      refine .inr ⟨k1, ⟨k2.dead, fun ms => ⟨cur, hScur, ?_⟩⟩, fun he => k0 (g3 he)⟩
      simp only [k2.pend, k2.kept, List.nil_append]
      rw [hc]
      exact ⟨e, s, T, home_sure q1 (by rw [h.taken, q2]) (by rw [h.taken]; exact h.pers.lays.may.tok) i ms⟩
    · rw [if_neg (by simp [k1])]
      refine .inr ⟨k2, ⟨k3.dead, fun ms => ⟨cur, hScur, ?_⟩⟩, fun he => k0 (g3 he)⟩
      simp only [k3.pend, k3.kept]
      rw [hc]
      exact k4 ms
  · rw [if_pos (by simp [g1])]
    refine .inr ⟨g1, ⟨g2.dead, fun ms => ?_⟩, g3⟩
    simp only [g2.pend, g2.kept]
    obtain ⟨j, h1, h2, h3⟩ := h.pers.crash ms
    exact ⟨_, hS j h1 h2, h3⟩

/-! ### Commit -/
theorem rowWs_mem : ∀ (bs : List Octs) (u : Int) {w : Int × Octs}, w ∈ rowWs u bs → ∃ i : Nat, w.1 = 1 + u + i ∧ bs[i]? = some w.2
  | [], u, w, h => by cases h
  | b :: bs, u, w, h => by
    rcases List.mem_cons.1 h with rfl | h
    · exact ⟨0, by simp, rfl⟩
    · obtain ⟨i, h1, h2⟩ := rowWs_mem bs (u + 1) h
      exact ⟨i + 1, by rw [h1]; omega, by simpa using h2⟩
theorem rowWs_at : ∀ (bs : List Octs) (u : Int) {i : Nat} {b : Octs}, bs[i]? = some b → (1 + u + i, b) ∈ rowWs u bs
  | [], u, i, b, h => by simp at h
  | c :: bs, u, 0, b, h => by
    simp only [List.getElem?_cons_zero, Option.some.injEq] at h
    subst h
    simp [rowWs]
  | c :: bs, u, i + 1, b, h => by
    have := rowWs_at bs (u + 1) (i := i) (b := b) (by simpa using h)
    rw [rowWs]
    refine List.mem_cons_of_mem _ ?_
    rw [show 1 + u + ((i + 1 : Nat) : Int) = 1 + (u + 1) + i by omega]
    exact this

theorem Pers.add {n z B : Nat} {K : List Octs} {P : List (Int × Octs)} {e s : Int} {T : List (List Wr)} {f : Nat} {base : Nat → Octs} (h : Pers n z B K P e s T f base) {l : List Wr} (hm : MayP l (n - 1 - z : Int)) (hfit : (LT e s T).length + cntN l ≤ z) (hB : B + 1 ≤ 1000000000) {W : List (Int × Octs)} (hW : ∀ w ∈ W, w ∈ rowWs (LT e s T).length (laidB ⟨e, s + T.length, z⟩ l)) : Pers n z (B + 1) K (P ++ W) e s (T ++ [l]) f base := by
  have happ : LT e s (T ++ [l]) = LT e s T ++ laidB ⟨e, s + T.length, z⟩ l := by rw [LT_app]; simp [LT, laidB_size]
  have hzn := h.lays.zn
  have hnn := h.lays.nn
  have keep : ∀ {p : Nat} {b : Octs}, (LT e s T)[p]? = some b → (LT e s (T ++ [l]))[p]? = some b := fun hb => by
    rw [happ, List.getElem?_append_left (List.getElem?_eq_some_iff.1 hb).1]; exact hb
  refine ⟨⟨h.lays.zn, h.lays.nn, h.lays.e0, h.lays.s0, ⟨by have := h.lays.top; omega, by have := h.lays.top; simp; omega⟩, hB, fun x hx => ?_⟩, by rw [happ, List.length_append, laidB_len]; exact hfit, by have := h.ff; simp; omega, h.len, h.size, h.hdr, fun w hw => ?_, fun p b hz hb => ?_, fun p b hb => ?_, h.home⟩
  · rcases List.mem_append.1 hx with hx | hx
    · exact h.lays.may x hx
    · simp only [List.mem_singleton] at hx
      subst hx
      exact ⟨hm, by omega⟩
  · rcases List.mem_append.1 hw with hw | hw
    · obtain ⟨p, h1, h2⟩ := h.pin w hw
      exact ⟨p, h1, keep h2⟩
    · obtain ⟨i, h1, h2⟩ := rowWs_mem _ _ (hW w hw)
      refine ⟨(LT e s T).length + i, by rw [h1]; omega, ?_⟩
      rw [happ, List.getElem?_append_right (by omega), Nat.add_sub_cancel_left]
      exact h2
  · rcases h.jb p b hz hb with h1 | h1
    · exact .inl (keep h1)
    · exact .inr h1
  · rw [List.take_append_of_le_length h.ff] at hb
    exact h.ahead p b hb

theorem lay_cases {n z B : Nat} {J : Jn} {D : Dev} {cur : Nat → Octs} {S S' : (Nat → Octs) → Prop} (h : LiveA n z B J D cur S) {l : List Wr} (hm : MayP l (n - 1 - z : Int)) (hfit : needsN l.length ≤ J.h.size - J.used) (hB : B + 1 ≤ 1000000000) (hSS : ∀ x, S x → S' x) (hS' : S' (overT cur l)) :
    ((layE n l J D).2.2 = 0 ∧ LiveA n z (B + 1) (layE n l J D).2.1 (layE n l J D).1 (overT cur l) S' ∧ (D.fuse = -1 → (layE n l J D).1.fuse = -1)) ∨ ((layE n l J D).2.2 = 4 ∧ Fell n z (B + 1) (layE n l J D).1 S' ∧ D.fuse ≠ -1) := by
  obtain ⟨e, s, T, f, base, h, hc, hS⟩ := h
  have hzn := h.pers.lays.zn
  have hfits : (LT e s T).length + cntN l ≤ z := by rw [needs_nat, h.used, h.jh] at hfit; simp only at hfit; omega
  have happ : LT e s (T ++ [l]) = LT e s T ++ laidB ⟨e, s + T.length, z⟩ l := by rw [LT_app]; simp [LT, laidB_size]
  have hcur : hmT base (T ++ [l]) = overT cur l := by rw [hmT_snoc, hc]
  have hSnew : ∀ j, f ≤ j → j ≤ (T ++ [l]).length → S' (hmT base ((T ++ [l]).take j)) := fun j h1 h2 => by
    simp only [List.length_append, List.length_cons, List.length_nil] at h2
    by_cases hj : j ≤ T.length
    · rw [List.take_append_of_le_length hj]; exact hSS _ (hS j h1 hj)
    · rw [List.take_of_length_le (by simp; omega), hcur]; exact hS'
  have hlb : ∀ b ∈ laidB ⟨e, s + T.length, z⟩ l, b.length = 128 := fun b hb => by
    unfold laidB at hb
    obtain ⟨k, hk, rfl⟩ := List.mem_map.1 hb
    exact jblk_len hm.full (by simpa using hk)
  unfold layE layM
  rw [h.jh, h.used]
  rcases layW_cases (n := n) (laidB ⟨e, s + T.length, z⟩ l) (LT e s T).length h.at_ (by omega) (by rw [laidB_len]; omega) hlb with ⟨g1, g2, g3, g4⟩ | ⟨g1, ⟨i, g2⟩, g3⟩
  · simp only [g1, ne_eq, not_true, if_false]
    refine .inl ⟨trivial, ⟨e, s, T ++ [l], f, base, ⟨?_, g3.dead, ?_, ?_, ?_, ?_, fun p b hb => ?_⟩, hcur.symm, hSnew⟩, g4⟩
    · rw [g3.kept, g3.pend]; exact h.pers.add hm hfits hB (fun w hw => hw)
    · show (J.dead || decide ((0 : Int) = 4)) = false
      rw [h.jdead]; rfl
    · show (⟨e, s + T.length + 1, z⟩ : Hd) = ⟨e, s + (T ++ [l]).length, z⟩
      rw [List.length_append]
      congr 1
      simp; omega
    · show (layW n (laidB ⟨e, s + T.length, z⟩ l) (LT e s T).length D).2.1 = _
      rw [g2, happ, List.length_append]; omega
    · show tAll J.taken l = _
      rw [h.taken, List.flatten_append, tAll_app]; simp
    · have hd : (layW n (laidB ⟨e, s + T.length, z⟩ l) (LT e s T).length D).1.now = laid D.now (rowWs (LT e s T).length (laidB ⟨e, s + T.length, z⟩ l)) := by
        show laid _ _ = _
        rw [g3.kept, g3.pend]
        unfold Dev.now laid
        rw [List.foldl_append]
      show (layW n (laidB ⟨e, s + T.length, z⟩ l) (LT e s T).length D).1.now[1 + p]? = some b
      rw [hd]
      rw [happ] at hb
      by_cases hp : p < (LT e s T).length
      · rw [List.getElem?_append_left hp] at hb
        rw [laid_none _ _ fun w hw => ?_]
        · exact h.now p b hb
        · obtain ⟨i, h1, _⟩ := rowWs_mem _ _ hw
          omega
      · rw [List.getElem?_append_right (by omega)] at hb
        have hlt := (List.getElem?_eq_some_iff.1 hb).1
        rw [laidB_len] at hlt
        refine laid_same _ _ (fun w hw he => ?_) (.inr ⟨⟨_, rowWs_at _ _ hb, by simp only; omega⟩, ?_⟩)
        · obtain ⟨i, h1, h2⟩ := rowWs_mem _ _ hw
          have : i = p - (LT e s T).length := by omega
          subst this
          rw [hb] at h2
          exact (Option.some.inj h2).symm
        · have : D.now.length = n := by unfold Dev.now; rw [laid_length]; exact h.pers.len
          omega
  · simp only [g1, ne_eq, show ¬ ((4 : Int) = 0) by decide, not_false_eq_true, if_true]
    refine .inr ⟨trivial, ⟨g2.dead, fun ms => ?_⟩, g3⟩
    rw [g2.pend, g2.kept]
    obtain ⟨j, h1, h2, h3⟩ := (h.pers.add hm hfits hB (W := (rowWs (LT e s T).length (laidB ⟨e, s + T.length, z⟩ l)).take i) (fun w hw => List.mem_of_mem_take hw)).crash ms
    exact ⟨_, hSnew j h1 h2, h3⟩

theorem commit_cases {n z B : Nat} {J : Jn} {D : Dev} {cur : Nat → Octs} {S S' : (Nat → Octs) → Prop} (h : LiveA n z B J D cur S) (l : List Wr) (hB : B + 1 ≤ 1000000000) (hSS : ∀ x, S x → S' x) (hS' : S' (overT cur l)) :
    (¬ MayP l (n - 1 - z : Int) ∧ commitM n l J D = (D, J, 1)) ∨ (MayP l (n - 1 - z : Int) ∧ (z : Int) < needsN l.length ∧ commitM n l J D = (D, J, 5)) ∨
    (MayP l (n - 1 - z : Int) ∧ needsN l.length ≤ z ∧ (commitM n l J D).2.2 = 0 ∧ LiveA n z (B + 1) (commitM n l J D).2.1 (commitM n l J D).1 (overT cur l) S' ∧ (D.fuse = -1 → (commitM n l J D).1.fuse = -1)) ∨
    (MayP l (n - 1 - z : Int) ∧ (commitM n l J D).2.2 = 4 ∧ Fell n z (B + 1) (commitM n l J D).1 S' ∧ D.fuse ≠ -1) := by
  have hL := h
  obtain ⟨e, s, T, f, base, h, hc, hS⟩ := h
  have hzn := h.pers.lays.zn
  have hho : homeN n J.h.size = n - 1 - z := by rw [h.jh]; exact homeN_of (by simp only; omega)
  have hSc : S cur := by have := hS T.length h.pers.ff (Nat.le_refl _); rw [List.take_length, ← hc] at this; exact this
  unfold commitM
  rw [hho]
  by_cases hm : MayP l (n - 1 - z : Int)
  · rw [if_neg (by simp [mayB, hm]), if_neg (by simp [h.jdead])]
    have hz : J.h.size = z := by rw [h.jh]
    by_cases hbig : J.h.size < needsN l.length
    · rw [if_pos hbig]
      exact .inr (.inl ⟨hm, by omega, rfl⟩)
    · rw [if_neg hbig]
      by_cases hck : J.h.size - J.used < needsN l.length
      · rw [if_pos hck]
        rcases checkpoint_cases hL with ⟨g1, g2, g3⟩ | ⟨g1, g2, g3⟩
        · rw [if_neg (by simp [g1])]
          have ck := checkpoint_ok0 g1
          have ckh := checkpoint_h (n := n) (J := J) (D := D)
          rcases lay_cases (S' := S') (g2 S hSc) hm (by rw [ck.1, ckh]; omega) hB hSS hS' with ⟨k1, k2, k3⟩ | ⟨k1, k2, k3⟩
          · exact .inr (.inr (.inl ⟨hm, by omega, k1, k2, fun he => k3 (g3 he)⟩))
          · exact .inr (.inr (.inr ⟨hm, k1, k2, fun he => k3 (g3 he)⟩))
        · rw [if_pos (by simp [g1])]
          refine .inr (.inr (.inr ⟨hm, g1, ⟨g2.1, fun ms => ?_⟩, g3⟩))
          obtain ⟨x, h1, h2⟩ := g2.2 ms
          exact ⟨x, hSS x h1, h2.up (by omega) hB⟩
      · rw [if_neg hck]
        rcases lay_cases (S' := S') hL hm (by omega) hB hSS hS' with ⟨k1, k2, k3⟩ | ⟨k1, k2, k3⟩
        · exact .inr (.inr (.inl ⟨hm, by omega, k1, k2, k3⟩))
        · exact .inr (.inr (.inr ⟨hm, k1, k2, k3⟩))
  · rw [if_pos (by simp [mayB, hm])]
    exact .inl ⟨hm, rfl⟩

/-- A home block that is read. -/
theorem live_read {n z B : Nat} {J : Jn} {D : Dev} {cur : Nat → Octs} {S : (Nat → Octs) → Prop} (h : LiveA n z B J D cur S) {k : Nat} (hk : k < n - 1 - z) : jreadM n k J D = (J, some (cur k), 0) := by
  obtain ⟨e, s, T, f, base, h, hc, hS⟩ := h
  have hzn := h.pers.lays.zn
  have hho : homeN n J.h.size = n - 1 - z := by rw [h.jh]; exact homeN_of (by simp only; omega)
  unfold jreadM
  rw [hho, if_neg (by omega), if_neg (by simp [h.jdead]), h.taken, hc]
  unfold hmT overT
  cases hg : tGet (tAll [] T.flatten) k with
  | some x => rfl
  | none =>
    simp only [Option.getD_none]
    rw [if_neg (by simp [h.dead]), endsM_ok h.jdead]
    have : (1 + J.h.size + (k : Int)).toNat = 1 + z + k := by rw [h.jh]; simp only; omega
    rw [this, h.low (.inr (by omega)), h.pers.home k hk]

/-! ### Format -/
theorem format_sure {n z : Nat} (hzn : 4 ≤ z ∧ z + 4 ≤ n) (hn : n ≤ 4096) : (formatM n z (newD n)).2 = 0 ∧ ∃ K, At (formatM n z (newD n)).1 K [] ∧ (formatM n z (newD n)).1.fuse = -1 ∧ Sure n z 1 K fun _ => zeros := by
  have hho : homeN n z = n - 1 - z := homeN_of (by omega)
  unfold formatM
  rw [hho, if_neg (by omega)]
  have ha : At (newD n) (List.replicate n zeros) [] := ⟨rfl, rfl, rfl⟩
  obtain ⟨W, h1, h2, h3, h4, h5⟩ := fmtW_safe (n := n) (z : Int).toNat 0 ha rfl (Int.le_refl _) (by omega)
  generalize fmtW n (z : Int).toNat 0 (newD n) = r at *
  simp only
  rw [if_neg (by simp [h1])]
  rcases write_cases (n := n) (k := 0) h2 ⟨by omega, by omega⟩ (hdrB_len ⟨1, 1, z⟩) with ⟨g1, g2, g3⟩ | ⟨_, _, g3⟩
  · rw [if_neg (by simp [g1])]
    rcases flush_cases g2 with ⟨k1, k2, k3⟩ | ⟨_, _, k3⟩
    · have hz : laid (List.replicate n zeros) ([] ++ W) = List.replicate n zeros := by
        rw [List.nil_append]
        apply List.ext_getElem?
        intro i
        by_cases hi : i < n
        · rw [List.getElem?_replicate, if_pos hi]
          exact laid_same _ _ (fun w hw _ => (h4 w hw).1) (.inl (by rw [List.getElem?_replicate, if_pos hi]))
        · rw [List.getElem?_eq_none (by rw [laid_length]; simp; omega), List.getElem?_eq_none (by simp; omega)]
      have hK : laid (List.replicate n zeros) ([] ++ W ++ [(0, hdrB ⟨1, 1, z⟩)]) = (List.replicate n zeros).set 0 (hdrB ⟨1, 1, z⟩) := by
        have : laid (List.replicate n zeros) ([] ++ W ++ [(0, hdrB ⟨1, 1, z⟩)]) = (laid (List.replicate n zeros) ([] ++ W)).set 0 (hdrB ⟨1, 1, z⟩) := laid_snoc _ _ _
        rw [this, hz]
      rw [hK] at k2
      refine ⟨k1, _, k2, k3 (g3 h3), 1, 1, [], .fresh ⟨hzn, hn, Int.le_refl _, Int.le_refl _, ⟨by simp, by simp⟩, by omega, by intro l hl; cases hl⟩ (by simp) (fun b hb => ?_) ?_ (fun p b hp hb => ?_) fun k hk => ?_⟩
      · rcases List.mem_or_eq_of_mem_set hb with hb | rfl
        · rw [List.eq_of_mem_replicate hb]; simp [zeros]
        · exact hdrB_len _
      · rw [List.getElem?_set_self (by simp; omega)]
      · rw [List.getElem?_set_ne (by omega), List.getElem?_replicate] at hb
        split at hb
        · cases hb
          exact .inl (by rw [tagE_zeros]; decide)
        · cases hb
      · rw [List.getElem?_set_ne (by omega), List.getElem?_replicate, if_pos (by omega)]
    · exact absurd (g3 h3) k3
  · exact absurd h3 g3
end Go.Proofs
end

