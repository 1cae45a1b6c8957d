/-
  The law JournalKnown is true and changes nothing that was there, whatever the input. No condition.
-/
import Derived.Test.YtmijngnbbpilmaaJnC
import Derived.Test.YtmijngnbbpilmaaRows
import Derived.WalkKit
import Derived.ProofKit
import Derived.OpenShut
import Derived.ShutString
import Derived.ChangeOld
import Derived.Below
import Derived.Test.YtmijngnbbpilmaaVd

section
open Go Go.Vc
namespace Go.Proofs

theorem jneeds_law (H : Heap) (n : Int) (_ : (Lit.int .i64 n).wf = true) (m : Int) (_ : (Lit.int .i64 m).wf = true) : Does Try.prog 3 [.int .i64 n, .int .i64 m] H fun v H' => v = .bool true ∧ Ext [] H H' := by
  refine Fn_of_vc Try.mixed (vcl_jneeds _ _ _ _) ?_
  refine (pick_ok n 5000 H (by decide) (by decide)).mono ?_
  rintro _ _ ⟨rfl, rfl⟩
  have a0 := Int.emod_nonneg n (show (5000 : Int) ≠ 0 by decide)
  have a1 := Int.emod_lt_of_pos n (show (0 : Int) < 5000 by decide)
  generalize n % 5000 = n' at *
  refine ⟨_, rfl, (pick_ok m 5000 H (by decide) (by decide)).mono ?_⟩
  rintro _ _ ⟨rfl, rfl⟩
  have b0 := Int.emod_nonneg m (show (5000 : Int) ≠ 0 by decide)
  have b1 := Int.emod_lt_of_pos m (show (0 : Int) < 5000 by decide)
  generalize m % 5000 = m' at *
  refine ⟨_, rfl, (needs_ok n' H (by omega)).mono ?_⟩
  rintro _ _ ⟨rfl, rfl⟩
  refine ⟨_, rfl, ⟨by omega, by omega⟩, ⟨by omega, by omega⟩, (known_ok H).mono ?_⟩
  rintro _ H11 ⟨rfl, hx⟩
  have hk : (n' < 1 ∧ needsN n' = 0) ∨ (1 ≤ n' ∧ n' * 132 + 2 ≤ needsN n' * 116 ∧ needsN n' * 116 < n' * 132 + 2 + 116) := by
    unfold needsN
    split
    · exact .inl ⟨by assumption, rfl⟩
    · exact .inr ⟨by omega, by omega, by omega⟩
  have hm : m' < 1 ∧ needsN m' = 0 ∨ 1 ≤ m' ∧ m' * 132 + 2 ≤ needsN m' * 116 ∧ needsN m' * 116 < m' * 132 + 2 + 116 := by
    unfold needsN
    split
    · exact .inl ⟨by assumption, rfl⟩
    · exact .inr ⟨by omega, by omega, by omega⟩
  have last : ¬ m' < n' → Does Try.prog 9 [.int .i64 m'] H11 fun v13 H14 => ∃ n15 : Int, v13 = .int .i64 n15 ∧ (Value.bool (@decide (needsN n' ≤ n15) (Classical.propDecidable _)) = .bool true ∧ Ext [] H H14) := fun hmn => by
    refine (needs_ok m' H11 (by omega)).mono ?_
    rintro _ _ ⟨rfl, rfl⟩
    exact ⟨_, rfl, congrArg _ (dec_bool ⟨fun _ => rfl, fun _ => by omega⟩), hx⟩
  refine ⟨true, rfl, fun _ => ⟨fun h1 => ⟨fun h2 => ⟨fun _ => ⟨rfl, hx⟩, last⟩, fun h2 => by omega⟩, fun h1 => ⟨fun h2 => ⟨⟨by omega, by omega⟩, fun h3 => ⟨⟨by omega, by omega⟩, ⟨by omega, by omega⟩, fun h4 => ⟨fun _ => ⟨rfl, hx⟩, last⟩, fun h4 => by omega⟩, fun h3 => by omega⟩, fun h2 => by omega⟩⟩, fun h => by cases h⟩

theorem commit_used {n z B : Nat} {J : Jn} {D : Dev} {cur : Nat → Octs} {S : (Nat → Octs) → Prop} (h : LiveA n z B J D cur S) {l : List Wr} (hm : MayP l (n - 1 - z : Int)) (hfit : needsN l.length ≤ J.h.size - J.used) (h0 : (commitM n l J D).2.2 = 0) : (commitM n l J D).2.1.used = J.used + needsN l.length := by
  have hly := h.lays
  obtain ⟨e, s, T, f, base, h, hc, hS⟩ := h
  have hzn := hly.1
  have hj0 : 0 ≤ J.used := by rw [h.used]; omega
  unfold commitM at h0 ⊢
  rw [hly.2.2.2.2.2.2.2, if_neg (by simp [mayB, hm]), if_neg (by simp [h.jdead]), if_neg (by omega), if_neg (by omega)] at h0 ⊢
  unfold layE layM at h0 ⊢
  have hlb : ∀ b ∈ laidB J.h l, b.length = 128 := fun b hb => by
    unfold laidB at hb
    obtain ⟨k, hk, rfl⟩ := List.mem_map.1 hb
    exact jblk_len hm.full (by simpa using hk)
  have hz : J.h.size = z := hly.2.2.1
  rcases layW_cases (n := n) (laidB J.h l) J.used h.at_ hj0 (by rw [laidB_len]; have := needs_nat l; omega) hlb with ⟨g1, g2, g3, g4⟩ | ⟨g1, ⟨i, g2⟩, g3⟩
  · simp only [g1, ne_eq, not_true, if_false]
    show (layW n (laidB J.h l) J.used D).2.1 = _
    rw [g2, laidB_len, needs_nat]
  · simp only [g1, ne_eq, show ¬ ((4 : Int) = 0) by decide, not_false_eq_true, if_true] at h0

theorem lay_h {n : Nat} {l : List Wr} {J : Jn} {D : Dev} : (layE n l J D).2.1.h.size = J.h.size := by
  unfold layE layM
  simp only
  split <;> rfl
theorem commit_h {n : Nat} {l : List Wr} {J : Jn} {D : Dev} : (commitM n l J D).2.1.h.size = J.h.size := by
  have hk := checkpoint_h (n := n) (J := J) (D := D)
  unfold commitM
  split
  · rfl
  split
  · rfl
  split
  · rfl
  split
  · split
    · rw [hk]
    · rw [lay_h, hk]
  · exact lay_h

/-- The head of a row of writes. -/
theorem MySeq.kept1 {n0 : Nat} {H : Heap} {a : Option Addr} {n c : Nat} {xs : List Wr} {F : Nat → Prop} (h : MySeq writeE n0 H a n c xs) (hF : ∀ k, F k → k < n0) {x : Wr} {r : List Wr} (hx : xs = x :: r) : KeptW F H a [x] := by
  intro H' he
  obtain ⟨vs, h1, h2, h3⟩ := h.kept hF H' he
  subst hx
  obtain ⟨v, q1, q2⟩ := h3 0 x rfl
  cases vs with
  | nil => simp at h2
  | cons v' vs =>
    simp only [List.getElem?_cons_zero, Option.some.injEq] at q1
    subst q1
    have hv := writeE.len q2
    refine ⟨[v'], ?_, rfl, fun i y hy => ?_⟩
    · obtain ⟨g1, g2⟩ := h1
      refine ⟨by simp only [List.flatten_cons, List.flatten_nil, List.append_nil]; rw [hv]; rfl, ?_⟩
      cases a with
      | none =>
        have g2 : (v' :: vs).flatten = [] := g2
        rw [List.flatten_cons, List.append_eq_nil_iff] at g2
        rw [g2.1] at hv
        simp [writeE] at hv
      | some ad =>
        obtain ⟨g3, g4⟩ := g2
        refine ⟨.inr ?_, fun j u hj => g4 j u ?_⟩
        · rcases g3 with g3 | g3
          · rw [List.flatten_cons, List.append_eq_nil_iff] at g3
            rw [g3.1] at hv
            simp [writeE] at hv
          · exact g3
        · simp only [List.flatten_cons, List.flatten_nil, List.append_nil] at hj
          rw [List.flatten_cons, List.getElem?_append_left (List.getElem?_eq_some_iff.1 hj).1]
          exact hj
    · cases i with
      | zero => cases hy; exact ⟨_, rfl, q2⟩
      | succ i => simp at hy
end Go.Proofs
end

section
open Go Go.Vc
namespace Go.Proofs

theorem JL.apart {H0 H H' : Heap} {F M : Nat → Prop} {pj pd n z B : Nat} {J : Jn} {D : Dev} {cur : Nat → Octs} {S : (Nat → Octs) → Prop} (h : JL H0 H F pj pd n z B J D cur S) (hx : ExtP M H H') (hm : ∀ k, M k → H0.size ≤ k ∧ ¬ F k) : JL H0 H' F pj pd n z B J D cur S :=
  ⟨⟨h.jin.jd.ext hx (fun k hk hk' => (hm k hk').2 hk), h.jin.wf, h.jin.jwf, h.jin.low, h.jin.ext.transP hx (fun k hk => (hm k hk).1)⟩, h.live⟩

theorem JD.fuse {H : Heap} {F : Nat → Prop} {pj pd : Nat} {J : Jn} {D : Dev} (h : JD H F pj pd J D) (k : Int) :
    Does Try.prog 24 [.pointer (some ⟨pd, 0, none⟩), .int .i64 k] H fun v H' => v = .tuple #[] ∧ JD H' F pj pd J { D with fuse := max k (-1) } ∧ ExtP F H H' := by
  obtain ⟨Fd, Fj, r, l, hd, hJ, hdis, hfd, hfj, hlt⟩ := h
  refine (dfuse_ok hd k).mono ?_
  rintro _ H' ⟨rfl, hd', hx⟩
  have hs := hx.size
  exact ⟨rfl, ⟨Fd, Fj, r, l, hd', hJ.extP hx (fun k hk hk' => hdis k hk' hk) (fun _ h => h) (fun k hk => by have := hJ.lt k hk; omega), hdis, hfd, hfj, fun k hk => by have := hlt k hk; omega⟩, hx.mono (fun k _ hk => hfd k hk)⟩

theorem JD.crash {H : Heap} {F : Nat → Prop} {pj pd : Nat} {J : Jn} {D : Dev} {n B : Nat} (h : JD H F pj pd J D) (hw : D.Wf n B) (hB : B ≤ 600000000) {a : Option Addr} {len cap : Nat} {ms : Octs} (hs : KeptB F H a len cap ms) :
    Does Try.prog 21 [.pointer (some ⟨pd, 0, none⟩), .slice a len cap] H fun v H' => v = .tuple #[] ∧ JD H' (grow F H H') pj pd J (crashD D ms) ∧ ExtP F H H' := by
  obtain ⟨Fd, Fj, r, l, hd, hJ, hdis, hfd, hfj, hlt⟩ := h
  refine (dcrash_ok hd hw (by omega) (fun H' hx => hs H' (hx.mono (fun k _ hk => hfd k hk)))).mono ?_
  rintro _ H' ⟨rfl, hd', hx⟩
  have hss := hx.size
  exact ⟨rfl, ⟨_, Fj, r, l, hd', hJ.extP hx (fun k hk hk' => hdis k hk' hk) (fun _ h => h) (fun k hk => by have := hJ.lt k hk; omega), fun k hk hk' => by
    rcases hk with hk | hk
    · exact hdis k hk hk'
    · have := hJ.lt k hk'; omega, grow_in hfd (Nat.le_refl _) (Nat.le_refl _), fun k hk => .inl (hfj k hk), grow_lt hlt hss⟩, hx.mono (fun k _ hk => hfd k hk)⟩

theorem LiveA.fuse {n z B : Nat} {J : Jn} {D : Dev} {cur : Nat → Octs} {S : (Nat → Octs) → Prop} (h : LiveA n z B J D cur S) (k : Int) : LiveA n z B J { D with fuse := k } cur S := by
  obtain ⟨e, s, T, f, base, h, hc, hS⟩ := h
  exact ⟨e, s, T, f, base, ⟨h.pers, h.dead, h.jdead, h.jh, h.used, h.taken, h.now⟩, hc, hS⟩

theorem JL.fuse {H0 H : Heap} {F : Nat → Prop} {pj pd n z B : Nat} {J : Jn} {D : Dev} {cur : Nat → Octs} {S : (Nat → Octs) → Prop} (h : JL H0 H F pj pd n z B J D cur S) {k : Int} (hk : k ≤ 1000000) :
    Does Try.prog 24 [.pointer (some ⟨pd, 0, none⟩), .int .i64 k] H fun v H' => v = .tuple #[] ∧ JL H0 H' F pj pd n z B J { D with fuse := max k (-1) } cur S ∧ ExtP F H H' := by
  refine (h.jin.jd.fuse k).mono ?_
  rintro _ H' ⟨rfl, hjd, hx⟩
  have hw := h.jin.wf
  exact ⟨rfl, ⟨h.jin.same hjd hx ⟨hw.len, hw.few, hw.size, hw.pin, hw.pfew, by simp only; omega, hw.works⟩ h.jin.jwf, h.live.fuse _⟩, hx⟩

theorem checkpoint_dead {n : Nat} {J : Jn} {D : Dev} (h : (checkpointM n J D).2.2 = 4) : (checkpointM n J D).2.1.dead = true := by
  unfold checkpointM at h ⊢
  split at h
  · rename_i h1; rw [if_pos h1]; exact h1
  · rename_i h1
    rw [if_neg h1]
    simp only at h ⊢
    rw [h]
    show (_ || decide ((4 : Int) = 4)) = true
    simp
theorem commit_dead {n : Nat} {l : List Wr} {J : Jn} {D : Dev} (h : (commitM n l J D).2.2 = 4) : (commitM n l J D).2.1.dead = true := by
  have hl : ∀ {J : Jn} {D : Dev}, (layE n l J D).2.2 = 4 → (layE n l J D).2.1.dead = true := fun {J D} h => by
    unfold layE at h ⊢
    simp only at h ⊢
    rw [h]
    show (_ || decide ((4 : Int) = 4)) = true
    simp
  unfold commitM at h ⊢
  by_cases h1 : mayB l (homeN n J.h.size) = false
  · rw [if_pos h1] at h; simp at h
  rw [if_neg h1] at h ⊢
  by_cases h2 : J.dead = true
  · rw [if_pos h2] at h ⊢; exact h2
  rw [if_neg h2] at h ⊢
  by_cases h3 : J.h.size < needsN l.length
  · rw [if_pos h3] at h; simp at h
  rw [if_neg h3] at h ⊢
  by_cases h4 : J.h.size - J.used < needsN l.length
  · rw [if_pos h4] at h ⊢
    by_cases h5 : (checkpointM n J D).2.2 ≠ 0
    · rw [if_pos h5] at h ⊢; exact checkpoint_dead h
    · rw [if_neg h5] at h ⊢; exact hl h
  · rw [if_neg h4] at h ⊢; exact hl h

theorem commit_fuse0 {n z B : Nat} {J : Jn} {D : Dev} {cur : Nat → Octs} {S : (Nat → Octs) → Prop} (h : LiveA n z B J D cur S) {l : List Wr} (hm : MayP l (n - 1 - z : Int)) (hfit : needsN l.length ≤ J.h.size - J.used) (hf : D.fuse = 0) : (commitM n l J D).2.2 = 4 := by
  have hly := h.lays
  obtain ⟨e, s, T, f, base, h, hc, hS⟩ := h
  have hj0 : 0 ≤ J.used := by rw [h.used]; omega
  have hz : J.h.size = z := hly.2.2.1
  have hcp := cnt_pos hm.1
  have hfl := hm.full
  have hnn := needs_nat l
  unfold commitM
  rw [hly.2.2.2.2.2.2.2, if_neg (by simp [mayB, hm]), if_neg (by simp [h.jdead]), if_neg (by omega), if_neg (by omega)]
  unfold layE layM
  obtain ⟨c, hcc⟩ : ∃ c, cntN l = c + 1 := ⟨cntN l - 1, by omega⟩
  have hb : ∃ r, laidB J.h l = jblk J.h l 0 :: r := by
    unfold laidB; rw [hcc, List.range_succ_eq_map]; exact ⟨_, rfl⟩
  obtain ⟨r, hr⟩ := hb
  have hw : (writeD D n (1 + J.used) (jblk J.h l 0)).2 = 4 := by
    unfold writeD
    rw [if_neg (by rw [jblk_len hfl (by omega)]; simp; omega)]
    have : wk D = ({ D with dead := true }, false) := by unfold wk; rw [if_pos (.inl hf)]
    rw [this]; rfl
  have : (layW n (laidB J.h l) J.used D).2.2 = 4 := by
    rw [hr, layW, if_pos (by rw [hw]; decide)]; exact hw
  simp only [this, ne_eq, show ¬ ((4 : Int) = 0) by decide, not_false_eq_true, if_true]

theorem wr_nil (F : Nat → Prop) (H : Heap) : KeptW F H none [] := fun _ _ => ⟨[], ⟨rfl, rfl⟩, rfl, by simp⟩

theorem open_zeros : openM 20 (newD 20) = (newD 20, none, 2) := by
  have h : readM 20 (newD 20) = (Hd.zero, 2) := by
    unfold readM
    rw [if_neg (by decide)]
    simp only
    rw [if_pos (.inr (.inr (by decide +kernel)))]
  unfold openM
  rw [h]; rfl

def sixW (j : Nat) : List Wr := (List.range j).map fun q : Nat => ((q : Int), blockB (q : Int))
theorem sixW_succ (j : Nat) : sixW (j + 1) = sixW j ++ [((j : Int), blockB j)] := by unfold sixW; rw [List.range_succ, List.map_append]; rfl
theorem sixW_len (j : Nat) : (sixW j).length = j := by simp [sixW]

set_option maxHeartbeats 4000000 in
theorem jknown_law (H : Heap) : Does Try.prog 6 [] H fun v H' => v = .bool true ∧ Ext [] H H' := by
  refine Fn_of_vc Try.mixed (vcl_jknown _ _) ?_
  refine (open0_ok H (n := 20) (z := 6) (by decide) (by decide) (S := fun _ => True) trivial).mono ?_
  rintro _ H2 ⟨pj, pd, F, J, D, rfl, h2, hf, hu⟩
  refine ⟨_, _, rfl, (dnew_ok 20 H2).mono ?_⟩
  rintro _ H6 ⟨hx6, ⟨h1, _⟩ | ⟨_, p7, rfl, hd6⟩⟩
  · omega
  have h6 := h2.more hx6
  have hD : (20 : Int).toNat = 20 := rfl
  rw [hD] at hd6
  refine ⟨_, _, rfl, (known_ok H6).mono ?_⟩
  rintro _ H10 ⟨rfl, hx10⟩
  have h10 := h6.more hx10
  have hd10 := hd6.ext hx10.toP (by simp)
  have hG : ∀ i, grow none_ H2 H6 i → H2.size ≤ i ∧ i < H6.size := fun i hi => grow_low i hi
  generalize grow none_ H2 H6 = G at *
  refine ⟨_, rfl, fun h => (by cases h), fun _ => ⟨fun h => (by cases h), fun _ => ⟨fun h => (by cases h), fun _ => ⟨fun h => (by cases h), fun _ => (open_nil H10).mono ?_⟩⟩⟩⟩
  rintro _ _ ⟨rfl, rfl⟩
  have hlt2 : ∀ k, F k → k < H2.size := h2.lt
  have hGF : ∀ k, G k → H.size ≤ k ∧ ¬ F k := fun k hk => ⟨by have := hG k hk; have := h2.jin.ext.size; omega, fun hF => by have := hG k hk; have := hlt2 k hF; omega⟩
  refine ⟨_, _, rfl, (open_ok hd10 (newWf (by decide)) (by decide) (by decide) (by decide)).mono ?_⟩
  rintro _ H17 ⟨hr17, hx17⟩
  have h17 := h10.apart hx17 hGF
  have hs6 := hx6.size
  have hs10 := hx10.size
  have hs17 := hx17.size
  have grown : ∀ {A B : Heap} {G : Nat → Prop}, (∀ k, G k → H.size ≤ k ∧ ¬ F k) → H2.size ≤ A.size → ∀ k, grow G A B k → H.size ≤ k ∧ ¬ F k := fun hg hs k hk => by
    rcases hk with hk | hk
    · exact hg k hk
    · exact ⟨by have := h2.jin.ext.size; omega, fun hF => by have := hlt2 k hF; omega⟩
  have hG17 := grown (A := H10) (B := H17) hGF (by omega)
  obtain ⟨e17, q1, q2, rfl, hd17⟩ : ∃ e, openM 20 (newD 20) = (newD 20, none, e) ∧ e = 2 ∧ _ = Value.tuple #[.pointer none, .int .i64 e] ∧ IsDev H17 (grow G H10 H17) p7 (newD 20) := by
    rcases hr17 with ⟨e, q1, q2, q3, q4⟩ | ⟨pj', J', q1, q2, q3⟩
    · have : e = 2 := by rw [open_zeros] at q1; simp only [Prod.mk.injEq] at q1; exact q1.2.2.symm
      subst this
      rw [open_zeros] at q4
      exact ⟨2, open_zeros, rfl, q3, q4⟩
    · rw [open_zeros] at q1
      simp only [Prod.mk.injEq] at q1
      exact absurd q1.2.1 (by simp)
  subst q2
  refine ⟨_, _, rfl, (format_nil 6 H17).mono ?_⟩
  rintro _ _ ⟨rfl, rfl⟩
  refine ⟨_, rfl, (format_ok hd17 (newWf (by decide)) (by decide) (by decide) 3).mono ?_⟩
  rintro _ H24 ⟨rfl, hd24, hx24⟩
  have h24 := h17.apart hx24 hG17
  have hs24 := hx24.size
  have hG24 := grown (A := H17) (B := H24) hG17 (by omega)
  have f3 : formatM 20 3 (newD 20) = (newD 20, 1) := by unfold formatM; rw [if_pos (by decide)]
  have f17 : formatM 20 17 (newD 20) = (newD 20, 1) := by unfold formatM; rw [if_pos (by decide)]
  rw [f3] at hd24 ⊢
  refine ⟨_, rfl, (format_ok hd24 (newWf (by decide)) (by decide) (by decide) 17).mono ?_⟩
  rintro _ H27 ⟨rfl, hd27, hx27⟩
  have h27 := h24.apart hx27 hG24
  rw [f17]
  have hmt : (fun _ : Nat → Octs => True) fun _ => zeros := trivial
  have bad : ∀ {l : List Wr}, ¬ MayP l (((20 : Nat) : Int) - 1 - ((6 : Nat) : Int)) → ∀ {A : Heap} {Fa : Nat → Prop} {Ba : Nat}, JL H A Fa pj pd 20 6 Ba J D (fun _ => zeros) (fun _ => True) → Ba ≤ 600000000 → l.length ≤ 1000000 → ∀ {a : Option Addr} {c : Nat}, KeptW Fa A a l →
      Does Try.prog 19 [.pointer (some ⟨pj, 0, none⟩), .slice a l.length c] A fun v A' => v = .int .i64 1 ∧ JL H A' (grow Fa A A') pj pd 20 6 (Ba + 14100) J D (fun _ => zeros) (fun _ => True) := by
    intro l hno A Fa Ba hj hB hl a c hk
    refine (hj.commit hB (S' := fun _ => True) (fun _ _ => trivial) trivial hk hl (c := c)).mono ?_
    rintro _ A' ⟨hxa, e, J', D', rfl, _, ⟨_, rfl, hj'⟩ | ⟨g1, _⟩ | ⟨g1, _⟩ | ⟨g1, _⟩⟩
    · exact ⟨rfl, hj'⟩
    · exact absurd g1 hno
    · exact absurd g1 hno
    · exact absurd g1 hno
  refine ⟨_, rfl, (bad (l := []) (fun h => h.1 rfl) h27 (by decide) (by simp) (wr_nil _ _)).mono ?_⟩
  rintro _ H30 ⟨rfl, h30⟩
  refine ⟨_, rfl, (block_ok 1 H30).mono ?_⟩
  rintro _ H33 ⟨rfl, ho33, hx33⟩
  refine ⟨_, _, _, rfl, fun b37 H38 hn38 => ?_⟩
  have h33 := h30.more hx33
  refine (bad (l := [(13, blockB 1)]) (fun h => absurd (h.2.1 (13, blockB 1) (by simp)).2.1 (by decide)) (h33.more hn38.ext) (by decide) (by simp) (c := 1) (kept_one hn38 h33.lt ho33 (fun h => by have := h30.lt _ h; omega))).mono ?_
  rintro _ H40 ⟨rfl, h40⟩
  refine ⟨_, rfl, (block_ok 1 H40).mono ?_⟩
  rintro _ H43 ⟨rfl, ho43, hx43⟩
  refine ⟨_, _, _, rfl, (block_ok 2 H43).mono ?_⟩
  rintro _ H48 ⟨rfl, ho48, hx48⟩
  refine ⟨_, _, _, rfl, fun b52 H53 hn53 => ?_⟩
  have h43 := h40.more hx43
  have h48 := h43.more hx48
  have hs43 := hx43.size
  have hk53 : KeptW _ H53 (some ⟨b52, 0, none⟩) [((1 : Int), blockB 1), (1, blockB 2)] := kept_new (vs := [[.int .i64 1, .slice (some ⟨H40.size, 0, none⟩) 128 128], [.int .i64 1, .slice (some ⟨H43.size, 0, none⟩) 128 128]]) hn53 h48.lt rfl fun i y hi => by
    match i with
    | 0 => cases hi; exact ⟨_, rfl, blk_ok (ho43.ext hx48 (by simp)), fun j hj => by simp only [writeE, blkOf, List.mem_singleton] at hj; subst hj; intro hF; have := h40.lt _ hF; omega⟩
    | 1 => cases hi; exact ⟨_, rfl, blk_ok ho48, fun j hj => by simp only [writeE, blkOf, List.mem_singleton] at hj; subst hj; intro hF; have := h40.lt _ hF; omega⟩
    | i + 2 => simp at hi
  refine (bad (l := [((1 : Int), blockB 1), (1, blockB 2)]) (fun h => by have := h.2.2; simp at this) (h48.more hn53.ext) (by decide) (by simp) (c := 2) hk53).mono ?_
  rintro _ H55 ⟨rfl, h55⟩
  refine ⟨_, rfl, fun b57 H58 hn58 => ?_⟩
  have hk58 : KeptW _ H58 (some ⟨b57, 0, none⟩) [((1 : Int), ([] : Octs))] := kept_new (vs := [[.int .i64 1, .slice none 0 0]]) hn58 h55.lt rfl fun i y hi => by
    match i with
    | 0 => cases hi; exact ⟨_, rfl, ⟨none, 0, 0, rfl, ⟨rfl, rfl⟩, by simp [blkOf]⟩, fun j hj => by simp [writeE, blkOf] at hj⟩
    | i + 1 => simp at hi
  refine (bad (l := [((1 : Int), ([] : Octs))]) (fun h => absurd (h.2.1 (1, ([] : Octs)) (by simp)).2.2 (by decide)) (h55.more hn58.ext) (by decide) (by simp) (c := 1) hk58).mono ?_
  rintro _ H60 ⟨rfl, h60⟩
  generalize hFF : grow _ H58 H60 = FF at h60
  refine ⟨_, rfl, fun a l c i H' => ∃ j : Nat, i = j ∧ j ≤ 6 ∧ j = l ∧ MySeq writeE H60.size H' a j c (sixW j) ∧ Ext [] H60 H', fun _ _ _ i _ => 6 - i.toNat, ⟨0, rfl, by omega, rfl, MySeq.nil _ _ _, Ext.refl _ _⟩, ?_⟩
  rintro a64 _ c66 _ H68 ⟨j, rfl, hj, rfl, hmy, hx68⟩
  have h68 := h60.more hx68
  refine ⟨fun h1 => (block_ok j H68).mono ?_, fun h1 => ?_⟩
  · rintro _ H70 ⟨rfl, ho70, hx70⟩
    have hs68 := hx68.size
    have hs70 := hx70.size
    have hlt70 : H68.size < H70.size := ho70.lt _ (by simp [blkOf])
    have hmy70 := hmy.ext hx70
    refine ⟨_, _, _, rfl, fun b74 H75 hn75 => ?_⟩
    obtain ⟨G', gs, gg, gl⟩ := hmy
    have hltm := gs.lt
    refine hmy70.push (x := ((j : Int), blockB j)) (blk_ok ho70) (fun k hk => ?_) (by omega) rfl (by omega) (fun a78 c79 H80 p1 _ p2 => ?_) b74 H75 hn75
    · simp only [writeE, blkOf, List.mem_singleton] at hk
      subst hk
      exact ⟨by omega, fun hm => by have := hltm _ hm; omega⟩
    · exact ⟨⟨by omega, by omega⟩, ⟨j + 1, by omega, by omega, rfl, by rw [sixW_succ]; exact p1, ext_new (hx68.trans hx70) p2 (fun k hk => gl k hk)⟩, by simp only []; omega⟩
  have : j = 6 := by omega
  subst this
  have hFlt : ∀ k, FF k → k < H60.size := h60.lt
  have hk6 : KeptW FF H68 a64 (sixW 6) := fun H' hx => hmy.kept hFlt H' hx
  have hk1 : KeptW FF H68 a64 [((0 : Int), blockB 0)] := hmy.kept1 hFlt (r := (sixW 6).drop 1) rfl
  have hm6 : MayP (sixW 6) (((20 : Nat) : Int) - 1 - ((6 : Nat) : Int)) := ⟨by decide, fun w hw => by
    unfold sixW at hw
    obtain ⟨q, hq, rfl⟩ := List.mem_map.1 hw
    rw [List.mem_range] at hq
    exact ⟨by simp only; omega, by simp only; omega, blockB_len _⟩, by decide⟩
  have hn6 : needsN (6 : Nat) = 7 := by decide
  refine (h68.commit (by decide) (S' := fun _ => True) (fun _ _ => trivial) trivial hk6 (by decide) (c := c66)).mono ?_
  rintro _ H82 ⟨hx82, e82, J82, D82, rfl, _, ⟨g1, _⟩ | ⟨_, _, rfl, h82⟩ | ⟨_, g2, _⟩ | ⟨_, _, _, _, g1⟩⟩
  · exact absurd hm6 g1
  · have hk82 := hk1.go hx82
    generalize grow FF H68 H82 = F82 at *
    refine ⟨_, rfl, (jread_ok h82.jin.jd h82.jin.wf h82.jin.jwf (by decide) (-1)).mono ?_⟩
    rintro _ H85 ⟨a86, c88, hjd85, hx85, rfl, _, _⟩
    have hr1 : jreadM 20 (-1) J D = (J, none, 1) := by unfold jreadM; rw [if_pos (.inl (by decide))]
    rw [hr1] at hjd85 ⊢
    have h85 : JL H H85 F82 pj pd 20 6 _ J D (fun _ => zeros) (fun _ => True) := ⟨h82.jin.same hjd85 hx85 h82.jin.wf h82.jin.jwf, h82.live⟩
    have hc66 : 6 ≤ c66 := by obtain ⟨G', gs, _⟩ := hmy; exact gs.cap.1
    have hcap : (1 : Int) ≤ (c66 : Int) := by omega
    refine ⟨_, _, _, _, rfl, by decide, hcap, ?_⟩
    have hk85 := hk82.on hx85
    have hm1 : MayP [((0 : Int), blockB 0)] (((20 : Nat) : Int) - 1 - ((6 : Nat) : Int)) := may_one (by decide) (by decide)
    have hz6 : J.h.size = 6 := h85.live.lays.2.2.1
    have huse := commit_used h85.live hm1 (by rw [hu, hz6]; decide)
    refine (h85.commit (by decide) (S' := fun _ => True) (fun _ _ => trivial) trivial hk85 (by simp) (c := c66)).mono ?_
    rintro _ H91 ⟨hx91, e91, J91, D91, rfl, hM91, ⟨g1, _⟩ | ⟨_, g1, _⟩ | ⟨_, _, rfl, h91, hf91⟩ | ⟨_, _, _, _, g1⟩⟩
    · exact absurd hm1 g1
    · exact absurd g1 (by decide)
    · have hk91 := hk85.go hx91
      generalize grow F82 H85 H91 = F91 at *
      have hu91 : J91.used = 2 := by rw [hM91] at huse; rw [huse rfl, hu]; decide
      have hz91 : J91.h.size = 6 := h91.live.lays.2.2.1
      refine ⟨_, rfl, (jfree_ok h91.jin.jd h91.jin.jwf (by decide)).mono ?_⟩
      rintro _ _ ⟨rfl, rfl⟩
      refine ⟨_, rfl, (h91.fuse (k := 0) (by decide)).mono ?_⟩
      rintro _ H97 ⟨rfl, h97, hx97⟩
      refine ⟨rfl, by decide, hcap, ?_⟩
      have hk97 := hk91.on hx97
      have h4 := commit_fuse0 h97.live hm1 (by rw [hu91, hz91]; decide) rfl
      refine (h97.commit (by decide) (S' := fun _ => True) (fun _ _ => trivial) trivial hk97 (by simp) (c := c66)).mono ?_
      rintro _ H99 ⟨hx99, e99, J99, D99, rfl, hM99, hcase⟩
      have hd99 := commit_dead h4
      rw [hM99] at h4 hd99
      simp only at h4 hd99
      subst h4
      rcases hcase with ⟨_, g1, _⟩ | ⟨_, _, g1, _⟩ | ⟨_, _, g1, _⟩ | ⟨_, _, h99, _, _⟩
      · exact absurd g1 (by decide)
      · exact absurd g1 (by decide)
      · exact absurd g1 (by decide)
      refine ⟨_, rfl, (h99.jd.crash h99.wf (by decide) (nil_kept _ _)).mono ?_⟩
      rintro _ H102 ⟨rfl, hjd102, hx102⟩
      have h102 := h99.step hjd102 hx102 (crashWf h99.wf _) h99.jwf
      refine ⟨rfl, (jread_ok h102.jd h102.wf h102.jwf (by decide) 1).mono ?_⟩
      rintro _ H104 ⟨a105, c107, hjd104, hx104, rfl, _, _⟩
      have hsz99 := h99.jwf.size
      have hr4 : jreadM 20 1 J99 (crashD D99 []) = (J99, none, 4) := by
        unfold jreadM
        have hz99 : J99.h.size = 6 := by
          have := commit_h (n := 20) (l := [((0 : Int), blockB 0)]) (J := J91) (D := { D91 with fuse := max 0 (-1) })
          rw [hM99] at this
          rw [this]; exact hz91
        rw [hz99, if_neg (by decide), if_pos hd99]
      rw [hr4] at hjd104 ⊢
      have h104 := h102.same hjd104 hx104 h102.wf h102.jwf
      have t : ∀ {p : Prop}, p → ¬ p → Value.bool false = .bool true ∧ Ext [] H H104 := fun hp hn => absurd hp hn
      refine ⟨_, _, _, _, rfl, fun _ => ⟨fun _ => ⟨fun _ => ⟨fun _ => ⟨fun _ => ⟨fun _ => ⟨fun _ => ⟨fun _ => ⟨fun _ => ⟨fun _ => ⟨fun _ => ⟨fun _ => ⟨fun _ => ⟨fun _ => ⟨fun _ => ?_, t rfl⟩, t rfl⟩, t (by rw [hz91, hu91]; decide)⟩, t rfl⟩, t rfl⟩, t rfl⟩, t rfl⟩, t rfl⟩, t rfl⟩, t rfl⟩, t rfl⟩, t rfl⟩, t rfl⟩, t rfl⟩, t rfl⟩
      refine (jdead_ok h104.jd).mono ?_
      rintro _ _ ⟨rfl, rfl⟩
      refine ⟨_, rfl, fun _ => (sync_ok h104.jd h104.wf (by decide)).mono ?_, fun h => by rw [hd99] at h; cases h⟩
      rintro _ H113 ⟨rfl, hjd113, hx113⟩
      have hsy : (syncM J99 (crashD D99 [])).2.2 = 4 := by unfold syncM; rw [if_pos hd99]
      rw [hsy]
      have hx113' : Ext [] H H113 := h104.ext.transP hx113 h104.low
      refine ⟨_, rfl, fun _ => (needs_ok 0 H113 (by decide)).mono ?_, fun h => absurd rfl h⟩
      rintro _ _ ⟨rfl, rfl⟩
      refine ⟨_, rfl, fun _ => (needs_ok (-5) H113 (by decide)).mono ?_, fun h => absurd (by decide) h⟩
      rintro _ _ ⟨rfl, rfl⟩
      exact ⟨_, rfl, congrArg _ (dec_bool ⟨fun _ => rfl, fun _ => by decide⟩), hx113'⟩
    · exact absurd hf g1
  · rw [sixW_len, hn6] at g2; exact absurd g2 (by decide)
  · exact absurd hf g1
end Go.Proofs
end

namespace Go.Proofs.Ytmijngnbbpilmaa.journalKnown
open Go.ChangeShapes Go.WideShapes Go.ChangeAt Go.RowKit
open Go.ChangeMaps (open_string shut_string)
set_option linter.unusedVariables false

theorem own : ownKnob Try.prog.godebug = none := by kernel_rfl
theorem laidOut : laidOutB Try.prog = true := by kernel_rfl

set_option maxRecDepth 100000 in
theorem lifted (os : Os) (started : os.Started) (H : Type) (enc : TypeId × Value → H) :
    ReturnsInHanded {} Try.checked os 6 .any (Rows.journalKnownSpec.pre6 enc Try.prog Try.f6 Rows.journalKnownRow.domain false) (Rows.journalKnownSpec.post enc Try.prog Try.f6 false true false false) := by
  refine returnsInHanded_of_change (C := Try.checked) own started (by kernel_rfl) Try.func6
    (ChangeSpec.witness6 (enc := enc) (C := Try.checked) false ⟨#[], #[], []⟩ 8 (by kernel_rfl) (by kernel_rfl) (by kernel_rfl) (by kernel_rfl)) ?_
  intro W base args ds gs before hval0 hW hcnd _
  have hval : ∀ (j : Nat) t v, Try.f6.params[j]? = some t → args[j]? = some v → Value.okWide Try.prog W .any base t v := hval0
  have hW' := hW
  obtain ⟨p, q, hA0, hV, rfl, hfz, hnd⟩ := hW
  have hA : DataW.TrodAll enc Try.prog W 0 (fun _ => true) true Try.f6.params.toList args.toList ds p := hA0
  rw [Try.params6] at hA hval
  obtain ⟨rfl, rfl, rfl⟩ := trodAll_none hA
  obtain ⟨rfl, rfl⟩ := trodVars_none hV

  clear hA0 hval0
  refine (Go.Vc.Does.below (Go.Proofs.jknown_law W.heap )).mono fun e W' ⟨he, bel⟩ => ?_
  subst he
  exact ⟨_, rfl, _, _, _, [], _, [], hW', trodAll_mk1 (shut_bool Try.underlying4 _), trodAll_mk0, rfl, bel.frame _, fun h => by cases h⟩

theorem over : Rows.journalKnownRow.holds Try.pinned (OpenSpec.ofChange Rows.journalKnownSpec) :=
  OpenClaim.holds_of_wide 6 Try.f6 rfl rfl rfl rfl rfl rfl rfl ⟨rfl, rfl, rfl, rfl, rfl⟩ rfl rfl rfl rfl rfl (by kernel_rfl) Try.func6 (by kernel_rfl)
    (of_decide_eq_true (by kernel_rfl)) (by unfold Func.isWrapper; first | (rw [if_pos (by decide +kernel)]; kernel_rfl) | (rw [if_neg (by decide +kernel)]; exact ⟨rfl, rfl⟩))
    (fun os started H enc _ => lifted os started H enc)

theorem proved : Rows.JournalKnownSaid := over
#print axioms proved
end Go.Proofs.Ytmijngnbbpilmaa.journalKnown

