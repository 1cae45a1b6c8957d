/-
  What the law rests on, part 4. No condition.
-/
import Derived.Test.YtopjnbmggagloaaGreatDoorPc
import Derived.Test.YtopjnbmggagloaaGreatDoorProg
import Derived.Test.YtopjnbmggagloaaGreatDoorPb
import Derived.RangeFuncBound
import Derived.Shelf.SlIterI.Nil
import Derived.Shelf.SortM.Plain
import Derived.Shelf.SortM.SortNone
import Derived.Ground.GgzProg
import Derived.Ground.SlgmProg

section
/-! What the machine does is what the program does. -/
namespace Go.Ex
open Go Go.Vc

def OrcOk (M : Mc) : Prop := ∀ g o, M.O g = some o → ∀ (Ok : St → Prop) [Okay Ok] (l : CV) (cH : He) (n : Nat) (k : EK), Ok (o l cH n k) → ∃ cv cH' n', Ok (k cv cH' n') ∧
  ∀ E Pr H vs, (∀ g, g < M.ng → ∃ q, E g = some (g, q)) → LR E l vs → Rel E Pr n cH H → ∀ X, DoesX M.P g vs H (fun v H' => ∃ E', E.le E' ∧ Rel E' Pr n' cH' H' ∧ VR E' cv v) X
def CorOk (M : Mc) : Prop := (∀ f p o, M.C f p = some o → ∀ (Ok : St → Prop) [Okay Ok] (S : Sy) (cH : He) (n : Nat) (k : Sy → He → Nat → St), Ok (o S cH n k) → ∃ S' cH' n', Ok (k S' cH' n') ∧
  ∀ E Pr aS H X K, SR E M.ng S aS → Rel E Pr n cH H → (∀ E' aS' H', E.le E' → SR E' M.ng S' aS' → Rel E' Pr n' cH' H' → K.norm aS' H') → Sem M.P X (ntm M.P f) (codeAt M.P f p) K aS H) ∧
  ∀ f p o, M.T f p = some o → ∀ (Ok : St → Prop) [Okay Ok] (S : Sy) (cH : He) (n : Nat) (k : Sy → He → Nat → St), Ok (o S cH n k) → ∃ S' cH' n', Ok (k S' cH' n') ∧
  ∀ E Pr aS H X K, SR E M.ng S aS → Rel E Pr n cH H → (∀ E' aS' H', E.le E' → SR E' M.ng S' aS' → Rel E' Pr n' cH' H' → K.ret aS' H') → Sem M.P X (ntm M.P f) (codeAt M.P f p) K aS H
def GdOk (M : Mc) : Prop := ∃ t1 t2 t3 : TypeId, ∀ (k : FuncId) (first cap : List Value) (H : Heap) (Q : HP), hb M.P k = true →
  (∀ e g H1 H2, New H e [.int .i64 0] t1 H1 → New H1 g [.int .i64 0] t2 H2 → DoesX M.P k (first ++ [.pointer (some ⟨g, 0, none⟩)] ++ cap) H2
    (fun v H' => v = .tuple #[] ∧ Blk H' e [.int .i64 0] ∧ ∀ H3, Puts H' e 0 [.int .i64 0] H3 → Q (.int .i64 0) H3)
    (fun p H' => ∃ n, p = .iface M.G.t (.agg #[.pointer (some ⟨g, 0, none⟩)]) ∧ hcell H' g 0 = some (.int .i64 n) ∧ Blk H' e [.int .i64 0] ∧ ∀ b H3 H4, New H' b [.pointer (some ⟨g, 0, none⟩)] t3 H3 → Puts H3 e 0 [.int .i64 n] H4 → Q (.int .i64 n) H4)) →
  Does M.P M.G.fn [.func (.func k) first.toArray cap.toArray] H Q

section
variable {Ok : St → Prop} [Okay Ok] {ng : Nat} {S : Sy} {cH : He}

theorem sg_S0 (t : Nat) (ht : t < 256) : sg t S0 = .u := by
  rw [sg_eq]
  have h : ∀ {α : Type} (x : α) (i : Nat), i < 16 → un (vg i) (vrep x) = x := fun x i hi => by
    rcases lt16 hi with rfl | rfl | rfl | rfl | rfl | rfl | rfl | rfl | rfl | rfl | rfl | rfl | rfl | rfl | rfl | rfl <;> rfl
  unfold S0
  rw [h _ _ (by omega), h _ _ (by omega)]
theorem startL_ok : ∀ {l : CV} {i : Nat} {S : Sy} {k : Sy → St}, Ok (startL l i S k) → ∃ S', Ok (k S') ∧ ∀ E vs, LR E l vs → (vs ≠ [] → i + vs.length ≤ 256) ∧ (∀ j u, vs[j]? = some u → VR E (sg (i + j) S') u) ∧ ∀ t, t < 256 → (t < i ∨ i + vs.length ≤ t) → sg t S' = sg t S := by
  intro l
  induction l with
  | nil =>
    intro i S k h
    refine ⟨S, h, fun E vs hv => ?_⟩
    have : vs = [] := hv
    subst this
    exact ⟨fun h => absurd rfl h, fun j u hj => by simp at hj, fun t _ _ => rfl⟩
  | cons a b _ ih =>
    intro i S k h
    by_cases hi : i < 256
    · obtain ⟨S1, h1, h2, h3⟩ := ss_law i a S hi
      have h : Ok (ss i a S fun S => startL b (Nat.succ i) S k) := h
      rw [h1] at h
      obtain ⟨S', h4, h5⟩ := ih h
      refine ⟨S', h4, fun E vs hv => ?_⟩
      obtain ⟨v, r, g1, g2, rfl⟩ := hv
      obtain ⟨g3, g4, g5⟩ := h5 E r g2
      refine ⟨fun _ => ?_, fun j u hj => ?_, fun t ht htt => ?_⟩
      · cases r with
        | nil => simp; omega
        | cons _ _ => have := g3 (by simp); simp only [List.length_cons] at this ⊢; omega
      · cases j with
        | zero =>
          simp only [List.getElem?_cons_zero, Option.some.injEq] at hj
          subst hj
          rw [Nat.add_zero, g5 i hi (.inl (by omega)), h2]; exact g1
        | succ j =>
          have := g4 j u (by simpa using hj)
          rwa [show i + (j + 1) = Nat.succ i + j by omega]
      · simp only [List.length_cons] at htt
        rw [g5 t ht (by omega), h3 t ht (by omega)]
    · have h : Ok (ss i a S fun S => startL b (Nat.succ i) S k) := h
      rw [ss_no _ _ _ _ hi] at h
      exact no_ok h
  | _ => intro i S k h; exact no_ok h
theorem sym0_ok {l : CV} {k : Sy → St} (h : Ok (startL l 0 S0 k)) : ∃ S', Ok (k S') ∧ ∀ E vs, (∀ g, g < ng → ∃ q, E g = some (g, q)) → LR E l vs → SR E ng S' (sym0 vs) := by
  obtain ⟨S', h1, h2⟩ := startL_ok h
  refine ⟨S', h1, fun E vs hg hv => ?_⟩
  obtain ⟨g1, g2, g3⟩ := h2 E vs hv
  refine ⟨fun t ht => ?_, hg, ?_⟩
  · unfold sym0
    rw [get_append, start_some _ _ _ (Nat.zero_le _), get_undefs, Nat.sub_zero]
    by_cases hlt : t < vs.length
    · have hgv := List.getElem?_eq_getElem hlt
      rw [hgv]
      have := g2 t _ hgv
      rw [Nat.zero_add] at this
      exact ⟨_, rfl, this⟩
    · rw [List.getElem?_eq_none (by omega), if_pos (by simp; exact ht)]
      refine ⟨_, rfl, ?_⟩
      rw [g3 t ht (.inr (by omega)), sg_S0 t ht]; exact trivial
  · unfold sym0
    rw [get_append, start_some _ _ _ (Nat.zero_le _), get_undefs, Nat.sub_zero]
    have hlen : vs.length ≤ 256 := by
      cases vs with
      | nil => simp
      | cons _ _ => have := g1 (by simp); omega
    rw [List.getElem?_eq_none (by unfold wideKey; omega), if_neg (by unfold wideKey; simp)]
    rfl
theorem fitVs_ok {E : En} : ∀ {zs : List Value} {l : CV} {vs : List Value}, fitL zs l = true → LR E l vs → ∀ K : List Value → Prop, K vs → exVs zs K
  | [], l, vs, h, hl, K, hK => by
    cases l <;> first | (cases h; done) | skip
    have : vs = [] := hl
    subst this; exact hK
  | z :: zs, l, vs, h, hl, K, hK => by
    cases l <;> first | (cases h; done) | skip
    rename_i a b
    obtain ⟨h1, h2⟩ := an_true.1 (show an (fit1 z a) (fitL zs b) = true from h)
    obtain ⟨v, r, g1, g2, rfl⟩ := hl
    exact fit1_ok h1 g1 _ (fitVs_ok h2 g2 _ hK)
theorem fitTs_ok {E : En} : ∀ {zs : List Value} {l : CV} {vs : List Value}, fitT zs l = true → LR E l vs → ∀ K : List Value → Prop, K vs → exTs zs K
  | [], l, vs, h, hl, K, hK => by
    cases l <;> first | (cases h; done) | skip
    have : vs = [] := hl
    subst this; exact hK
  | z :: zs, l, vs, h, hl, K, hK => by
    cases l <;> first | (cases h; done) | skip
    rename_i a b
    obtain ⟨h1, h2⟩ := an_true.1 (show an (fitA z a) (fitT zs b) = true from h)
    obtain ⟨v, r, g1, g2, rfl⟩ := hl
    unfold exTs
    split
    · rename_i cs
      cases a <;> first | (cases h1; done) | skip
      obtain ⟨us, g3, rfl⟩ := g1
      exact fitVs_ok (show fitL cs.toList _ = true from h1) g3 _ (fitTs_ok h2 g2 _ hK)
    · rename_i hz
      have h1' : fit1 z a = true := by
        cases z <;> first | exact h1 | exact absurd rfl (hz _)
      exact fit1_ok h1' g1 _ (fitTs_ok h2 g2 _ hK)
theorem fitR_ok {E : En} {z : Value} {c : CV} {v : Value} (h : fitR z c = true) (hv : VR E c v) : ∀ K : Value → Prop, K v → exR z v K := by
  intro K hK
  cases z with
  | tuple zs =>
    cases c <;> first | (cases h; done) | skip
    obtain ⟨vs, g1, rfl⟩ := hv
    exact fitTs_ok (show fitT zs.toList _ = true from h) g1 _ ⟨rfl, hK⟩
  | agg zs =>
    cases c <;> first | (cases h; done) | skip
    obtain ⟨vs, g1, rfl⟩ := hv
    exact fitVs_ok (show fitL zs.toList _ = true from h) g1 _ ⟨rfl, hK⟩
  | bool b => exact fit1_ok (z := .bool b) h hv (fun u => v = u ∧ K u) ⟨rfl, hK⟩
  | int k n => exact fit1_ok (z := .int k n) h hv (fun u => v = u ∧ K u) ⟨rfl, hK⟩
  | float k n => exact fit1_ok (z := .float k n) h hv (fun u => v = u ∧ K u) ⟨rfl, hK⟩
  | complex k a b => exact fit1_ok (z := .complex k a b) h hv (fun u => v = u ∧ K u) ⟨rfl, hK⟩
  | string a => exact fit1_ok (z := .string a) h hv (fun u => v = u ∧ K u) ⟨rfl, hK⟩
  | pointer a => exact fit1_ok (z := .pointer a) h hv (fun u => v = u ∧ K u) ⟨rfl, hK⟩
  | slice a b d => exact fit1_ok (z := .slice a b d) h hv (fun u => v = u ∧ K u) ⟨rfl, hK⟩
  | map a => exact fit1_ok (z := .map a) h hv (fun u => v = u ∧ K u) ⟨rfl, hK⟩
  | chan a => exact fit1_ok (z := .chan a) h hv (fun u => v = u ∧ K u) ⟨rfl, hK⟩
  | func a b d => exact fit1_ok (z := .func a b d) h hv (fun u => v = u ∧ K u) ⟨rfl, hK⟩
  | nilFunc => exact fit1_ok (z := .nilFunc) h hv (fun u => v = u ∧ K u) ⟨rfl, hK⟩
  | iface a b => exact fit1_ok (z := .iface a b) h hv (fun u => v = u ∧ K u) ⟨rfl, hK⟩
  | nilIface => exact fit1_ok (z := .nilIface) h hv (fun u => v = u ∧ K u) ⟨rfl, hK⟩
theorem resx_ok : ∀ {rs : List RV} {k : CV → St}, Ok (resx ng rs S cH k) → ∃ l, Ok (k l) ∧ ∀ E Pr n aS H, SR E ng S aS → Rel E Pr n cH H → ∀ K : List Value → Prop, (∀ vs, LR E l vs → vs.length = rs.length → K vs) → resK H rs aS K
  | [], k, h => ⟨.nil, h, fun E Pr n aS H _ _ K hK => hK [] rfl rfl⟩
  | .tmp t :: r, k, h => by
    have h : Ok (evx ng (.t t) S fun v => resx ng r S cH fun l => k (.cons v l)) := h
    obtain ⟨cv, h1, h2⟩ := evx_ok h
    obtain ⟨l, h3, h4⟩ := resx_ok h1
    refine ⟨_, h3, fun E Pr n aS H hs hr K hK => ?_⟩
    obtain ⟨s, e, hv⟩ := h2 E aS hs
    have e : aS.get t = some s := e
    simp only [resK, e]
    exact h4 E Pr n aS H hs hr _ fun vs g1 g2 => hK _ (LR.cons' hv g1) (by simp [g2])
  | .cell z ag a :: r, k, h => by
    have h : Ok (r_load ng z ag (.t a) S cH fun v => resx ng r S cH fun l => k (.cons v l)) := h
    obtain ⟨cv, h1, h2⟩ := rop_ok (q := .load z ag (.t a)) h
    obtain ⟨l, h3, h4⟩ := resx_ok h1
    refine ⟨_, h3, fun E Pr n aS H hs hr K hK => ?_⟩
    exact h2 E Pr n aS H hs hr _ fun s φ hv _ => h4 E Pr n aS H hs hr _ fun vs g1 g2 => hK _ (LR.cons' hv g1) (by simp [g2])
theorem results_ok {M : Mc} {g : Nat} {k : CV → St} (h : Ok (results M g S cH k)) : ∃ cv, Ok (k cv) ∧ ∃ rs, rsOf M.P g = some rs ∧ ∀ E Pr n aS H, SR E M.ng S aS → Rel E Pr n cH H → ∀ R : HP, (∀ v, VR E cv v → R v H) → retK rs R aS H := by
  unfold results resultsB at h
  cases hr : rsOf M.P g with
  | none => rw [hr] at h; exact no_ok h
  | some rs =>
    rw [hr] at h
    have h : Ok (resx M.ng rs S cH fun l => one rs l k) := h
    obtain ⟨l, h1, h2⟩ := resx_ok h
    match rs, h1, h2 with
    | [], h1, h2 =>
      refine ⟨_, h1, [], rfl, fun E Pr n aS H hs hrr R hR => h2 E Pr n aS H hs hrr _ fun vs g1 g2 => ?_⟩
      have : vs = [] := List.eq_nil_of_length_eq_zero g2
      subst this
      exact hR _ ⟨[], g1, rfl⟩
    | [a], h1, h2 =>
      rcases sList_ok (show Ok (sList no (fun h _ => k h) l) from h1) with ⟨_, h3⟩ | ⟨a1, b1, rfl, h3⟩
      · exact no_ok h3
      · refine ⟨_, h3, [a], rfl, fun E Pr n aS H hs hrr R hR => h2 E Pr n aS H hs hrr _ fun vs g1 g2 => ?_⟩
        obtain ⟨v, r, e1, e2, rfl⟩ := g1
        have : r = [] := List.eq_nil_of_length_eq_zero (by simpa using g2)
        subst this
        exact hR _ e1
    | a :: b :: r, h1, h2 =>
      refine ⟨_, h1, _, rfl, fun E Pr n aS H hs hrr R hR => h2 E Pr n aS H hs hrr _ fun vs g1 g2 => ?_⟩
      match vs, g2, g1 with
      | x :: y :: t, _, g1 => exact hR _ ⟨_, g1, rfl⟩
end

end Go.Ex
end

namespace Go.Ex
open Go Go.Vc

section
variable {E : En} {Pr Pr' : Prt} {n : Nat} {cH : He} {H : Heap}
theorem Rel.weak (h : Rel E Pr' n cH H) (hle : ∀ r x, Pr r = some x → Pr' r = some x) : Rel E Pr n cH H := ⟨h.fresh, h.small, h.blk, h.inj, fun r o s hp => h.pr r o s (hle r _ hp)⟩
theorem Rel.prot (h : Rel E Pr n cH H) (o : Obj) : Rel E (fun r => if r = H.size then some (o, true) else Pr r) n cH (H.push o) := by
  refine ⟨h.fresh, h.small, fun b r q hx => ?_, h.inj, fun r o' s hp => ?_⟩
  · obtain ⟨g1, g2⟩ := h.blk b r q hx
    exact ⟨by simp; omega, by rw [Array.getElem?_push, if_neg (by omega)]; exact g2⟩
  · by_cases e : r = H.size
    · subst e
      rw [if_pos rfl] at hp
      simp only [Option.some.injEq, Prod.mk.injEq] at hp
      obtain ⟨rfl, rfl⟩ := hp
      refine ⟨by simp, fun b q hx => ?_⟩
      have := (h.blk b _ q hx).1
      omega
    · rw [if_neg e] at hp
      obtain ⟨g1, g2⟩ := h.pr r o' s hp
      have hlt : r < H.size := (Array.getElem?_eq_some_iff.1 g1).1
      exact ⟨by rw [Array.getElem?_push, if_neg (by omega)]; exact g1, g2⟩
theorem Rel.none_at (h : Rel E Pr n cH H) {r : Nat} (hr : H.size ≤ r) : Pr r = none := by
  cases hp : Pr r with
  | none => rfl
  | some x =>
    have := (h.pr r x.1 x.2 hp).1
    rw [Array.getElem?_eq_none hr] at this; cases this
theorem Rel.garb (h : Rel E Pr n cH H) (o : Obj) : Rel E Pr n cH (H.push o) := (h.prot o).weak fun r x hp => by
  rw [if_neg]
  · exact hp
  · intro e
    subst e
    rw [h.none_at (Nat.le_refl _)] at hp; cases hp
theorem Rel.poke (h : Rel E Pr' n cH H) {e : Nat} {o : Obj} {H' : Heap} (hp : Pr' e = some (o, true)) (hle : ∀ r x, Pr r = some x → Pr' r = some x) (hne : Pr e = none) (hs : H'.size = H.size) (ho : ∀ k, k ≠ e → H'[k]? = H[k]?) : Rel E Pr n cH H' := by
  have out : ∀ b q, E b ≠ some (e, q) := fun b q hx => by have := ((h.pr e o true hp).2 b q hx).1; cases this
  refine ⟨h.fresh, h.small, fun b r q hx => ?_, h.inj, fun r o' s hp' => ?_⟩
  · obtain ⟨g1, g2⟩ := h.blk b r q hx
    have : r ≠ e := fun e' => by subst e'; exact out b q hx
    exact ⟨by omega, by rw [ho r this]; exact g2⟩
  · have : r ≠ e := fun e' => by subst e'; rw [hne] at hp'; cases hp'
    obtain ⟨g1, g2⟩ := h.pr r o' s (hle r _ hp')
    exact ⟨by rw [ho r this]; exact g1, g2⟩
theorem Rel.pokes (h : Rel E Pr' n cH H) {e o : Nat} {ob : Obj} {vs : List Value} {H' : Heap} (hp : Pr' e = some (ob, true)) (hle : ∀ r x, Pr r = some x → Pr' r = some x) (hne : Pr e = none) (hu : Puts H e o vs H') : Rel E Pr n cH H' := by
  have hx := hsets_ext (H := H) (b := e) vs o
  have hu : H' = hsets H e o vs := hu
  subst hu
  refine h.poke hp hle hne hx.2 fun j hj => ?_
  by_cases hjs : j < H.size
  · exact hx.1.keep j hjs (by simpa using hj)
  · rw [Array.getElem?_eq_none (by rw [hx.2]; omega), Array.getElem?_eq_none (by omega)]
end

section
variable {M : Mc} {V : CV} {HV : He} {nV : Nat} {E : En} {Pr : Prt} {st : Stk} {N : Nat} {K : Kont} {X : HP} {S : Sy} {aS : Sym} {cH : He} {n : Nat} {H : Heap}

/-- What comes next is good. -/
def NG (M : Mc) (V : CV) (HV : He) (nV : Nat) (st : Stk) (N : Nat) (K : Kont) (X : HP) (next : NX) (r : List SOper) : Prop :=
  ∀ S cH n, Good M V HV nV (un next st S cH n) → ∀ E Pr aS H, KR M V HV nV E Pr st N K X → SR E M.ng S aS → Rel E Pr n cH H → WPops M.P (CX M.P X) X r aS H K.norm

theorem after_good {z : Value} {d : Option Nat} {next : NX} {cv : CV} {r : List SOper} (h : Good M V HV nV (after z d next S st cv cH n)) (hn : NG M V HV nV st N K X next r) (hk : KR M V HV nV E Pr st N K X) (hs : SR E M.ng S aS) (hr : Rel E Pr n cH H) {v : Value} (hv : VR E cv v) :
    exR z v fun v => WPops M.P (CX M.P X) X r (aS.put d (.v v)) H K.norm := by
  obtain ⟨h1, h2⟩ := bi_ok (Ok := Good M V HV nV) h
  obtain ⟨S', h3, h4⟩ := putd_ok (Ok := Good M V HV nV) h2
  refine fitR_ok h1 hv _ (hn S' cH n h3 E Pr _ H hk (h4 E M.ng aS (.v v) hs hv) hr)
theorem fnOk_eq {P : Program} {g : Nat} (h : fnOk P g = true) : ∃ fn c rs, P.funcs[g]? = some fn ∧ fn.body = some c ∧ compRes P fn.results.toList = some rs ∧ rsOf P g = some rs ∧ ntm P g = fn.ntmps ∧ bodyOf P g = c := by
  unfold fnOk at h
  split at h
  · rename_i fn hf
    rw [Bool.and_eq_true] at h
    obtain ⟨c, hc⟩ := Option.isSome_iff_exists.1 h.1
    obtain ⟨rs, hr⟩ := Option.isSome_iff_exists.1 h.2
    refine ⟨fn, c, rs, hf, hc, hr, ?_, ?_, ?_⟩
    · unfold rsOf; rw [hf]; exact hr
    · unfold ntm; rw [hf]
    · unfold bodyOf; rw [hf]; simp only [hc]
  · cases h
theorem goin_good {g : Nat} {l : CV} {fr : Fr} (h : Good M V HV nV (goin M.P g l fr st cH n)) {vs : List Value} (hl : LR E l vs) (hg : ∀ g, g < M.ng → ∃ q, E g = some (g, q)) (hr : Rel E Pr n cH H) {R : HP}
    (hk : ∀ rs, rsOf M.P g = some rs → KR M V HV nV E Pr (.cons fr st) (ntm M.P g) (KC rs R) X) : DoesX M.P g vs H R X := by
  obtain ⟨h1, h2⟩ := bi_ok (Ok := Good M V HV nV) h
  obtain ⟨h3, h4⟩ := an_true.1 h1
  obtain ⟨fn, c, rs, f1, f2, f3, f4, f5, f6⟩ := fnOk_eq h3
  obtain ⟨S', h5, h6⟩ := sym0_ok (Ok := Good M V HV nV) (ng := M.ng) h2
  have hle : lenL l ≤ ntm M.P g := Nat.le_of_ble_eq_true h4
  rw [lenL_ok hl, f5] at hle
  refine doesX_of_sem f1 f2 f3 hle ?_
  have := h5 E Pr _ _ _ _ H (.code (p := .z) (hk rs f4) rfl) (h6 E vs hg hl) hr
  have this : Sem M.P X (ntm M.P g) (bodyOf M.P g) (KC rs R) (sym0 vs) H := this
  rw [f5, f6] at this
  exact this
theorem LR_append {a b : CV} {xs ys : List Value} (h1 : LR E a xs) (h2 : LR E b ys) : LR E (appL a b) (xs ++ ys) := by
  induction a generalizing xs with
  | nil => have : xs = [] := h1; subst this; exact h2
  | cons p q _ ih => obtain ⟨v, r, e1, e2, rfl⟩ := h1; exact ⟨v, r ++ ys, e1, ih e2, rfl⟩
  | _ => exact h1.elim
theorem callp_good (hO : OrcOk M) {f g k : Nat} {p : Pa} {l : CV} {z : Value} {o : SOper} {next : NX} {r : List SOper} (h : Good M V HV nV (callp M g l (.wait f p k g S) st cH n (after z o.dst next S st))) {vs : List Value} (hl : LR E l vs)
    (hn : NG M V HV nV st N K X next r) (hk : KR M V HV nV E Pr st N K X) (hs : SR E M.ng S aS) (hr : Rel E Pr n cH H) (hN : ntm M.P f = N) (hop : (opsOf M.P f p).drop k = o :: r) (hz : zOf o = some z) :
    DoesX M.P g vs H (fun v H' => exR z v fun v => WPops M.P (CX M.P X) X r (aS.put o.dst (.v v)) H' K.norm) X := by
  unfold callp at h
  cases ho : M.O g with
  | none =>
    rw [ho] at h
    exact goin_good h hl hs.gl hr fun rs hrs => .wait hk hs hrs hN hop hz
  | some orc =>
    rw [ho] at h
    obtain ⟨cv, cH', n', h1, h2⟩ := hO g orc ho (Good M V HV nV) l cH n _ h
    refine (h2 E Pr H vs hs.gl hl hr X).mono ?_ (fun _ _ h => h)
    rintro v H' ⟨E', g1, g2, g3⟩
    exact after_good h1 hn (hk.mono g1) (hs.mono g1) g2 g3
theorem callg_good (hG : GdOk M) {f k : Nat} {p : Pa} {l : CV} {z : Value} {o : SOper} {r : List SOper} (h : Good M V HV nV (callg M.P l (fun kf b => .grd f p k kf S b) st cH n)) {vs : List Value} (hl : LR E l vs)
    (hk : KR M V HV nV E Pr st N K X) (hs : SR E M.ng S aS) (hr : Rel E Pr n cH H) (hN : ntm M.P f = N) (hop : (opsOf M.P f p).drop k = o :: r) (hz : zOf o = some z) :
    DoesX M.P M.G.fn vs H (fun v H' => exR z v fun v => WPops M.P (CX M.P X) X r (aS.put o.dst (.v v)) H' K.norm) X := by
  obtain ⟨t1, t2, t3, hG⟩ := hG
  rcases sList_ok (Ok := Good M V HV nV) h with ⟨_, h1⟩ | ⟨a, b, rfl, h1⟩
  · exact h1.elim
  · rcases sList_ok (Ok := Good M V HV nV) h1 with ⟨rfl, h2⟩ | ⟨_, _, _, h2⟩
    · obtain ⟨kf, ca, cc, rfl, h3⟩ := sFn_ok (Ok := Good M V HV nV) h2
      obtain ⟨h4, h5⟩ := bi_ok (Ok := Good M V HV nV) h3
      obtain ⟨hn, cH', h6, h7, h8⟩ := newB_ok (Ok := Good M V HV nV) h5
      obtain ⟨v, rest, ⟨aas, cs, g1, g2, rfl⟩, g3, rfl⟩ := hl
      have g3 : rest = [] := g3
      subst g3
      refine Does.x (hG kf aas cs H _ h4 ?_)
      rintro e g H1 H2 ⟨rfl, rfl⟩ ⟨rfl, rfl⟩
      have hr1 := hr.prot (.cells [Value.int .i64 0].toArray t1)
      obtain ⟨hr2, hle⟩ := hr1.new (bk := .cells 0 1 (.n (.int .i64 (Int.ofNat 0)) .e .e)) (o := .cells [Value.int .i64 0].toArray t2) (q := 0) (cH' := cH') hn h7 h8 (by
        refine BR_new rfl fun j u hj => ?_
        have : j = 0 := by have := (List.getElem?_eq_some_iff.1 hj).1; simp at this; omega
        subst this
        simp only [List.getElem?_cons_zero, Option.some.injEq] at hj
        subst hj
        rfl)
      have hPe : Pr H.size = none := hr.none_at (Nat.le_refl _)
      have hPle : ∀ r x, Pr r = some x → (if r = H.size then some (Obj.cells [Value.int .i64 0].toArray t1, true) else Pr r) = some x := fun r x hx => by
        rw [if_neg]
        · exact hx
        · intro e; subst e; rw [hPe] at hx; cases hx
      have blk : ∀ {E2 n2 cH2 H2}, Rel E2 (fun r => if r = H.size then some (Obj.cells [Value.int .i64 0].toArray t1, true) else Pr r) n2 cH2 H2 → Blk H2 H.size [.int .i64 0] := fun h => ⟨t1, (h.pr H.size _ true (if_pos rfl)).1⟩
      have g1 : LR E ca aas := g1
      have g2 : LR E cc cs := g2
      have hp0 : LR (E.add n (H.push (.cells [Value.int .i64 0].toArray t1)).size 0) (.cons (.ptr n 0) .nil) [.pointer (some ⟨(H.push (.cells [Value.int .i64 0].toArray t1)).size, 0, none⟩)] := LR.cons' ⟨_, 0, En.add_self _ _ _ _, rfl⟩ LR.nil'
      have hl3 := LR_append (LR_append (g1.mono hle) hp0) (g2.mono hle)
      have e : appL ca (.cons (.ptr n 0) cc) = appL (appL ca (.cons (.ptr n 0) .nil)) cc := by
        have : ∀ x y : CV, isList x = true → appL (appL x (.cons y .nil)) cc = appL x (.cons y cc) := by
          intro x y
          induction x with
          | nil => intro _; rfl
          | cons p q _ ih => intro hh; exact congrArg (CV.cons p) (ih hh)
          | _ => intro hh; cases hh
        exact (this ca _ g1.isList).symm
      rw [← e] at hl3
      refine goin_good h6 hl3 (fun g hg => by obtain ⟨q, hq⟩ := hs.gl g hg; exact ⟨q, hle _ _ hq⟩) hr2
        fun rs hrs => .grd (hk.mono hle) (hs.mono hle) hrs hN hop hz (En.add_self _ _ _ _) hPle ?_ ?_
      · intro E2 n2 cH2 H3 v hle2 hr3 hv hQ
        exact ⟨hv, blk hr3, fun H4 hp => hQ E2 _ (En.le.refl _) (hr3.pokes (if_pos rfl) hPle hPe hp)⟩
      · intro E2 n2 cH2 H3 m hle2 hr3 hc hQ
        refine ⟨m, rfl, hc, blk hr3, ?_⟩
        rintro b H4 H5 ⟨rfl, rfl⟩ hp
        exact hQ E2 _ (En.le.refl _) ((hr3.garb _).pokes (if_pos rfl) hPle hPe hp)
    · exact h2.elim
theorem callx_good (hO : OrcOk M) (hG : GdOk M) {f g k : Nat} {p : Pa} {l : CV} {z : Value} {o : SOper} {next : NX} {r : List SOper}
    (h : Good M V HV nV (callx M g l (.wait f p k g S) (fun kf b => .grd f p k kf S b) st cH n (after z o.dst next S st))) {vs : List Value} (hl : LR E l vs)
    (hn : NG M V HV nV st N K X next r) (hk : KR M V HV nV E Pr st N K X) (hs : SR E M.ng S aS) (hr : Rel E Pr n cH H) (hN : ntm M.P f = N) (hop : (opsOf M.P f p).drop k = o :: r) (hz : zOf o = some z) :
    DoesX M.P g vs H (fun v H' => exR z v fun v => WPops M.P (CX M.P X) X r (aS.put o.dst (.v v)) H' K.norm) X := by
  unfold callx at h
  cases hb : Nat.beq g M.G.fn with
  | true =>
    obtain rfl := Nat.eq_of_beq_eq_true hb
    rw [hb, bi_true] at h
    exact callg_good hG h hl hk hs hr hN hop hz
  | false =>
    rw [hb, bi_false] at h
    exact callp_good hO h hl hn hk hs hr hN hop hz
theorem hb_eq {P : Program} {f : Nat} (h : hb P f = true) {Q : Prop} (hq : Q) : hasB P f Q := by
  unfold hb at h
  unfold hasB
  split at h
  · rename_i fn hf
    rw [hf]; simp only [h]; exact hq
  · cases h
theorem PdOk.le {co : Nat → Option SOper} {Pr Pr0 : Prt} {pd : List (Pe × Nat)} (h : PdOk co Pr Pr0 aS S pd) : ∀ r x, Pr0 r = some x → Pr r = some x := fun r x hx => by
  by_cases hm : r ∈ pd.map (·.2)
  · obtain ⟨y, hy, rfl⟩ := List.mem_map.1 hm
    obtain ⟨o, _, _, _, _, _, _, _, h5, _⟩ := h.each y hy
    rw [h5] at hx; cases hx
  · rw [h.rest r hm]; exact hx
/-- Giving up. -/
theorem unwP_good {v : CV} {pv : Value} : ∀ {st : Stk} {Pr : Prt} {N : Nat} {K : Kont} {X : HP}, Good M V HV nV (unwP M.G v S cH n st) → KR M V HV nV E Pr st N K X → SR E M.ng S aS → Rel E Pr n cH H → VR E v pv → X pv H := by
  intro st
  induction st with
  | nil => intro Pr N K X h; exact h.elim
  | cons fr st ih =>
    intro Pr N K X h hk hs hr hv
    cases hk with
    | fin hrs hR => exact h.elim
    | code hk hN => exact ih h hk hs hr hv
    | blk hk => exact ih h hk hs hr hv
    | loop hk hN => exact ih h hk hs hr hv
    | wait hk hS hrs hN hop hz => exact ih h hk hs hr hv
    | waitd hk hS hrs hN hc ht hz hd hT hT' hp hpd hw hF => exact ih h hk hs (hr.weak hp.le) hv
    | val hk hS hv' hN hop hz => exact ih h hk hs hr hv
    | grd hk hS hrs hN hop hz hb hle hR hX =>
      rename_i f p k g S0 b r0 q0 aS0 rs z o r R
      have h : Good M V HV nV (sIfc (fun t w => sAgg (fun l => sList no (fun h tl => sList (sPtr (fun c o => bi (an (Nat.beq t M.G.t) (an (Nat.beq c b) (Nat.beq o 0))) (hget b cH fun x => onBk no (fun _ N t => bi (Nat.beq N 1) (T.get .u .z t fun w => sInt (fun j _ => bi (isI64 j) (.mk (.cons (.val f p k S0 w) st) S cH n) no) w) no) (fun _ _ _ => no) (fun _ => no) x) no) h) (fun _ _ => no) tl) l) w) no v) := h
      rcases sIfc_ok (Ok := Good M V HV nV) h with ⟨t, w, rfl, h1⟩ | ⟨_, h1⟩
      · obtain ⟨l, rfl, h2⟩ := sAgg_ok (Ok := Good M V HV nV) h1
        rcases sList_ok (Ok := Good M V HV nV) h2 with ⟨_, h3⟩ | ⟨hd, tl, rfl, h3⟩
        · exact h3.elim
        · rcases sList_ok (Ok := Good M V HV nV) h3 with ⟨rfl, h4⟩ | ⟨_, _, _, h4⟩
          · obtain ⟨c, off, rfl, h5⟩ := sPtr_ok (Ok := Good M V HV nV) h4
            obtain ⟨h6, h7⟩ := bi_ok (Ok := Good M V HV nV) h5
            obtain ⟨a1, a2⟩ := an_true.1 h6
            obtain ⟨a2, a3⟩ := an_true.1 a2
            obtain rfl := Nat.eq_of_beq_eq_true a1
            obtain rfl := Nat.eq_of_beq_eq_true a2
            obtain rfl := Nat.eq_of_beq_eq_true a3
            rw [hget_eq] at h7
            rcases onBk_ok (Ok := Good M V HV nV) h7 with ⟨m, N', t', hbk, h8⟩ | ⟨_, _, _, _, h8⟩ | ⟨_, _, h8⟩
            · obtain ⟨h9, h10⟩ := bi_ok (Ok := Good M V HV nV) h8
              obtain rfl := Nat.eq_of_beq_eq_true h9
              have h10 : Good M V HV nV (sInt (fun j _ => bi (isI64 j) (.mk (.cons (.val f p k S0 (tg 0 t')) st) S cH n) no) (tg 0 t')) := h10
              obtain ⟨j, e, he, h11⟩ := sInt_ok (Ok := Good M V HV nV) h10
              obtain ⟨h12, h13⟩ := bi_ok (Ok := Good M V HV nV) h11
              obtain rfl := isI64_eq.1 h12
              have hbr := (hr.blk c r0 q0 hb).2
              rw [hbk] at hbr
              obtain ⟨cs, e0, lo, hi, g1, g2, g3, g4, g5⟩ := hbr
              obtain ⟨u, g6, g7⟩ := g5 0 (by omega)
              rw [he] at g7
              have g7 : u = .int .i64 e := g7
              subst g7
              obtain ⟨u', ⟨vs, ⟨v1, r1, ⟨r2, q2, e1, e2⟩, e3, e4⟩, e5⟩, e6⟩ := hv
              rw [hb] at e1
              cases e1
              have e3 : r1 = [] := e3
              subst e3; subst e2; subst e4; subst e5; subst e6
              refine hX E n cH H e (En.le.refl E) hr (by rw [hcell_at g1]; exact g6) ?_
              intro E2 H2 hle2 hr2
              rw [he] at h13
              exact h13 E2 _ 0 ⟨_, fun _ _ _ => False, fun _ _ => False⟩ _ aS H2 (.val (hk.mono hle2) (hS.mono hle2) rfl hN hop hz) (hs.mono hle2) hr2
            · exact h8.elim
            · exact h8.elim
          · exact h4.elim
      · exact h1.elim
end
end Go.Ex

namespace Go.Ex
open Go Go.Vc

section
variable {M : Mc} {V : CV} {HV : He} {nV : Nat} {E : En} {Pr : Prt} {st : Stk} {N : Nat} {K : Kont} {X : HP} {S : Sy} {aS : Sym} {cH : He} {n : Nat} {H : Heap}

theorem SR.know {ng : Nat} {t : Nat} {b : Bool} (h : SR E ng S aS) (ht : t < 256) {s : SV} (hg : aS.get t = some s) (hb : s.toV = .bool b) : SR E ng S ((t, .b b) :: aS) := by
  refine ⟨fun t' ht' => ?_, h.gl, ?_⟩
  · rw [get_cons]
    by_cases e : t = t'
    · subst e
      rw [if_pos rfl]
      obtain ⟨s', h1, h2⟩ := h.get t ht
      rw [hg] at h1; cases h1
      rw [hb] at h2
      exact ⟨_, rfl, h2⟩
    · rw [if_neg e]; exact h.get t' ht'
  · rw [get_cons, if_neg (by unfold wideKey; omega)]; exact h.wide
/-- The guard of an operation. -/
theorem guard_good {t : Nat} {want : Bool} {yes no' : Sym → Prop} {A B : St} (ht : t < 256) (h : Good M V HV nV (sBoolTup (fun b => bi (beb b want) A B) B (sg t S))) (hs : SR E M.ng S aS)
    (hy : Good M V HV nV A → ∀ aS, SR E M.ng S aS → yes aS) (hn : Good M V HV nV B → ∀ aS, SR E M.ng S aS → no' aS) : guarded (some (t, want)) aS yes no' := by
  obtain ⟨s, hg, hv⟩ := hs.get t ht
  simp only [guarded, hg]
  rcases sBoolTup_ok (Ok := Good M V HV nV) h with ⟨b, he, h1⟩ | ⟨l, he, h1⟩
  · rw [he] at hv
    have hv : s.toV = .bool b := hv
    have nt : ∀ l, s ≠ .v (.tuple l) := fun l e => by subst e; cases hv
    split
    · rename_i l heq
      simp only [Option.some.injEq] at heq
      exact absurd heq (nt l)
    · rename_i s' _ heq
      simp only [Option.some.injEq] at heq
      subst heq
      refine branch_of hv ?_
      have hk := hs.know ht hg hv
      rw [beb_eq] at h1
      cases b <;> cases want
      · exact hy h1 _ hk
      · exact hn h1 _ hk
      · exact hn h1 _ hk
      · exact hy h1 _ hk
    · rename_i heq; cases heq
  · rw [he] at hv
    obtain ⟨vs, _, hv⟩ := hv
    have := toV_v hv (by simp)
    subst this
    exact hn h1 _ hs

theorem exOps_good (hO : OrcOk M) (hG : GdOk M) {f : Nat} {p : Pa} (hN : ntm M.P f = N) : ∀ (l : List SOper) (k : Nat), (opsOf M.P f p).drop k = l → NG M V HV nV st N K X (exOps M f p l k) l
  | [], k, _ => by
    intro S cH n h E Pr aS H hk hs hr
    exact h E Pr N K X aS H hk hs hr
  | o :: r, k, hop => by
    have hr' : (opsOf M.P f p).drop (Nat.succ k) = r := by
      have : (opsOf M.P f p).drop (k + 1) = ((opsOf M.P f p).drop k).drop 1 := by rw [List.drop_drop]
      show (opsOf M.P f p).drop (k + 1) = r
      rw [this, hop]; rfl
    have ih := exOps_good hO hG hN r (Nat.succ k) hr'
    intro S cH n h E Pr aS H hk hs hr
    have yes : ∀ aS, SR E M.ng S aS → Good M V HV nV (un (xop M f p k o (exOps M f p r (Nat.succ k))) st S cH n) → stepOp M.P (CX M.P X) X o.op aS H fun s H' => WPops M.P (CX M.P X) X r (aS.put o.dst s) H' K.norm := by
      intro aS hs h
      unfold xop at h
      cases hop' : o.op with
      | p q =>
        rw [hop'] at h
        obtain ⟨cv, h1, h2⟩ := pop_ok (Ok := Good M V HV nV) (show Good M V HV nV (pop M.ng q S fun v => putd o.dst v S fun S => un (exOps M f p r (Nat.succ k)) st S cH n) from h)
        obtain ⟨S', h3, h4⟩ := putd_ok (Ok := Good M V HV nV) h1
        exact h2 E aS hs _ fun s hv => ih S' cH n h3 E Pr _ H hk (h4 E M.ng aS s hs hv) hr
      | r q =>
        rw [hop'] at h
        obtain ⟨cv, h1, h2⟩ := rop_ok (Ok := Good M V HV nV) (show Good M V HV nV (rop M.ng q S cH fun v => putd o.dst v S fun S => un (exOps M f p r (Nat.succ k)) st S cH n) from h)
        obtain ⟨S', h3, h4⟩ := putd_ok (Ok := Good M V HV nV) h1
        exact h2 E Pr n aS H hs hr _ fun s φ hv _ => ih S' cH n h3 E Pr _ H hk (h4 E M.ng aS s hs hv) hr
      | e q =>
        rw [hop'] at h
        have plain : ∀ q, Good M V HV nV (x_e M.ng q o.dst (exOps M f p r (Nat.succ k)) st S cH n) → esem M.P (CX M.P X) X q aS H fun s H' => WPops M.P (CX M.P X) X r (aS.put o.dst s) H' K.norm := by
          intro q h
          obtain ⟨cv, cH', n', h1, h2⟩ := eop_ok (Ok := Good M V HV nV) h
          obtain ⟨S', h3, h4⟩ := putd_ok (Ok := Good M V HV nV) h1
          exact h2 E Pr aS H hs hr M.P _ X _ fun E' s H' hle hr' hv => ih S' cH' n' h3 E' Pr _ H' (hk.mono hle) (h4 E' M.ng aS s (hs.mono hle) hv) hr'
        cases q with
        | call g args z =>
          obtain ⟨cl, h1, h2⟩ := exL_ok (Ok := Good M V HV nV) (show Good M V HV nV (exL' M.ng args S _) from h)
          obtain ⟨vs, hl, hw⟩ := h2 E aS hs
          exact hw _ (callx_good hO hG h1 hl ih hk hs hr hN hop (by unfold zOf; rw [hop']))
        | callv x args z =>
          obtain ⟨cv, h1, h2⟩ := evx_ok (Ok := Good M V HV nV) (show Good M V HV nV (evx M.ng x S _) from h)
          obtain ⟨g, ca, cc, rfl, h3⟩ := sFn_ok (Ok := Good M V HV nV) h1
          obtain ⟨h4, h5⟩ := bi_ok (Ok := Good M V HV nV) h3
          obtain ⟨cl, h6, h7⟩ := exL_ok (Ok := Good M V HV nV) h5
          obtain ⟨vs, hl, hw⟩ := h7 E aS hs
          obtain ⟨s, e, aas, cs, g1, g2, hv⟩ := h2 E aS hs
          rw [toV_v hv (by simp)] at e
          simp only [stepOp, esem, e]
          have hl3 := LR_append (a := ca) (b := appL cl cc) g1 (LR_append hl g2)
          refine hb_eq h4 (hw _ ?_)
          have := callx_good hO hG h6 hl3 ih hk hs hr hN hop (by unfold zOf; rw [hop'])
          simpa [List.append_assoc] using this
        | panic x =>
          obtain ⟨cv, h1, h2⟩ := evx_ok (Ok := Good M V HV nV) (show Good M V HV nV (evx M.ng x S _) from h)
          rcases sIfc_ok (Ok := Good M V HV nV) h1 with ⟨t, uu, rfl, h3⟩ | ⟨_, h3⟩
          · obtain ⟨s, e, w, hw, hv⟩ := h2 E aS hs
            have hx := unwP_good h3 hk hs hr ⟨w, hw, hv⟩
            rw [toV_v hv (by simp)] at e
            simp only [stepOp, esem, e]
            rw [hv] at hx; exact hx
          · exact h3.elim
        | _ => exact plain _ h
    have no' : ∀ aS, SR E M.ng S aS → Good M V HV nV (x_skip o.dst (exOps M f p r (Nat.succ k)) st S cH n) → WPops M.P (CX M.P X) X r (aS.put o.dst (.v undef)) H K.norm := by
      intro aS hs h
      obtain ⟨S', h3, h4⟩ := putd_ok (Ok := Good M V HV nV) h
      exact ih S' cH n h3 E Pr _ H hk (h4 E M.ng aS (.v undef) hs ⟨[], rfl, rfl⟩) hr
    have h : Good M V HV nV (un (gdx o.guard (xop M f p k o (exOps M f p r (Nat.succ k))) (x_skip o.dst (exOps M f p r (Nat.succ k)))) st S cH n) := h
    simp only [WPops]
    cases hgd : o.guard with
    | none => rw [hgd] at h; exact yes aS hs h
    | some tw =>
      obtain ⟨t, want⟩ := tw
      rw [hgd] at h
      have h : Good M V HV nV (bi (Nat.blt t 256) (sBoolTup (fun b => bi (beb b want) (un (xop M f p k o (exOps M f p r (Nat.succ k))) st S cH n) (x_skip o.dst (exOps M f p r (Nat.succ k)) st S cH n)) (x_skip o.dst (exOps M f p r (Nat.succ k)) st S cH n) (sg t S)) no) := h
      obtain ⟨h1, h2⟩ := bi_ok (Ok := Good M V HV nV) h
      exact guard_good (by simpa using h1) h2 hs (fun h aS hs => yes aS hs h) (fun h aS hs => no' aS hs h)
end
end Go.Ex

namespace Go.Ex
open Go Go.Vc

theorem ceq_ok {E : En} : ∀ {c d : CV}, ceq c d = true → (∀ v v', VR E c v → VR E d v' → v = v') ∧ (∀ vs vs', LR E c vs → LR E d vs' → vs = vs') := by
  intro c
  induction c with
  | int k n =>
    intro d h
    cases d <;> first | (cases h; done) | skip
    rename_i k' n'
    obtain ⟨h1, h2⟩ := an_true.1 (show an (keq k k') (ieq n n') = true from h)
    obtain rfl := keq_eq h1
    obtain rfl := (ieq_eq _ _).1 h2
    exact ⟨fun v v' h1 h2 => Eq.trans h1 (Eq.symm h2), fun vs vs' h1 => h1.elim⟩
  | bool b =>
    intro d h
    cases d <;> first | (cases h; done) | skip
    rename_i b'
    have h : beb b b' = true := h
    rw [beb_eq] at h
    have : b = b' := by simpa using h
    subst this
    exact ⟨fun v v' h1 h2 => Eq.trans h1 (Eq.symm h2), fun vs vs' h1 => h1.elim⟩
  | str n w =>
    intro d h
    cases d <;> first | (cases h; done) | skip
    rename_i n' w'
    obtain ⟨h1, h2⟩ := an_true.1 (show an (Nat.beq n n') (Nat.beq w w') = true from h)
    obtain rfl := Nat.eq_of_beq_eq_true h1
    obtain rfl := Nat.eq_of_beq_eq_true h2
    exact ⟨fun v v' h1 h2 => Eq.trans h1 (Eq.symm h2), fun vs vs' h1 => h1.elim⟩
  | flt w =>
    intro d h
    cases d <;> first | (cases h; done) | skip
    rename_i w'
    obtain rfl := Nat.eq_of_beq_eq_true (show Nat.beq w w' = true from h)
    exact ⟨fun v v' h1 h2 => Eq.trans h1 (Eq.symm h2), fun vs vs' h1 => h1.elim⟩
  | ptr b o =>
    intro d h
    cases d <;> first | (cases h; done) | skip
    rename_i b' o'
    obtain ⟨h1, h2⟩ := an_true.1 (show an (Nat.beq b b') (Nat.beq o o') = true from h)
    obtain rfl := Nat.eq_of_beq_eq_true h1
    obtain rfl := Nat.eq_of_beq_eq_true h2
    refine ⟨?_, fun vs vs' h1 => h1.elim⟩
    rintro v v' ⟨r, q, e1, rfl⟩ ⟨r', q', e2, rfl⟩
    rw [e1] at e2; cases e2; rfl
  | slc b o n c =>
    intro d h
    cases d <;> first | (cases h; done) | skip
    rename_i b' o' n' c'
    obtain ⟨h1, h2⟩ := an_true.1 (show an (Nat.beq b b') (an (Nat.beq o o') (an (Nat.beq n n') (Nat.beq c c'))) = true from h)
    obtain ⟨h2, h3⟩ := an_true.1 h2
    obtain ⟨h3, h4⟩ := an_true.1 h3
    obtain rfl := Nat.eq_of_beq_eq_true h1
    obtain rfl := Nat.eq_of_beq_eq_true h2
    obtain rfl := Nat.eq_of_beq_eq_true h3
    obtain rfl := Nat.eq_of_beq_eq_true h4
    refine ⟨?_, fun vs vs' h1 => h1.elim⟩
    rintro v v' ⟨r, q, e1, rfl, _⟩ ⟨r', q', e2, rfl, _⟩
    rw [e1] at e2; cases e2; rfl
  | slu b o e n =>
    intro d h
    cases d <;> first | (cases h; done) | skip
    rename_i b' o' n' c'
    obtain ⟨h1, h2⟩ := an_true.1 (show an (Nat.beq b b') (an (Nat.beq o o') (an (Nat.beq e n') (Nat.beq n c'))) = true from h)
    obtain ⟨h2, h3⟩ := an_true.1 h2
    obtain ⟨h3, h4⟩ := an_true.1 h3
    obtain rfl := Nat.eq_of_beq_eq_true h1
    obtain rfl := Nat.eq_of_beq_eq_true h2
    obtain rfl := Nat.eq_of_beq_eq_true h3
    obtain rfl := Nat.eq_of_beq_eq_true h4
    refine ⟨?_, fun vs vs' h1 => h1.elim⟩
    rintro v v' ⟨r, q, e1, rfl, _⟩ ⟨r', q', e2, rfl, _⟩
    rw [e1] at e2; cases e2; rfl
  | map b =>
    intro d h
    cases d <;> first | (cases h; done) | skip
    rename_i b'
    obtain rfl := Nat.eq_of_beq_eq_true (show Nat.beq b b' = true from h)
    refine ⟨?_, fun vs vs' h1 => h1.elim⟩
    rintro v v' ⟨r, q, e1, rfl⟩ ⟨r', q', e2, rfl⟩
    rw [e1] at e2; cases e2; rfl
  | fn f a c iha ihc =>
    intro d h
    cases d <;> first | (cases h; done) | skip
    rename_i f' a' c'
    obtain ⟨h1, h2⟩ := an_true.1 (show an (Nat.beq f f') (an (ceq a a') (ceq c c')) = true from h)
    obtain ⟨h2, h3⟩ := an_true.1 h2
    obtain rfl := Nat.eq_of_beq_eq_true h1
    refine ⟨?_, fun vs vs' h1 => h1.elim⟩
    rintro v v' ⟨aas, cs, e1, e2, rfl⟩ ⟨as', cs', e3, e4, rfl⟩
    rw [(iha h2).2 _ _ e1 e3, (ihc h3).2 _ _ e2 e4]
  | ifc t x ih =>
    intro d h
    cases d <;> first | (cases h; done) | skip
    rename_i t' x'
    obtain ⟨h1, h2⟩ := an_true.1 (show an (Nat.beq t t') (ceq x x') = true from h)
    obtain rfl := Nat.eq_of_beq_eq_true h1
    refine ⟨?_, fun vs vs' h1 => h1.elim⟩
    rintro v v' ⟨u, e1, rfl⟩ ⟨u', e2, rfl⟩
    rw [(ih h2).1 _ _ e1 e2]
  | agg l ih =>
    intro d h
    cases d <;> first | (cases h; done) | skip
    rename_i l'
    refine ⟨?_, fun vs vs' h1 => h1.elim⟩
    rintro v v' ⟨u, e1, rfl⟩ ⟨u', e2, rfl⟩
    rw [(ih (show ceq l l' = true from h)).2 _ _ e1 e2]
  | tup l ih =>
    intro d h
    cases d <;> first | (cases h; done) | skip
    rename_i l'
    refine ⟨?_, fun vs vs' h1 => h1.elim⟩
    rintro v v' ⟨u, e1, rfl⟩ ⟨u', e2, rfl⟩
    rw [(ih (show ceq l l' = true from h)).2 _ _ e1 e2]
  | cons a b iha ihb =>
    intro d h
    cases d <;> first | (cases h; done) | skip
    rename_i a' b'
    obtain ⟨h1, h2⟩ := an_true.1 (show an (ceq a a') (ceq b b') = true from h)
    refine ⟨fun v v' h1 => h1.elim, ?_⟩
    rintro v v' ⟨u, r, e1, e2, rfl⟩ ⟨u', r', e3, e4, rfl⟩
    rw [(iha h1).1 _ _ e1 e3, (ihb h2).2 _ _ e2 e4]
  | u => intro d h; cases h
  | sle => intro d h; cases h
  | _ =>
    intro d h
    cases d <;> first | (cases h; done) | exact ⟨fun v v' h1 h2 => Eq.trans h1 (Eq.symm h2), fun vs vs' h1 => h1.elim⟩ | exact ⟨fun v v' h1 => h1.elim, fun vs vs' h1 h2 => Eq.trans h1 (Eq.symm h2)⟩
end Go.Ex

section
/-! Draws of order. -/
namespace Go.Ex
open Go Go.Vc

/-- The facts that are asked again stand now. -/
def FaNow (E : En) (Fm : Fa) (F : List (Nat × (Heap → Prop))) (t : STree) (H : Heap) : Prop :=
  ∀ i φ, (i, φ) ∈ F → wants i t = true → ∃ b o v r q vs, Fm.has i b o v ∧ E b = some (r, q) ∧ LR E v vs ∧ (∀ j u, vs[j]? = some u → hcell H r (o + j) = some u) ∧ ∀ H', (∀ j u, vs[j]? = some u → hcell H' r (o + j) = some u) → φ H'
section
variable {E : En} {Fm : Fa} {F : List (Nat × (Heap → Prop))} {t : STree} {H : Heap}
theorem FaNow.rel (h : FaNow E Fm F t H) : FaRel E Fm F t := fun i φ hi hw => by
  obtain ⟨b, o, v, r, q, vs, h1, h2, h3, _, h5⟩ := h i φ hi hw
  exact ⟨b, o, v, r, q, vs, h1, h2, h3, h5⟩
theorem holds_of : ∀ (F : List (Nat × (Heap → Prop))) (l : List Nat), (∀ i φ, (i, φ) ∈ F → l.contains i = true → φ H) → ∀ Q : Prop, Q → holds F l H Q
  | [], _, _, _, hq => hq
  | (i, φ) :: F, l, h, Q, hq => by
    have ih := holds_of F l (fun i φ hi hl => h i φ (List.mem_cons_of_mem _ hi) hl) Q hq
    unfold holds
    split
    · rename_i e; exact ⟨h i φ List.mem_cons_self e, ih⟩
    · exact ih
theorem FaNow.holds (h : FaNow E Fm F t H) {l : List Nat} (hl : ∀ i, l.contains i = true → wants i t = true) {Q : Prop} (hq : Q) : holds F l H Q :=
  holds_of F l (fun i φ hi hc => by
    obtain ⟨b, o, v, r, q, vs, _, _, _, h4, h5⟩ := h i φ hi (hl i hc)
    exact h5 H h4) Q hq
theorem FaNow.sub (h : FaNow E Fm F t H) {t' : STree} (hw : ∀ i, wants i t' = true → wants i t = true) : FaNow E Fm F t' H := fun i φ hi h' => h i φ hi (hw i h')
theorem FaNow.mono (h : FaNow E Fm F t H) {E' : En} (hl : E.le E') {H' : Heap} (hh : ∀ r o u, hcell H r o = some u → hcell H' r o = some u) : FaNow E' Fm F t H' := fun i φ hi hw => by
  obtain ⟨b, o, v, r, q, vs, h1, h2, h3, h4, h5⟩ := h i φ hi hw
  exact ⟨b, o, v, r, q, vs, h1, hl _ _ h2, h3.mono hl, fun j u hj => hh _ _ _ (h4 j u hj), h5⟩
end

section
variable {Ok : St → Prop} [Okay Ok] {ng : Nat} {S : Sy} {cH : He} {n : Nat}

theorem eqBy_ok {w : Nat} {E : En} : ∀ {v : CV} {o : Nat} {vs : List Value}, eqBy w v o = true → LR E v vs → ∀ (j : Nat) (u : Value), vs[j]? = some u → u = Value.int .u8 (byt (o + j) w : Nat) := by
  intro v
  induction v with
  | nil => intro o vs _ hl j u hj; have hl : vs = [] := hl; subst hl; cases hj
  | cons h t _ ih =>
    intro o vs he hl j u hj
    obtain ⟨x, r, hx, hr, rfl⟩ := hl
    have he : an (bInt (fun k n => an (keq k .u8) (ieq n (.ofNat (byt o w)))) h) (eqBy w t (Nat.succ o)) = true := he
    obtain ⟨h1, h2⟩ := an_true.1 he
    cases j with
    | zero =>
      simp only [List.getElem?_cons_zero, Option.some.injEq] at hj
      subst hj
      cases h with
      | int k n =>
        have h1 : an (keq k .u8) (ieq n (.ofNat (byt o w))) = true := h1
        obtain ⟨g1, g2⟩ := an_true.1 h1
        have hx : x = .int k n := hx
        rw [hx, keq_eq g1, (ieq_eq _ _).1 g2]
        rfl
      | _ => cases h1
    | succ j =>
      have := ih h2 hr j u (by simpa using hj)
      rw [this, show Nat.succ o + j = o + (j + 1) by omega]
  | _ => intro o vs he; cases he
theorem chk_ok {t : STree} : ∀ {F : Fa} {k : St}, Ok (chk t F cH k) → Ok k ∧ ∀ i b o v, F.has i b o v → wants i t = true → ∀ E Pr n H r q vs, E b = some (r, q) → LR E v vs → Rel E Pr n cH H → ∀ j u, vs[j]? = some u → hcell H r (o + j) = some u
  | .nil, k, h => ⟨h, fun i b o v hh => hh.elim⟩
  | .cons i b o v r, k, h => by
    have h : Ok (bi (wants i t) (hget b cH fun x => onBk no (fun _ N t => bi (Nat.ble (Nat.add o (lenL v)) N) (rdL (lenL v) o t fun w => bi (ceq v w) (chk _ r cH k) no) no) (fun _ N w => bi (an (Nat.ble (Nat.add o (lenL v)) N) (eqBy w v o)) (chk _ r cH k) no) (fun _ => no) x) (chk t r cH k)) := h
    cases hw : wants i t with
    | false =>
      rw [hw] at h
      obtain ⟨h1, h2⟩ := chk_ok (F := r) (show Ok (chk t r cH k) from h)
      refine ⟨h1, fun i' b' o' v' hh hw' => ?_⟩
      rcases hh with ⟨rfl, _⟩ | hh
      · rw [hw] at hw'; cases hw'
      · exact h2 i' b' o' v' hh hw'
    | true =>
      rw [hw] at h
      have h : Ok (hget b cH fun x => onBk no (fun _ N t' => bi (Nat.ble (Nat.add o (lenL v)) N) (rdL (lenL v) o t' fun w => bi (ceq v w) (chk t r cH k) no) no) (fun _ N w => bi (an (Nat.ble (Nat.add o (lenL v)) N) (eqBy w v o)) (chk t r cH k) no) (fun _ => no) x) := h
      rw [hget_eq] at h
      rcases onBk_ok h with ⟨m, N, t', hb, h3⟩ | ⟨m, N, w, hb, h3⟩ | ⟨_, _, h3⟩
      · obtain ⟨h4, h5⟩ := bi_ok h3
        have hle : o + lenL v ≤ N := Nat.le_of_ble_eq_true h4
        obtain ⟨l, h6, h7, h8⟩ := rdL_ok h5
        obtain ⟨h9, h10⟩ := bi_ok h6
        obtain ⟨g1, g2⟩ := chk_ok (F := r) h10
        refine ⟨g1, fun i' b' o' v' hh hw' => ?_⟩
        rcases hh with ⟨rfl, rfl, rfl, rfl⟩ | hh
        · intro E Pr n H r' q vs hE hv hr
          have := (hr.blk b r' q hE).2
          rw [hb] at this
          obtain ⟨cs, e', lo, hi, f1, f2, f3, f4, f5⟩ := this
          obtain ⟨vs', f6, f7, f8⟩ := h8 E (fun i v => cs[i]? = some v) (fun i hi => f5 (o + i) (by omega))
          obtain rfl := (ceq_ok h9).2 vs vs' hv f6
          intro j u hj
          rw [hcell_at f1]; exact f8 j u hj
        · exact g2 i' b' o' v' hh hw'
      · obtain ⟨h4, h5⟩ := bi_ok h3
        obtain ⟨h6, h7⟩ := an_true.1 h4
        have hle : o + lenL v ≤ N := Nat.le_of_ble_eq_true h6
        obtain ⟨g1, g2⟩ := chk_ok (F := r) h5
        refine ⟨g1, fun i' b' o' v' hh hw' => ?_⟩
        rcases hh with ⟨rfl, rfl, rfl, rfl⟩ | hh
        · intro E Pr n H r' q vs hE hv hr j u hj
          have := (hr.blk b r' q hE).2
          rw [hb] at this
          obtain ⟨cs, e', lo, hi, f1, f2, f3, f4, f5⟩ := this
          have hlt : j < vs.length := (List.getElem?_eq_some_iff.1 hj).1
          have hl := lenL_ok hv
          rw [hcell_at f1, f5 (o + j) (by omega), eqBy_ok h7 hv j u hj]
        · exact g2 i' b' o' v' hh hw'
      · exact no_ok h3
theorem byC_ok {E : En} (w : Nat) : ∀ (n i : Nat), LR E (byC w n i) ((List.range' i n).map fun j => Value.int .u8 (byt j w : Nat))
  | 0, _ => LR.nil'
  | n + 1, i => by
    rw [List.range'_succ, List.map_cons]
    exact LR.cons' rfl (byC_ok w n (i + 1))
theorem chk_now {t : STree} {F : Fa} {k : St} (h : Ok (chk t F cH k)) : Ok k ∧ ∀ E Pr n H Fs, FaRel E F Fs t → Rel E Pr n cH H → FaNow E F Fs t H := by
  obtain ⟨h1, h2⟩ := chk_ok h
  refine ⟨h1, fun E Pr n H Fs hf hr i φ hi hw => ?_⟩
  obtain ⟨b, o, v, r, q, vs, g1, g2, g3, g4⟩ := hf i φ hi hw
  exact ⟨b, o, v, r, q, vs, g1, g2, g3, h2 i b o v g1 hw E Pr n H r q vs g2 g3 hr, g4⟩
theorem addF_ok {M : Mc} {i : Nat} {q : ROp} {t : STree} {v : CV} {F : Fa} {k : Fa → St} (h : Ok (addF M i q t S v F k)) : ∃ F', Ok (k F') ∧ ∀ E aS H Fs φ, SR E M.ng S aS → FaNow E F Fs t H → RInfo E aS H q v φ → FaNow E F' ((i, φ) :: Fs) t H := by
  unfold addF at h
  cases hw : wants i t with
  | false =>
    rw [hw] at h
    refine ⟨F, h, fun E aS H Fs φ hs hf hi i' φ' hm hw' => ?_⟩
    rcases List.mem_cons.1 hm with e | hm
    · cases e; rw [hw] at hw'; cases hw'
    · exact hf i' φ' hm hw'
  | true =>
    rw [hw] at h
    cases q with
    | load z ag x =>
      obtain ⟨b, o, h1, h2⟩ := exP_ok (show Ok (exP M.ng x S fun b o => k (.cons i b o (cellsV v) F)) from h)
      refine ⟨_, h1, fun E aS H Fs φ hs hf hi i' φ' hm hw' => ?_⟩
      rcases List.mem_cons.1 hm with e | hm
      · cases e
        obtain ⟨r, q', hE, e⟩ := h2 E aS hs
        obtain ⟨vs, g1, g2, g3⟩ := hi r o e
        exact ⟨b, o, _, r, q', vs, .inl ⟨rfl, rfl, rfl, rfl⟩, hE, g1, g2, g3⟩
      · obtain ⟨b', o', v', r, q', vs, g1, g2⟩ := hf i' φ' hm hw'
        exact ⟨b', o', v', r, q', vs, .inr g1, g2⟩
    | b2s x =>
      obtain ⟨sv, h1, h2⟩ := evx_ok (show Ok (evx M.ng x S fun s => sStr (fun n w => sSl (fun b o _ _ => k (.cons i b o (byC w n 0) F)) (fun b o _ _ => k (.cons i b o (byC w n 0) F)) no no s) v) from h)
      obtain ⟨n, w, rfl, h3⟩ := sStr_ok h1
      have fin : ∀ b o, Ok (k (.cons i b o (byC w n 0) F)) → (∀ E x, VR E sv x → ∃ r q l m, E b = some (r, q) ∧ x = .slice (some ⟨r, o, none⟩) l m) → ∃ F', Ok (k F') ∧ ∀ E aS H Fs φ, SR E M.ng S aS → FaNow E F Fs t H → RInfo E aS H (.b2s x) (.str n w) φ → FaNow E F' ((i, φ) :: Fs) t H := by
        intro b o h4 hv
        refine ⟨_, h4, fun E aS H Fs φ hs hf hi i' φ' hm hw' => ?_⟩
        rcases List.mem_cons.1 hm with e | hm
        · cases e
          obtain ⟨s, e, hs2⟩ := h2 E aS hs
          obtain ⟨r, q, l, m, hE, hx⟩ := hv E _ hs2
          rw [toV_v hx (by simp)] at e
          obtain ⟨rfl, g2, g3⟩ := hi n w rfl _ _ _ e
          have hgt : ∀ j u, ((List.range' 0 l).map fun j => Value.int .u8 (byt j w : Nat))[j]? = some u → (byteV l w)[j]? = some u := fun j u hj => by
            have hlt : j < l := by have := (List.getElem?_eq_some_iff.1 hj).1; simpa using this
            rw [byteV_get hlt]
            rw [List.getElem?_map, List.getElem?_range' hlt] at hj
            simpa using hj
          refine ⟨b, o, _, r, q, _, .inl ⟨rfl, rfl, rfl, rfl⟩, hE, byC_ok w l 0, fun j u hj => ?_, fun H' hc => g3 H' ⟨by rw [byteV_length, Nat.mul_one], .inr rfl, fun j u hj => ?_⟩⟩
          · obtain ⟨_, hb, hc⟩ := g2
            exact hc j u (hgt j u hj)
          · refine hc j u ?_
            have hlt : j < l := by have := (List.getElem?_eq_some_iff.1 hj).1; rwa [byteV_length] at this
            rw [byteV_get hlt] at hj
            rw [List.getElem?_map, List.getElem?_range' hlt]
            simpa using hj
        · obtain ⟨b', o', v', r, q', vs, g1, g2⟩ := hf i' φ' hm hw'
          exact ⟨b', o', v', r, q', vs, .inr g1, g2⟩
      rcases sSl_ok h3 with ⟨b, o, l, c, rfl, h4⟩ | ⟨b, o, e, l, rfl, h4⟩ | ⟨rfl, h4⟩ | ⟨rfl, h4⟩
      · exact fin b o h4 fun E x hx => by obtain ⟨r, q, hE, hx, _⟩ := hx; exact ⟨r, q, _, _, hE, hx⟩
      · exact fin b o h4 fun E x hx => by obtain ⟨r, q, hE, hx, _⟩ := hx; exact ⟨r, q, _, _, hE, hx⟩
      · exact no_ok h4
      · exact no_ok h4
    | _ => exact no_ok h
theorem putd_ok2 {d : Option Nat} {v : CV} {S : Sy} {k : Sy → St} (h : Ok (putd d v S k)) :
    ∃ S', Ok (k S') ∧ (∀ E ng aS s, SR E ng S aS → VR E v s.toV → SR E ng S' (aS.put d s)) ∧ (∀ t, t < 256 → some t ≠ d → sg t S' = sg t S) ∧ ∀ t, d = some t → t < 256 ∧ sg t S' = v := by
  cases d with
  | none => exact ⟨S, h, fun E ng aS s hs _ => hs, fun t _ _ => rfl, fun t e => (by cases e)⟩
  | some t =>
    by_cases ht : t < 256
    · obtain ⟨S', h1, h2, h3⟩ := ss_law t v S ht
      refine ⟨S', by rw [← h1 k]; exact h, fun E ng aS s hs hv => ⟨fun t' ht' => ?_, hs.gl, ?_⟩, fun t' ht' hne => h3 t' ht' (fun e => hne (by rw [e])), fun t' e => by cases e; exact ⟨ht, h2⟩⟩
      · show ∃ s', Sym.get ((t, s) :: aS) t' = some s' ∧ _
        rw [get_cons]
        by_cases e : t = t'
        · subst e; rw [if_pos rfl]; exact ⟨s, rfl, by rw [h2]; exact hv⟩
        · rw [if_neg e, h3 t' ht' (fun e' => e e'.symm)]; exact hs.get t' ht'
      · show Sym.get ((t, s) :: aS) wideKey = none
        rw [get_cons, if_neg (by unfold wideKey; omega)]; exact hs.wide
    · have : putd (some t) v S k = no := ss_no t v S k ht
      rw [this] at h; exact no_ok h

/-- What came early has its turn. -/
theorem Rel.adopt {E : En} {Pr : Prt} {H : Heap} (h : Rel E Pr n cH H) {r q : Nat} {bk : Bk} {o : Obj} {cH' : He} (hn : n < 65536) (h1 : hg n cH' = bk) (h2 : ∀ b', b' < 65536 → b' ≠ n → hg b' cH' = hg b' cH)
    (hp : Pr r = some (o, true)) (hb : BR (E.add n r q) q bk (some o)) : Rel (E.add n r q) (fun r' => if r' = r then none else Pr r') (n + 1) cH' H ∧ E.le (E.add n r q) := by
  have hf := h.fresh n (Nat.le_refl _)
  have hle : E.le (E.add n r q) := En.le_add hf
  obtain ⟨p1, p2⟩ := h.pr r o true hp
  have out : ∀ b q, E b ≠ some (r, q) := fun b q hx => by have := (p2 b q hx).1; cases this
  have old : ∀ b x, E.add n r q b = some x → b ≠ n → E b = some x := fun b x hx hne => by
    unfold En.add at hx; rwa [if_neg hne] at hx
  refine ⟨⟨fun b hb => ?_, fun b x hx => ?_, fun b r' q' hx => ?_, fun b b' r' q1 q2 hx hx' hw hd => ?_, fun r' o' s hp' => ?_⟩, hle⟩
  · unfold En.add; rw [if_neg (by omega)]; exact h.fresh b (by omega)
  · by_cases e : b = n
    · omega
    · exact h.small b x (old b x hx e)
  · by_cases e : b = n
    · subst e
      rw [En.add_self] at hx
      cases hx
      exact ⟨(Array.getElem?_eq_some_iff.1 p1).1, by rw [h1, p1]; exact hb⟩
    · have h3 := old _ _ hx e
      obtain ⟨g1, g2⟩ := h.blk b r' q' h3
      exact ⟨g1, by rw [h2 b (h.small _ _ h3) e]; exact g2.mono hle⟩
  · by_cases e : b = n
    · by_cases e' : b' = n
      · omega
      · subst e
        rw [En.add_self] at hx; cases hx
        exact absurd (old _ _ hx' e') (out _ _)
    · by_cases e' : b' = n
      · subst e'
        rw [En.add_self] at hx'; cases hx'
        exact absurd (old _ _ hx e) (out _ _)
      · have h3 := old _ _ hx e
        have h4 := old _ _ hx' e'
        rw [h2 b (h.small _ _ h3) e] at hw
        rw [h2 b' (h.small _ _ h4) e'] at hd
        exact h.inj b b' r' q1 q2 h3 h4 hw hd
  · by_cases e0 : r' = r
    · simp only [if_pos e0] at hp'; cases hp'
    · simp only [if_neg e0] at hp'
      obtain ⟨g1, g2⟩ := h.pr r' o' s hp'
      refine ⟨g1, fun b q' hx => ?_⟩
      by_cases e : b = n
      · subst e; rw [En.add_self] at hx; cases hx; exact absurd rfl e0
      · have h3 := old _ _ hx e
        rw [h2 b (h.small _ _ h3) e]
        exact g2 b q' h3

theorem isAlO_cases {o : SOper} (h : isAlO o = true) : o.guard = none ∧ ((∃ e z, o.op = .e (.alloc e z)) ∨ o.op = .e .mnew ∨ ∃ e size bytes z l c, o.op = .e (.mkslice e size bytes z l c)) := by
  unfold isAlO at h
  split at h
  · rename_i e z h1 h2; exact ⟨h2, .inl ⟨e, z, h1⟩⟩
  · rename_i h1 h2; exact ⟨h2, .inr (.inl h1)⟩
  · rename_i e size bytes z l c h1 h2; exact ⟨h2, .inr (.inr ⟨e, size, bytes, z, l, c, h1⟩)⟩
  · cases h
theorem adopt_ok {o : SOper} {e : EOp} {k : EK} (ha : isAlO o = true) (he : o.op = .e e) (h : Ok (eop ng e S cH n k)) : ∃ cv cH', Ok (k cv cH' (n + 1)) ∧ ∀ E Pr aS H r ob vf, SR E ng S aS → Rel E Pr n cH H → AlR o aS ob vf → Pr r = some (ob, true) →
    ∃ E', E.le E' ∧ Rel E' (fun r' => if r' = r then none else Pr r') (n + 1) cH' H ∧ VR E' cv (vf r) := by
  obtain ⟨_, ⟨t, z, h1⟩ | h1 | ⟨t, size, bytes, z, sl, sc, h1⟩⟩ := isAlO_cases ha
  · rw [h1] at he
    cases he
    obtain ⟨hn, cH', h9, h10, h11⟩ := newB_ok (show Ok (e_alloc ng z S cH n k) from h)
    refine ⟨_, cH', h9, fun E Pr aS H r ob vf hs hr hal hp => ?_⟩
    unfold AlR at hal
    rw [h1] at hal
    obtain ⟨rfl, rfl⟩ := hal
    have hle := En.le_add (r := r) (q := 0) (hr.fresh n (Nat.le_refl _))
    obtain ⟨f1, f2⟩ := hr.adopt (q := 0) hn h10 h11 hp (BR_new rfl fun j u hj => (mkT_get (encL_ok hs.gl z) j u hj).mono hle)
    exact ⟨_, f2, f1, r, 0, En.add_self _ _ _ _, rfl⟩
  · rw [h1] at he
    cases he
    obtain ⟨hn, cH', h9, h10, h11⟩ := newB_ok (show Ok (e_mnew S cH n k) from h)
    refine ⟨_, cH', h9, fun E Pr aS H r ob vf hs hr hal hp => ?_⟩
    unfold AlR at hal
    rw [h1] at hal
    obtain ⟨rfl, rfl⟩ := hal
    obtain ⟨f1, f2⟩ := hr.adopt (q := 0) hn h10 h11 hp ⟨[], ⟨#[], 0, rfl, rfl, MapKept.stamped_empty 0⟩, List.nodup_nil, fun n => (by simp [lk])⟩
    exact ⟨_, f2, f1, r, 0, En.add_self _ _ _ _, rfl⟩
  · rw [h1] at he
    cases he
    obtain ⟨j, l', g1, g2⟩ := exI_ok (show Ok (e_mkslice ng size bytes z sl sc S cH n k) from h)
    obtain ⟨j', c', g3, g4⟩ := exI_ok g1
    obtain ⟨l, rfl, g5⟩ := onNat_ok g3
    obtain ⟨c, rfl, g6⟩ := onNat_ok g5
    obtain ⟨g7, g8⟩ := bi_ok g6
    obtain ⟨a1, a2⟩ := an_true.1 g7
    obtain ⟨a2, a3⟩ := an_true.1 a2
    have hz := Nat.eq_of_beq_eq_true a1
    have hlc := Nat.le_of_ble_eq_true a2
    obtain ⟨hn, cH', h9, h10, h11⟩ := newB_ok g8
    refine ⟨_, cH', h9, fun E Pr aS H r ob vf hs hr hal hp => ?_⟩
    unfold AlR at hal
    rw [h1] at hal
    obtain ⟨k1, k2, n1, m1, e1, e2, _, _, _, rfl, rfl⟩ := hal
    rw [g2 E aS hs] at e1
    rw [g4 E aS hs] at e2
    simp only [Option.some.injEq, SV.v.injEq, Value.int.injEq, Int.natCast_inj] at e1 e2
    obtain ⟨rfl, rfl⟩ := e1
    obtain ⟨rfl, rfl⟩ := e2
    have hle := En.le_add (r := r) (q := 0) (hr.fresh n (Nat.le_refl _))
    obtain ⟨f1, f2⟩ := hr.adopt (q := 0) hn h10 h11 hp ((zeroB_ok (c := c) hs.gl hz).mono hle).br
    exact ⟨_, f2, f1, r, 0, En.add_self _ _ _ _, rfl, hlc⟩
theorem al_sem {o : SOper} {e : EOp} (ha : isAlO o = true) (he : o.op = .e e) {P : Program} {C : CallP} {X : Value → Heap → Prop} {aS : Sym} {H : Heap} {ob : Obj} {vf : Nat → Value} (hal : AlR o aS ob vf) {K : SV → Heap → Prop} (h : K (.v (vf H.size)) (H.push ob)) : esem P C X e aS H K := by
  unfold AlR at hal
  obtain ⟨_, ⟨t, z, h1⟩ | h1 | ⟨t, size, bytes, z, sl, sc, h1⟩⟩ := isAlO_cases ha
  · rw [h1] at he hal
    cases he
    obtain ⟨rfl, rfl⟩ := hal
    simp only [esem]
    rintro b H' ⟨rfl, rfl⟩
    exact h
  · rw [h1] at he hal
    cases he
    obtain ⟨rfl, rfl⟩ := hal
    simp only [esem]
    rintro b H' ⟨rfl, rfl⟩
    exact h
  · rw [h1] at he hal
    cases he
    obtain ⟨k1, k2, n1, m1, e1, e2, hz, hlc, hbc, rfl, rfl⟩ := hal
    simp only [esem, withI, e1, e2]
    refine ⟨by omega, by omega, by rw [← Int.natCast_mul]; omega, ?_⟩
    rintro b H' ⟨rfl, rfl⟩
    rw [Int.toNat_natCast, Int.toNat_natCast]
    exact h
/-- It may be done as the temps stand. -/
def Rdy (ng : Nat) (o : SOper) (S : Sy) : Prop := ∀ E aS, SR E ng S aS → ∃ ob vf, AlR o aS ob vf
theorem rdy_ok {o : SOper} {k : St} (ha : isAlO o = true) (h : Ok (un (rdyB ng o) S k)) : Ok k ∧ Rdy ng o S := by
  obtain ⟨_, ⟨t, z, h1⟩ | h1 | ⟨t, size, bytes, z, sl, sc, h1⟩⟩ := isAlO_cases ha
  · unfold rdyB at h
    rw [h1] at h
    exact ⟨h, fun E aS _ => by unfold AlR; rw [h1]; exact ⟨_, _, rfl, rfl⟩⟩
  · unfold rdyB at h
    rw [h1] at h
    exact ⟨h, fun E aS _ => by unfold AlR; rw [h1]; exact ⟨_, _, rfl, rfl⟩⟩
  · unfold rdyB at h
    rw [h1] at h
    obtain ⟨j, l', g1, g2⟩ := exI_ok (show Ok (k_mks ng size bytes z sl sc S k) from h)
    obtain ⟨j', c', g3, g4⟩ := exI_ok g1
    obtain ⟨l, rfl, g5⟩ := onNat_ok g3
    obtain ⟨c, rfl, g6⟩ := onNat_ok g5
    obtain ⟨g7, g8⟩ := bi_ok g6
    obtain ⟨a1, a2⟩ := an_true.1 g7
    obtain ⟨a2, a3⟩ := an_true.1 a2
    refine ⟨g8, fun E aS hs => ?_⟩
    unfold AlR
    rw [h1]
    exact ⟨_, _, j, j', l, c, g2 E aS hs, g4 E aS hs, Nat.eq_of_beq_eq_true a1, Nat.le_of_ble_eq_true a2, Nat.le_of_ble_eq_true a3, rfl, rfl⟩
theorem SR.ext {E : En} {aS : Sym} (h : SR E ng S aS) {S' : Sy} (hS : ∀ t, t < 256 → sg t S' = sg t S) : SR E ng S' aS :=
  ⟨fun t ht => by rw [hS t ht]; exact h.get t ht, h.gl, h.wide⟩
theorem prep1 : ∀ {l : List SOper} {S : Sy} {k : Sy → St}, (∀ o ∈ l, isAlO o = true) → Ok (prep ng l S k) → ∃ S', Ok (k S') ∧ (∀ o ∈ l, ∀ d, o.dst = some d → d < 256 ∧ sg d S' = .u) ∧ ∀ d, d < 256 → sg d S' = sg d S ∨ (sg d S' = .u ∧ d ∈ l.filterMap (·.dst))
  | [], S, k, _, h => ⟨S, h, fun o ho => (by cases ho), fun d _ => .inl rfl⟩
  | o :: l, S, k, ha, h => by
    obtain ⟨h1, _⟩ := rdy_ok (ha o List.mem_cons_self) (show Ok (un (rdyB ng o) S (putd o.dst .u S fun S => prep ng l S k)) from h)
    obtain ⟨S1, g1, _, g3, g4⟩ := putd_ok2 h1
    obtain ⟨S2, f1, f2, f3⟩ := prep1 (fun o ho => ha o (List.mem_cons_of_mem _ ho)) g1
    have sub : ∀ d, d ∈ l.filterMap (·.dst) → d ∈ (o :: l).filterMap (·.dst) := fun d hd => by
      obtain ⟨x, hx, e⟩ := List.mem_filterMap.1 hd
      exact List.mem_filterMap.2 ⟨x, List.mem_cons_of_mem _ hx, e⟩
    refine ⟨S2, f1, fun o' ho' d hd => ?_, fun d hd => ?_⟩
    · rcases List.mem_cons.1 ho' with rfl | ho'
      · obtain ⟨e1, e2⟩ := g4 d hd
        refine ⟨e1, ?_⟩
        rcases f3 d e1 with e | e
        · rw [e, e2]
        · exact e.1
      · exact f2 o' ho' d hd
    · rcases f3 d hd with e | e
      · by_cases e' : o.dst = some d
        · exact .inr ⟨by rw [e, (g4 d e').2], List.mem_filterMap.2 ⟨o, List.mem_cons_self, e'⟩⟩
        · exact .inl (by rw [e, g3 d hd (fun e2 => e' e2.symm)])
      · exact .inr ⟨e.1, sub d e.2⟩
theorem prep2 : ∀ {l : List SOper} {S : Sy} {k : Sy → St}, (∀ o ∈ l, isAlO o = true) → (∀ o ∈ l, ∀ d, o.dst = some d → d < 256 ∧ sg d S = .u) → Ok (prep ng l S k) → ∃ S', Ok (k S') ∧ (∀ d, d < 256 → sg d S' = sg d S) ∧ ∀ o ∈ l, Rdy ng o S
  | [], S, k, _, _, h => ⟨S, h, fun d _ => rfl, fun o ho => (by cases ho)⟩
  | o :: l, S, k, ha, hu, h => by
    obtain ⟨h1, hr⟩ := rdy_ok (ha o List.mem_cons_self) (show Ok (un (rdyB ng o) S (putd o.dst .u S fun S => prep ng l S k)) from h)
    obtain ⟨S1, g1, _, g3, g4⟩ := putd_ok2 h1
    have e1 : ∀ d, d < 256 → sg d S1 = sg d S := fun d hd => by
      by_cases e : o.dst = some d
      · rw [(g4 d e).2, (hu o List.mem_cons_self d e).2]
      · exact g3 d hd (fun e2 => e e2.symm)
    obtain ⟨S2, f1, f2, f3⟩ := prep2 (fun o ho => ha o (List.mem_cons_of_mem _ ho)) (fun o' ho' d hd => by
      obtain ⟨h1, h2⟩ := hu o' (List.mem_cons_of_mem _ ho') d hd
      exact ⟨h1, by rw [e1 d h1]; exact h2⟩) g1
    refine ⟨S2, f1, fun d hd => by rw [f2 d hd, e1 d hd], fun o' ho' => ?_⟩
    rcases List.mem_cons.1 ho' with rfl | ho'
    · exact hr
    · exact fun E aS hs => f3 o' ho' E aS (hs.ext e1)
end
end Go.Ex
end

section
/-! Draws of order: every order that may be drawn comes to what the machine does. -/
namespace Go.Ex
open Go Go.Vc

theorem isD_false {d : Option Nat} {pd : List Pe} (h : isD d (dsts' pd) = false) : ∀ x ∈ pd, (∀ t, x.2.1 = some t → d ≠ some t) ∧ ∀ t ∈ x.2.2, d ≠ some t := by
  intro x hx
  have key : ∀ t, t ∈ x.2.1.toList ++ x.2.2 → d ≠ some t := by
    rintro t ht rfl
    unfold isD dsts' at h
    have : t ∈ pd.flatMap (fun x => x.2.1.toList ++ x.2.2) := List.mem_flatMap.2 ⟨x, hx, ht⟩
    have h : (pd.flatMap (fun x => x.2.1.toList ++ x.2.2)).contains t = false := h
    rw [List.contains_eq_mem, decide_eq_false_iff_not] at h
    exact h this
  exact ⟨fun t ht => key t (List.mem_append_left _ (by rw [ht]; simp)), fun t ht => key t (List.mem_append_right _ ht)⟩
theorem mem_less {d : Option Nat} {w : List Nat} {t : Nat} (h : t ∈ less d w) : t ∈ w ∧ some t ≠ d := by
  cases d with
  | none => exact ⟨h, by simp⟩
  | some d =>
    unfold less at h
    simp only [List.mem_filter] at h
    refine ⟨h.1, fun e => ?_⟩
    cases e
    simp at h

section
variable {M : Mc} {V : CV} {HV : He} {nV : Nat} {E : En} {Pr Pr0 : Prt} {st : Stk} {N : Nat} {K : Kont} {X : HP} {S : Sy} {aS : Sym} {cH : He} {n : Nat} {H : Heap} {ops : Array Oper} {f : Nat} {p : Pa}

/-- What stands while a region draws. -/
structure DInv (M : Mc) (V : CV) (HV : He) (nV : Nat) (st : Stk) (N : Nat) (K : Kont) (X : HP) (ops : Array Oper) (E : En) (Pr Pr0 : Prt) (Fm : Fa) (S : Sy) (cH : He) (n : Nat) (aS : Sym) (H : Heap) (Fs : List (Nat × (Heap → Prop)))
    (pd : List (Pe × Nat)) (w rd : List Nat) (t : STree) : Prop where
  kr : KR M V HV nV E Pr0 st N K X
  sr : SR E M.ng S aS
  rel : Rel E Pr n cH H
  pd : PdOk (core M.P N ops) Pr Pr0 aS S pd
  w : ∀ d, d ∈ w → d < 256 ∧ sg d S = .u
  rd : ∀ i, i ∈ rd → ∃ o, core M.P N ops i = some o ∧ Rdy M.ng o S
  fa : FaNow E Fm Fs t H
def DG (M : Mc) (V : CV) (HV : He) (nV : Nat) (st : Stk) (N : Nat) (K : Kont) (X : HP) (ops : Array Oper) (next : ND) (pd0 : List Pe) (w rd : List Nat) (t tb : STree) : Prop :=
  ∀ Fm S cH n, Good M V HV nV (un next Fm st S cH n) → ∀ E Pr Pr0 aS H Fs pd, pd.map (·.1) = pd0 → DInv M V HV nV st N K X ops E Pr Pr0 Fm S cH n aS H Fs pd w rd t → WPdraw M.P (CX M.P X) X tb aS H Fs K.norm

theorem PdOk.put {co : Nat → Option SOper} {pd : List (Pe × Nat)} {S' : Sy} {d : Option Nat} {s : SV} (h : PdOk co Pr Pr0 aS S pd) (hd : isD d (dsts' (pd.map (·.1))) = false) (hS : ∀ t, t < 256 → some t ≠ d → sg t S' = sg t S) :
    PdOk co Pr Pr0 (aS.put d s) S' pd := by
  refine ⟨fun x hx => ?_, h.rest, h.nd, h.dn⟩
  obtain ⟨o, ob, vf, h1, h2, h3, h3', h4, h5, h6⟩ := h.each x hx
  obtain ⟨k1, k2⟩ := isD_false hd x.1 (List.mem_map_of_mem hx)
  have hput : ∀ t, d ≠ some t → (aS.put d s).get t = aS.get t := fun t hne => by
    cases d with
    | none => rfl
    | some d =>
      show Sym.get ((d, s) :: aS) t = _
      rw [get_cons, if_neg (fun e => hne (by rw [e]))]
  refine ⟨o, ob, vf, h1, h2, h3, h3'.same fun t ht j n _ => hput t (k2 t (by rw [← h2]; exact ht)), h4, h5, fun t ht => ?_⟩
  obtain ⟨g1, g2, g3⟩ := h6 t ht
  have hne : d ≠ some t := k1 t (by rw [← h2]; exact ht)
  exact ⟨g1, by rw [hput t hne]; exact g2, by rw [hS t g1 (fun e => hne e.symm)]; exact g3⟩
theorem PdOk.same {co : Nat → Option SOper} {pd : List (Pe × Nat)} {S' : Sy} {aS' : Sym} (h : PdOk co Pr Pr0 aS S pd) (ha : ∀ d, d < 256 → sg d S = .u → aS'.get d = aS.get d) (hi : ∀ t j n, aS.get t = some (.v (.int j n)) → aS'.get t = aS.get t) (hS : ∀ t, t < 256 → sg t S' = sg t S ∨ sg t S' = .u) :
    PdOk co Pr Pr0 aS' S' pd := by
  refine ⟨fun x hx => ?_, h.rest, h.nd, h.dn⟩
  obtain ⟨o, ob, vf, h1, h2, h3, h3', h4, h5, h6⟩ := h.each x hx
  refine ⟨o, ob, vf, h1, h2, h3, h3'.same fun t _ j n e => hi t j n e, h4, h5, fun t ht => ?_⟩
  obtain ⟨g1, g2, g3⟩ := h6 t ht
  refine ⟨g1, by rw [ha t g1 g3]; exact g2, ?_⟩
  rcases hS t g1 with e | e
  · rw [e]; exact g3
  · exact e
theorem SR.wiped (h : SR E M.ng S aS) {S' : Sy} (hS : ∀ t, t < 256 → sg t S' = sg t S ∨ sg t S' = .u) : SR E M.ng S' aS := by
  refine ⟨fun t ht => ?_, h.gl, h.wide⟩
  obtain ⟨s, h1, h2⟩ := h.get t ht
  refine ⟨s, h1, ?_⟩
  rcases hS t ht with e | e
  · rw [e]; exact h2
  · rw [e]; exact VR.u

/-- The guard of an operation that is drawn. -/
theorem guardD_good {t : Nat} {want : Bool} {yes no' : Sym → Prop} {A B : St} (ht : t < 256) (h : Good M V HV nV (sBoolTup (fun b => bi (beb b want) A B) B (sg t S))) (hs : SR E M.ng S aS)
    (hy : Good M V HV nV A → ∀ aS', SR E M.ng S aS' → (∀ d, d < 256 → sg d S = .u → aS'.get d = aS.get d) → (∀ t j n, aS.get t = some (.v (.int j n)) → aS'.get t = aS.get t) → yes aS') (hn : Good M V HV nV B → ∀ aS', SR E M.ng S aS' → (∀ d, d < 256 → sg d S = .u → aS'.get d = aS.get d) → (∀ t j n, aS.get t = some (.v (.int j n)) → aS'.get t = aS.get t) → no' aS') : guarded (some (t, want)) aS yes no' := by
  obtain ⟨s, hg, hv⟩ := hs.get t ht
  simp only [guarded, hg]
  rcases sBoolTup_ok (Ok := Good M V HV nV) h with ⟨b, he, h1⟩ | ⟨l, he, h1⟩
  · have hne : ∀ d, d < 256 → sg d S = .u → Sym.get ((t, .b b) :: aS) d = aS.get d := fun d _ hd => by
      rw [get_cons, if_neg]
      intro e; subst e; rw [he] at hd; cases hd
    rw [he] at hv
    have hv : s.toV = .bool b := hv
    have hni : ∀ t' j n, aS.get t' = some (.v (.int j n)) → Sym.get ((t, .b b) :: aS) t' = aS.get t' := fun t' j n h' => by
      rw [get_cons, if_neg]
      intro e; subst e
      rw [hg] at h'
      cases h'
      cases hv
    have nt : ∀ l, s ≠ .v (.tuple l) := fun l e => by subst e; cases hv
    split
    · rename_i l heq
      simp only [Option.some.injEq] at heq
      exact absurd heq (nt l)
    · rename_i s' _ heq
      simp only [Option.some.injEq] at heq
      subst heq
      refine branch_of hv ?_
      have hk := hs.know ht hg hv
      rw [beb_eq] at h1
      cases b <;> cases want
      · exact hy h1 _ hk hne hni
      · exact hn h1 _ hk hne hni
      · exact hn h1 _ hk hne hni
      · exact hy h1 _ hk hne hni
    · rename_i heq; cases heq
  · rw [he] at hv
    obtain ⟨vs, _, hv⟩ := hv
    have := toV_v hv (by simp)
    subst this
    exact hn h1 _ hs (fun _ _ _ => rfl) fun _ _ _ _ => rfl

/-- Behind an operation that is drawn. -/
theorem putD_good {next : ND} {pd0 : List Pe} {w : List Nat} {r tb : STree} {o : SOper} {cv : CV} {Fm : Fa} {Fs : List (Nat × (Heap → Prop))} {pd : List (Pe × Nat)} {s : SV}
    (h : Good M V HV nV (putd o.dst cv S fun S => un next Fm st S cH n)) (hn : DG M V HV nV st N K X ops next pd0 (less o.dst w) [] r tb) (he : pd.map (·.1) = pd0) (hd : isD o.dst (dsts' pd0) = false)
    (hk : KR M V HV nV E Pr0 st N K X) (hs : SR E M.ng S aS) (hr : Rel E Pr n cH H) (hp : PdOk (core M.P N ops) Pr Pr0 aS S pd) (hw : ∀ d, d ∈ less o.dst w → d < 256 ∧ sg d S = .u) (hf : FaNow E Fm Fs r H) (hv : VR E cv s.toV) :
    WPdraw M.P (CX M.P X) X tb (aS.put o.dst s) H Fs K.norm := by
  obtain ⟨S', h1, h2, h3, h4⟩ := putd_ok2 (Ok := Good M V HV nV) h
  refine hn Fm S' cH n h1 E Pr Pr0 _ H Fs pd he ⟨hk, h2 E M.ng aS s hs hv, hr, hp.put (by rw [he]; exact hd) h3, fun d hd' => ?_, fun i hi => (by cases hi), hf⟩
  obtain ⟨g1, g2⟩ := hw d hd'
  exact ⟨g1, by rw [h3 d g1 (mem_less hd').2]; exact g2⟩
theorem afterD_good {next : ND} {pd0 : List Pe} {w : List Nat} {r tb : STree} {o : SOper} {z : Value} {cv : CV} {v : Value} {Fm : Fa} {Fs : List (Nat × (Heap → Prop))} {pd : List (Pe × Nat)}
    (h : Good M V HV nV (afterD z (.op o r) o.dst next Fm S st cv cH n)) (hn : DG M V HV nV st N K X ops next pd0 (less o.dst w) [] r tb) (he : pd.map (·.1) = pd0) (hd : isD o.dst (dsts' pd0) = false)
    (hk : KR M V HV nV E Pr0 st N K X) (hs : SR E M.ng S aS) (hr : Rel E Pr n cH H) (hp : PdOk (core M.P N ops) Pr Pr0 aS S pd) (hw : ∀ d, d ∈ less o.dst w → d < 256 ∧ sg d S = .u) (hf : FaRel E Fm Fs (.op o r)) (hv : VR E cv v) :
    exR z v fun v => holds Fs o.keep H (WPdraw M.P (CX M.P X) X tb (aS.put o.dst (.v v)) H Fs K.norm) := by
  obtain ⟨h1, h2⟩ := bi_ok (Ok := Good M V HV nV) h
  obtain ⟨h3, h4⟩ := chk_now (Ok := Good M V HV nV) h2
  have hf' := h4 E Pr n H Fs hf hr
  refine fitR_ok h1 hv _ (hf'.holds (fun i hi => by simp only [wants, hi, Bool.true_or]) ?_)
  exact putD_good (s := .v v) h3 hn he hd hk hs hr hp hw (hf'.sub fun i hi => by simp only [wants, hi, Bool.or_true]) hv

/-- What an operation does that is drawn. -/
def opD (P : Program) (C : CallP) (Xp : Value → Heap → Prop) (o : SOper) (tb : STree) (S : Sym) (H : Heap) (F : List (Nat × (Heap → Prop))) (K : Sym → Heap → Prop) : Prop :=
  match o.op with
  | .p q => psem q S fun s => WPdraw P C Xp tb (S.put o.dst s) H F K
  | .r q => rsem q S H fun s φ => WPdraw P C Xp tb (S.put o.dst s) H ((o.idx, φ) :: F) K
  | .e q => esem P C Xp q S H fun s H' => holds F o.keep H' (WPdraw P C Xp tb (S.put o.dst s) H' F K)
theorem WPdraw_op {P : Program} {C : CallP} {Xp : Value → Heap → Prop} {o : SOper} {tb : STree} {S : Sym} {H : Heap} {F : List (Nat × (Heap → Prop))} {K : Sym → Heap → Prop} :
    WPdraw P C Xp (.op o tb) S H F K = guarded o.guard S (fun S => opD P C Xp o tb S H F K) (fun S => WPdraw P C Xp tb (S.put o.dst (.v undef)) H F K) := rfl

theorem callD_good (hO : OrcOk M) {g fuel id : Nat} {q : Pa} {l : CV} {z : Value} {o : SOper} {r tb : STree} {pd0 : List Pe} {w rd : List Nat} {next : ND} {Fm : Fa} {Fs : List (Nat × (Heap → Prop))} {pd : List (Pe × Nat)}
    (h : Good M V HV nV (cally M g l (.waitd f p q g S Fm) st cH n (afterD z (.op o r) o.dst next Fm S st))) {vs : List Value} (hl : LR E l vs)
    (hc : codeAt M.P f p = .region id ops true) (ht : treeAt M.P f p q = .op o r) (hN : ntm M.P f = N) (hz : zOf o = some z) (hT : TW M.P N ops r) (hT' : TW M.P N ops tb) (hdk : dck fuel pd0 (less o.dst w) [] r tb = true)
    (hn : DG M V HV nV st N K X ops next pd0 (less o.dst w) [] r tb) (he : pd.map (·.1) = pd0) (hd : isD o.dst (dsts' pd0) = false) (hi : DInv M V HV nV st N K X ops E Pr Pr0 Fm S cH n aS H Fs pd w rd (.op o r)) :
    DoesX M.P g vs H (fun v H' => exR z v fun v => holds Fs o.keep H' (WPdraw M.P (CX M.P X) X tb (aS.put o.dst (.v v)) H' Fs K.norm)) X := by
  unfold cally at h
  have hw : ∀ d, d ∈ less o.dst w → d < 256 ∧ sg d S = .u := fun d hd' => hi.w d (mem_less hd').1
  cases hb : Nat.beq g M.G.fn with
  | true => rw [hb] at h; exact no_ok (Ok := Good M V HV nV) h
  | false =>
    rw [hb] at h
    have h : Good M V HV nV (callp M g l (.waitd f p q g S Fm) st cH n (afterD z (.op o r) o.dst next Fm S st)) := h
    unfold callp at h
    cases ho : M.O g with
    | none =>
      rw [ho] at h
      subst he
      exact goin_good h hl hi.sr.gl hi.rel fun rs hrs => .waitd hi.kr hi.sr hrs hN hc ht hz hdk hT hT' hi.pd hd (fun d hd' => ⟨(hw d hd').1, (mem_less hd').2, (hw d hd').2⟩) hi.fa.rel
    | some orc =>
      rw [ho] at h
      obtain ⟨cv, cH', n', h1, h2⟩ := hO g orc ho (Good M V HV nV) l cH n _ h
      refine (h2 E Pr H vs hi.sr.gl hl hi.rel X).mono ?_ (fun _ _ h => h)
      rintro v H' ⟨E', g1, g2, g3⟩
      exact afterD_good h1 hn he hd (hi.kr.mono g1) (hi.sr.mono g1) g2 hi.pd hw (hi.fa.rel.mono g1) g3

theorem dop_good (hO : OrcOk M) {fuel id : Nat} {q : Pa} {o : SOper} {r tb : STree} {pd0 : List Pe} {w rd : List Nat} {next : ND} {Fm : Fa} {Fs : List (Nat × (Heap → Prop))} {pd : List (Pe × Nat)}
    (h : Good M V HV nV (un (dop M f p q o r next) Fm st S cH n))
    (hc : codeAt M.P f p = .region id ops true) (ht : treeAt M.P f p q = .op o r) (hN : ntm M.P f = N) (hT : TW M.P N ops r) (hT' : TW M.P N ops tb) (hdk : dck fuel pd0 (less o.dst w) [] r tb = true)
    (hn : DG M V HV nV st N K X ops next pd0 (less o.dst w) [] r tb) (he : pd.map (·.1) = pd0) (hd : isD o.dst (dsts' pd0) = false) (hi : DInv M V HV nV st N K X ops E Pr Pr0 Fm S cH n aS H Fs pd w rd (.op o r)) :
    opD M.P (CX M.P X) X o tb aS H Fs K.norm := by
  have hw : ∀ d, d ∈ less o.dst w → d < 256 ∧ sg d S = .u := fun d hd' => hi.w d (mem_less hd').1
  have sub : ∀ i, wants i r = true → wants i (.op o r) = true := fun i hi => by simp only [wants, hi, Bool.or_true]
  unfold dop at h
  unfold opD
  cases hop' : o.op with
  | p q' =>
    rw [hop'] at h
    obtain ⟨cv, h1, h2⟩ := pop_ok (Ok := Good M V HV nV) (show Good M V HV nV (pop M.ng q' S fun v => putd o.dst v S fun S => un next Fm st S cH n) from h)
    exact h2 E aS hi.sr _ fun s hv => putD_good h1 hn he hd hi.kr hi.sr hi.rel hi.pd hw (hi.fa.sub sub) hv
  | r q' =>
    rw [hop'] at h
    obtain ⟨cv, h1, h2⟩ := rop_ok (Ok := Good M V HV nV) (show Good M V HV nV (rop M.ng q' S cH fun v => addF M o.idx q' r S v Fm fun F => putd o.dst v S fun S => un next F st S cH n) from h)
    obtain ⟨F', h3, h4⟩ := addF_ok (Ok := Good M V HV nV) h1
    exact h2 E Pr n aS H hi.sr hi.rel _ fun s φ hv hφ => putD_good h3 hn he hd hi.kr hi.sr hi.rel hi.pd hw (h4 E aS H Fs φ hi.sr (hi.fa.sub sub) hφ) hv
  | e q' =>
    rw [hop'] at h
    have plain : ∀ q', Good M V HV nV (d_e M.ng q' (.op o r) o.dst next Fm st S cH n) → esem M.P (CX M.P X) X q' aS H fun s H' => holds Fs o.keep H' (WPdraw M.P (CX M.P X) X tb (aS.put o.dst s) H' Fs K.norm) := by
      intro q' h
      obtain ⟨cv, cH', n', h1, h2⟩ := eop_ok (Ok := Good M V HV nV) h
      obtain ⟨h3, h4⟩ := chk_now (Ok := Good M V HV nV) h1
      refine h2 E Pr aS H hi.sr hi.rel M.P _ X _ fun E' s H' hle hr' hv => ?_
      have hf' := h4 E' Pr n' H' Fs (hi.fa.rel.mono hle) hr'
      exact hf'.holds (fun i hi => by simp only [wants, hi, Bool.true_or]) (putD_good h3 hn he hd (hi.kr.mono hle) (hi.sr.mono hle) hr' hi.pd hw (hf'.sub sub) hv)
    cases q' with
    | call g args z =>
      obtain ⟨cl, h1, h2⟩ := exL_ok (Ok := Good M V HV nV) (show Good M V HV nV (exL' M.ng args S _) from h)
      obtain ⟨vs, hl, hw'⟩ := h2 E aS hi.sr
      exact hw' _ (callD_good hO h1 hl hc ht hN (by unfold zOf; rw [hop']) hT hT' hdk hn he hd hi)
    | callv x args z =>
      obtain ⟨cv, h1, h2⟩ := evx_ok (Ok := Good M V HV nV) (show Good M V HV nV (evx M.ng x S _) from h)
      obtain ⟨g, ca, cc, rfl, h3⟩ := sFn_ok (Ok := Good M V HV nV) h1
      obtain ⟨h4, h5⟩ := bi_ok (Ok := Good M V HV nV) h3
      obtain ⟨cl, h6, h7⟩ := exL_ok (Ok := Good M V HV nV) h5
      obtain ⟨vs, hl, hw'⟩ := h7 E aS hi.sr
      obtain ⟨s, e, aas, cs, g1, g2, hv⟩ := h2 E aS hi.sr
      rw [toV_v hv (by simp)] at e
      simp only [esem, e]
      have hl3 := LR_append (a := ca) (b := appL cl cc) g1 (LR_append hl g2)
      refine hb_eq h4 (hw' _ ?_)
      have := callD_good hO h6 hl3 hc ht hN (by unfold zOf; rw [hop']) hT hT' hdk hn he hd hi
      simpa [List.append_assoc] using this
    | panic x =>
      obtain ⟨cv, h1, h2⟩ := evx_ok (Ok := Good M V HV nV) (show Good M V HV nV (evx M.ng x S _) from h)
      rcases sIfc_ok (Ok := Good M V HV nV) h1 with ⟨t, uu, rfl, h3⟩ | ⟨_, h3⟩
      · obtain ⟨s, e, w, hw, hv⟩ := h2 E aS hi.sr
        have hx := unwP_good h3 hi.kr hi.sr (hi.rel.weak hi.pd.le) ⟨w, hw, hv⟩
        rw [toV_v hv (by simp)] at e
        simp only [esem, e]
        rw [hv] at hx; exact hx
      · exact h3.elim
    | _ => exact plain _ h
end
end Go.Ex
end

section
/-! Draws of order: every order that may be drawn comes to what the machine does. -/
namespace Go.Ex
open Go Go.Vc

section
variable {P : Program} {N : Nat} {ops : Array Oper}
theorem TW_pick : ∀ {t : STree}, TW P N ops t → TW P N ops (pick t)
  | .nil, h => h
  | .op _ _, h => h
  | .alt a b, h => by
    unfold pick
    split
    · exact TW_pick h.2
    · exact TW_pick h.1
theorem wants_pick {i : Nat} : ∀ {t : STree}, wants i (pick t) = true → wants i t = true
  | .nil, h => h
  | .op _ _, h => h
  | .alt a b, h => by
    unfold pick at h
    unfold wants
    split at h
    · rw [wants_pick h, Bool.or_true]
    · rw [wants_pick h, Bool.true_or]
theorem same_op {a b : SOper} {r r' : STree} (ha : TW P N ops (.op a r)) (hb : TW P N ops (.op b r')) (hi : a.idx = b.idx) (hk : a.keep = b.keep) : a = b := by
  have h1 := ha.1
  have h2 := hb.1
  rw [hi, h2] at h1
  cases a; cases b
  simp only [Option.some.injEq, SOper.mk.injEq] at h1 hi hk ⊢
  simp_all
end
theorem erase_pd {pd : List (Pe × Nat)} {x : Pe} (h : x ∈ pd.map (·.1)) : ∃ r pd', List.Perm pd ((x, r) :: pd') ∧ pd'.map (·.1) = (pd.map (·.1)).erase x := by
  induction pd with
  | nil => cases h
  | cons y l ih =>
    by_cases e : y.1 = x
    · subst e
      exact ⟨y.2, l, List.Perm.refl _, by simp⟩
    · have hm : x ∈ l.map (·.1) := by
        rcases List.mem_cons.1 (show x ∈ y.1 :: l.map (·.1) from h) with e' | hm
        · exact absurd e'.symm e
        · exact hm
      obtain ⟨r, pd', h1, h2⟩ := ih hm
      refine ⟨r, y :: pd', ?_, ?_⟩
      · exact (List.Perm.cons y h1).trans (List.Perm.swap _ _ _)
      · show y.1 :: pd'.map (·.1) = (y.1 :: l.map (·.1)).erase x
        rw [List.erase_cons, if_neg (by simpa using e), h2]

section
variable {M : Mc} {V : CV} {HV : He} {nV : Nat} {E : En} {Pr Pr0 : Prt} {st : Stk} {N : Nat} {K : Kont} {X : HP} {S : Sy} {aS : Sym} {cH : He} {n : Nat} {H : Heap} {ops : Array Oper} {f : Nat} {p : Pa}

theorem alOps_al : ∀ {t : STree} {o : SOper}, o ∈ alOps t → isAlO o = true
  | .nil, _, h => by cases h
  | .op x _, o, h => by
    unfold alOps at h
    split at h
    · rename_i e
      rw [List.mem_singleton] at h
      rw [h]; exact e
    · cases h
  | .alt a b, o, h => by
    rcases List.mem_append.1 h with h | h
    · exact alOps_al h
    · exact alOps_al h
theorem alOps_core {P : Program} {ops : Array Oper} : ∀ {t : STree} {o : SOper}, o ∈ alOps t → TW P N ops t → core P N ops o.idx = some { o with keep := [] }
  | .nil, _, h, _ => by cases h
  | .op x _, o, h, ht => by
    unfold alOps at h
    split at h
    · rw [List.mem_singleton] at h
      rw [h]; exact ht.1
    · cases h
  | .alt a b, o, h, ht => by
    rcases List.mem_append.1 h with h | h
    · exact alOps_core h ht.1
    · exact alOps_core h ht.2
theorem aOf_sub : ∀ {t : STree} {o : SOper}, o ∈ aOf t → o ∈ alOps t
  | .nil, _, h => by cases h
  | .op _ _, _, h => by cases h
  | .alt a b, o, h => by
    unfold aOf at h
    rcases List.mem_append.1 h with h | h
    · exact h
    · split at h
      · exact List.mem_append_right _ (aOf_sub h)
      · exact List.mem_append_left _ (aOf_sub h)
theorem rOf_mem {t : STree} {i : Nat} (h : i ∈ rOf t) : ∃ o ∈ aOf t, o.idx = i := by
  unfold rOf at h
  split at h
  · exact List.mem_map.1 h
  · cases h
theorem Rdy.ext {ng : Nat} {o : SOper} {S' : Sy} (h : Rdy ng o S) (hS : ∀ t, t < 256 → sg t S' = sg t S) : Rdy ng o S' := fun E aS hs => h E aS (hs.ext fun t ht => (hS t ht).symm)
theorem pick_ok {Fm : Fa} : ∀ {ta : STree} {q : Pa} {S : Sy}, treeAt M.P f p q = ta → Good M V HV nV (un (exDraw M f p ta q) Fm st S cH n) →
    ∃ q' S', treeAt M.P f p q' = pick ta ∧ Good M V HV nV (un (exDraw M f p (pick ta) q') Fm st S' cH n) ∧ (∀ o, o ∈ aOf ta → (∀ d, o.dst = some d → d < 256 ∧ sg d S' = .u) ∧ Rdy M.ng o S') ∧ ∀ d, d < 256 → sg d S' = sg d S ∨ (sg d S' = .u ∧ d ∈ wOf ta)
  | .nil, q, S, ht, h => ⟨q, S, ht, h, fun d hd => (by cases hd), fun _ _ => .inl rfl⟩
  | .op _ _, q, S, ht, h => ⟨q, S, ht, h, fun d hd => (by cases hd), fun _ _ => .inl rfl⟩
  | .alt a b, q, S, ht, h => by
    have h : Good M V HV nV (prep M.ng (alOps (.alt a b)) S fun S => prep M.ng (alOps (.alt a b)) S fun S => un (bi (goR a b) (exDraw M f p b (.i q)) (exDraw M f p a (.o q))) Fm st S cH n) := h
    obtain ⟨S1, h1, h2, h3⟩ := prep1 (Ok := Good M V HV nV) (fun o ho => alOps_al ho) h
    obtain ⟨S2, h4, h5, h6⟩ := prep2 (Ok := Good M V HV nV) (fun o ho => alOps_al ho) h2 h1
    have hi : treeAt M.P f p (.i q) = b := by show STree.right (treeAt M.P f p q) = b; rw [ht]; rfl
    have ho : treeAt M.P f p (.o q) = a := by show STree.left (treeAt M.P f p q) = a; rw [ht]; rfl
    have main : ∀ (c : STree) (q1 : Pa), treeAt M.P f p q1 = c → Good M V HV nV (un (exDraw M f p c q1) Fm st S2 cH n) → (∀ o, o ∈ aOf c → o ∈ alOps (.alt a b)) → pick (.alt a b) = pick c → aOf (.alt a b) = alOps (.alt a b) ++ aOf c →
        (∃ q' S', treeAt M.P f p q' = pick c ∧ Good M V HV nV (un (exDraw M f p (pick c) q') Fm st S' cH n) ∧ (∀ o, o ∈ aOf c → (∀ d, o.dst = some d → d < 256 ∧ sg d S' = .u) ∧ Rdy M.ng o S') ∧ ∀ d, d < 256 → sg d S' = sg d S2 ∨ (sg d S' = .u ∧ d ∈ wOf c)) →
        ∃ q' S', treeAt M.P f p q' = pick (.alt a b) ∧ Good M V HV nV (un (exDraw M f p (pick (.alt a b)) q') Fm st S' cH n) ∧ (∀ o, o ∈ aOf (.alt a b) → (∀ d, o.dst = some d → d < 256 ∧ sg d S' = .u) ∧ Rdy M.ng o S') ∧ ∀ d, d < 256 → sg d S' = sg d S ∨ (sg d S' = .u ∧ d ∈ wOf (.alt a b)) := by
      rintro c q1 hq hg hsub hp ha ⟨q', S', g1, g2, g3, g4⟩
      have hS : ∀ d, d < 256 → sg d S' = sg d S2 := fun d hd => by
        rcases g4 d hd with e | ⟨e, hm⟩
        · exact e
        · obtain ⟨o, ho1, ho2⟩ := List.mem_filterMap.1 hm
          rw [e, h5 d hd, (h2 o (hsub o ho1) d ho2).2]
      refine ⟨q', S', by rw [hp]; exact g1, by rw [hp]; exact g2, fun o ho => ?_, fun d hd => ?_⟩
      · rw [ha] at ho
        rcases List.mem_append.1 ho with ho | ho
        · refine ⟨fun d hd => ?_, (h6 o ho).ext fun t ht => by rw [hS t ht, h5 t ht]⟩
          obtain ⟨e1, e2⟩ := h2 o ho d hd
          exact ⟨e1, by rw [hS d e1, h5 d e1, e2]⟩
        · exact g3 o ho
      · rw [hS d hd, h5 d hd]
        rcases h3 d hd with e | ⟨e, hm⟩
        · exact .inl e
        · refine .inr ⟨e, ?_⟩
          unfold wOf
          rw [ha, List.filterMap_append]
          exact List.mem_append_left _ hm
    cases hal : goR a b with
    | true =>
      rw [hal] at h4
      exact main b (.i q) hi h4 (fun o ho => List.mem_append_right _ (aOf_sub ho)) (by conv => lhs; unfold pick; rw [hal]) (by conv => lhs; unfold aOf; rw [hal]) (pick_ok hi h4)
    | false =>
      rw [hal] at h4
      exact main a (.o q) ho h4 (fun o ho => List.mem_append_left _ (aOf_sub ho)) (by conv => lhs; unfold pick; rw [hal]) (by conv => lhs; unfold aOf; rw [hal]) (pick_ok ho h4)

theorem catch_good {q : Pa} {oa : SOper} {ra tb : STree} {pd0 : List Pe} {w rd : List Nat} {Fm : Fa} {Fs : List (Nat × (Heap → Prop))} {pd : List (Pe × Nat)} (hal : isAlO oa = true) (hm : peO oa ∈ pd0)
    (h : Good M V HV nV (un (exDraw M f p (.op oa ra) q) Fm st S cH n)) (hco : core M.P N ops oa.idx = some { oa with keep := [] }) (hn : DG M V HV nV st N K X ops (exDraw M f p ra (.o q)) (pd0.erase (peO oa)) (less oa.dst w) [] ra tb)
    (he : pd.map (·.1) = pd0) (hi : DInv M V HV nV st N K X ops E Pr Pr0 Fm S cH n aS H Fs pd w rd (.op oa ra)) : WPdraw M.P (CX M.P X) X tb aS H Fs K.norm := by
  subst he
  obtain ⟨r, pd', hpm, hpe⟩ := erase_pd hm
  obtain ⟨hg, hop⟩ := isAlO_cases hal
  have h0 : ∃ e, oa.op = .e e ∧ Good M V HV nV (d_e M.ng e (.op oa ra) oa.dst (exDraw M f p ra (.o q)) Fm st S cH n) := by
    have h : Good M V HV nV (un (gdd oa.guard (dop M f p q oa ra (exDraw M f p ra (.o q))) (d_skip oa.dst (exDraw M f p ra (.o q)))) Fm st S cH n) := h
    rw [hg] at h
    have h : Good M V HV nV (un (dop M f p q oa ra (exDraw M f p ra (.o q))) Fm st S cH n) := h
    unfold dop at h
    rcases hop with ⟨e, z, hop⟩ | hop | ⟨e, size, bytes, z, sl, sc, hop⟩
    · rw [hop] at h; exact ⟨_, hop, h⟩
    · rw [hop] at h; exact ⟨_, hop, h⟩
    · rw [hop] at h; exact ⟨_, hop, h⟩
  obtain ⟨e, hop, h⟩ := h0
  obtain ⟨cv, cH', h1, h2⟩ := adopt_ok (Ok := Good M V HV nV) hal hop h
  obtain ⟨h3, _⟩ := chk_ok (Ok := Good M V HV nV) h1
  obtain ⟨S', g1, _, g3, g4⟩ := putd_ok2 (Ok := Good M V HV nV) h3
  have hmem : (peO oa, r) ∈ pd := hpm.mem_iff.2 List.mem_cons_self
  obtain ⟨o, ob, vf, k1, k2, k3, k3', k4, k5, k6⟩ := hi.pd.each _ hmem
  have ho : o = { oa with keep := [] } := by rw [show core M.P N ops oa.idx = some o from k1] at hco; exact Option.some.inj hco
  have ho1 : AlR oa aS ob vf := by rw [ho] at k3'; exact k3'
  have hod : o.dst = oa.dst := by rw [ho]
  obtain ⟨E', f1, f2, f3⟩ := h2 E Pr aS H r ob vf hi.sr hi.rel ho1 k4
  have nd' := (hpm.map (·.2)).nodup_iff.1 hi.pd.nd
  have dn' : (((peO oa, r) :: pd').Pairwise fun x y => x.1.2.1 ≠ y.1.2.1) := (hpm.pairwise_iff (fun h e => h e.symm)).1 hi.pd.dn
  have nd1 := (List.nodup_cons.1 (show (r :: pd'.map (·.2)).Nodup from nd'))
  have dn1 := List.pairwise_cons.1 dn'
  refine hn Fm S' cH' (n + 1) g1 E' _ Pr0 aS H Fs pd' hpe ⟨hi.kr.mono f1, ?_, f2, ?_, ?_, fun i hi => (by cases hi), (hi.fa.mono f1 fun _ _ _ h => h).sub fun i hi => by simp only [wants, hi, Bool.or_true]⟩
  · refine ⟨fun t ht => ?_, (hi.sr.mono f1).gl, hi.sr.wide⟩
    by_cases e : some t = oa.dst
    · obtain ⟨_, e2⟩ := g4 t e.symm
      obtain ⟨_, e3, _⟩ := k6 t (by rw [hod]; exact e.symm)
      refine ⟨_, e3, ?_⟩
      rw [e2]; exact f3
    · obtain ⟨s, e1, e2⟩ := (hi.sr.mono f1).get t ht
      exact ⟨s, e1, by rw [g3 t ht e]; exact e2⟩
  · refine ⟨fun x hx => ?_, fun r' hr' => ?_, nd1.2, dn1.2⟩
    · obtain ⟨o', ob', vf', j1, j2, j3, j3', j4, j5, j6⟩ := hi.pd.each x (hpm.mem_iff.2 (List.mem_cons_of_mem _ hx))
      refine ⟨o', ob', vf', j1, j2, j3, j3', ?_, j5, fun d hd => ?_⟩
      · rw [if_neg]
        · exact j4
        · intro e
          exact nd1.1 (by rw [← e]; exact List.mem_map_of_mem hx)
      · obtain ⟨l1, l2, l3⟩ := j6 d hd
        refine ⟨l1, l2, ?_⟩
        rw [g3 d l1]
        · exact l3
        · intro e
          exact dn1.1 x hx (by rw [← j2]; show oa.dst = o'.dst; rw [hd]; exact e.symm)
    · by_cases e : r' = r
      · rw [if_pos e, e]; exact k5.symm
      · rw [if_neg e]
        refine hi.pd.rest r' fun hm' => ?_
        have := (hpm.map (·.2)).mem_iff.1 hm'
        rcases List.mem_cons.1 (show r' ∈ r :: pd'.map (·.2) from this) with e' | hm2
        · exact e e'
        · exact hr' hm2
  · intro d hd
    obtain ⟨m1, m2⟩ := mem_less hd
    obtain ⟨w1, w2⟩ := hi.w d m1
    exact ⟨w1, by rw [g3 d w1 m2]; exact w2⟩

theorem early_ok {ob : SOper} {t : STree} {pd0 : List Pe} {w rd : List Nat} {Fm : Fa} {Fs : List (Nat × (Heap → Prop))} {pd : List (Pe × Nat)} (hal : isAlO ob = true) (hco : core M.P N ops ob.idx = some { ob with keep := [] })
    (h1 : isD ob.dst w = true) (h2 : isD ob.dst (dsts' pd0) = false) (h2' : isD ob.dst (srcsO ob) = false) {oj : Obj} {vf : Nat → Value} (hA : AlR ob aS oj vf) (he : pd.map (·.1) = pd0) (hi : DInv M V HV nV st N K X ops E Pr Pr0 Fm S cH n aS H Fs pd w rd t) :
    DInv M V HV nV st N K X ops E (fun r => if r = H.size then some (oj, true) else Pr r) Pr0 Fm S cH n (aS.put ob.dst (.v (vf H.size))) (H.push oj) Fs ((peO ob, H.size) :: pd) w rd t := by
  subst he
  obtain ⟨d, hd⟩ : ∃ d, ob.dst = some d := by
    cases e : ob.dst with
    | none => rw [e] at h1; cases h1
    | some d => exact ⟨d, rfl⟩
  have hdw : d ∈ w := by
    rw [hd] at h1
    exact by simpa [isD] using h1
  obtain ⟨d1, d2⟩ := hi.w d hdw
  have hlt : ∀ x ∈ pd, x.2 < H.size := fun x hx => by
    obtain ⟨o, _, _, _, _, _, _, k4, _⟩ := hi.pd.each x hx
    exact (Array.getElem?_eq_some_iff.1 (hi.rel.pr _ _ _ k4).1).1
  have hdn : ∀ x ∈ pd, ob.dst ≠ x.1.2.1 := fun x hx e => (isD_false h2 x.1 (List.mem_map_of_mem hx)).1 d (by rw [← e, hd]) hd
  have hput : ∀ t, d ≠ t → (aS.put ob.dst (.v (vf H.size))).get t = aS.get t := fun t hne => by
    rw [hd]
    show Sym.get ((d, _) :: aS) t = _
    rw [get_cons, if_neg hne]
  have hsrc : ∀ t ∈ srcsO ob, d ≠ t := fun t ht e => by
    subst e
    rw [hd] at h2'
    have h2' : (srcsO ob).contains d = false := h2'
    rw [List.contains_eq_mem, decide_eq_false_iff_not] at h2'
    exact h2' ht
  refine ⟨hi.kr, ?_, hi.rel.prot _, ?_, hi.w, hi.rd, hi.fa.mono (En.le.refl E) fun r o u hc => ?_⟩
  · rw [hd]
    refine ⟨fun t ht => ?_, hi.sr.gl, ?_⟩
    · show ∃ s', Sym.get ((d, _) :: aS) t = some s' ∧ _
      rw [get_cons]
      by_cases e : d = t
      · subst e; rw [if_pos rfl, d2]; exact ⟨_, rfl, VR.u⟩
      · rw [if_neg e]; exact hi.sr.get t ht
    · show Sym.get ((d, _) :: aS) wideKey = none
      rw [get_cons, if_neg (by unfold wideKey; omega)]; exact hi.sr.wide
  · refine ⟨fun x hx => ?_, fun r hr => ?_, ?_, ?_⟩
    · rcases List.mem_cons.1 hx with rfl | hx
      · refine ⟨{ ob with keep := [] }, oj, vf, hco, rfl, hal, (show AlR ob aS oj vf from hA).same fun t ht _ _ _ => hput t (hsrc t ht), if_pos rfl, ?_, fun d' hd' => ?_⟩
        · cases e : Pr0 H.size with
          | none => rfl
          | some y =>
            have := hi.pd.le _ _ e
            rw [hi.rel.none_at (Nat.le_refl _)] at this; cases this
        · have : d = d' := by have : ob.dst = some d' := hd'; rw [hd] at this; exact Option.some.inj this
          subst this
          refine ⟨d1, ?_, d2⟩
          rw [hd]
          show Sym.get ((d, _) :: aS) d = _
          rw [get_cons, if_pos rfl]
      · obtain ⟨o, ob', vf', k1, k2, k3, k3', k4, k5, k6⟩ := hi.pd.each x hx
        refine ⟨o, ob', vf', k1, k2, k3, k3'.same fun t ht _ _ _ => hput t (fun e => (isD_false h2 x.1 (List.mem_map_of_mem hx)).2 t (by rw [← k2]; exact ht) (by rw [hd, e])), ?_, k5, fun d' hd' => ?_⟩
        · rw [if_neg (by have := hlt x hx; omega)]; exact k4
        · obtain ⟨l1, l2, l3⟩ := k6 d' hd'
          refine ⟨l1, ?_, l3⟩
          rw [hd]
          show Sym.get ((d, _) :: aS) d' = _
          rw [get_cons, if_neg]
          · exact l2
          · intro e
            exact hdn x hx (by rw [hd, ← k2]; show some d = o.dst; rw [hd', e])
    · have hr : r ∉ H.size :: pd.map (·.2) := hr
      rw [List.mem_cons, not_or] at hr
      rw [if_neg hr.1]; exact hi.pd.rest r hr.2
    · refine List.nodup_cons.2 ⟨fun hm => ?_, hi.pd.nd⟩
      obtain ⟨x, hx, e⟩ := List.mem_map.1 hm
      have e : x.2 = H.size := e
      have := hlt x hx; omega
    · exact List.pairwise_cons.2 ⟨fun x hx => hdn x hx, hi.pd.dn⟩
  · have hlt' : r < H.size := by
      unfold hcell at hc
      split at hc
      · rename_i e; exact (Array.getElem?_eq_some_iff.1 e).1
      · cases hc
    unfold hcell at hc ⊢
    rw [Array.getElem?_push, if_neg (by omega)]; exact hc
end
end Go.Ex
end

namespace Go.Ex
open Go Go.Vc

section
variable {M : Mc} {V : CV} {HV : He} {nV : Nat} {st : Stk} {N : Nat} {K : Kont} {X : HP} {ops : Array Oper} {f : Nat} {p : Pa}

theorem draw_good (hO : OrcOk M) {id : Nat} (hc : codeAt M.P f p = .region id ops true) (hN : ntm M.P f = N) : ∀ (fuel : Nat) (pd0 : List Pe) (w rd : List Nat) (ta tb : STree) (q : Pa), dck fuel pd0 w rd ta tb = true → treeAt M.P f p q = ta → TW M.P N ops ta → TW M.P N ops tb →
    DG M V HV nV st N K X ops (exDraw M f p ta q) pd0 w rd ta tb
  | 0, _, _, _, _, _, _, hd, _, _, _ => by cases hd
  | fuel + 1, pd0, w, rd, ta, .alt b1 b2, q, hd, ht, hTa, hTb => by
    have hd : (dck fuel pd0 w rd ta b1 && dck fuel pd0 w rd ta b2) = true := hd
    rw [Bool.and_eq_true] at hd
    intro Fm S cH n h E Pr Pr0 aS H Fs pd he hi
    exact ⟨draw_good hO hc hN fuel pd0 w rd ta b1 q hd.1 ht hTa hTb.1 Fm S cH n h E Pr Pr0 aS H Fs pd he hi, draw_good hO hc hN fuel pd0 w rd ta b2 q hd.2 ht hTa hTb.2 Fm S cH n h E Pr Pr0 aS H Fs pd he hi⟩
  | fuel + 1, pd0, w, rd, ta, .nil, q, hd, ht, hTa, hTb => by
    intro Fm S cH n h E Pr Pr0 aS H Fs pd he hi
    obtain ⟨q', S', h1, h2, h3, h4⟩ := pick_ok ht h
    have hi' : DInv M V HV nV st N K X ops E Pr Pr0 Fm S' cH n aS H Fs pd (wOf ta ++ w) (rN ta rd) (pick ta) := by
      have h4' : ∀ d, d < 256 → sg d S' = sg d S ∨ sg d S' = .u := fun d hd => (h4 d hd).imp (fun h => h) fun h => h.1
      refine ⟨hi.kr, hi.sr.wiped h4', hi.rel, hi.pd.same (fun _ _ _ => rfl) (fun _ _ _ _ => rfl) h4', fun d hd => ?_, fun i hm => ?_, hi.fa.sub fun i hw => wants_pick hw⟩
      · rcases List.mem_append.1 hd with hd | hd
        · obtain ⟨o, ho, e⟩ := List.mem_filterMap.1 hd
          exact (h3 o ho).1 d e
        · obtain ⟨e1, e2⟩ := hi.w d hd
          refine ⟨e1, ?_⟩
          rcases h4' d e1 with e | e
          · rw [e, e2]
          · exact e
      · have same : wOf ta = [] → ∀ t, t < 256 → sg t S' = sg t S := fun e t ht => by
          rcases h4 t ht with e' | ⟨_, e'⟩
          · exact e'
          · rw [e] at e'; cases e'
        unfold rN at hm
        split at hm
        · obtain ⟨o, ho, rfl⟩ := rOf_mem hm
          exact ⟨_, alOps_core (aOf_sub ho) hTa, (h3 o ho).2⟩
        · rename_i hne
          obtain ⟨o, c1, c2⟩ := hi.rd i hm
          refine ⟨o, c1, c2.ext (same ?_)⟩
          cases ta with
          | alt a b => exact absurd rfl (hne a b)
          | _ => rfl
    have hTp := TW_pick hTa
    unfold dck at hd
    simp only at hd
    generalize hw' : wOf ta ++ w = w' at hd hi'
    generalize hr' : rN ta rd = rd' at hd hi'
    generalize pick ta = tp at hd hi' hTp h1 h2
    cases tp with
    | nil =>
      have hd : pd0.isEmpty = true := hd
      have hd : pd0 = [] := by simpa using hd
      subst hd
      have h2 : Good M V HV nV (.mk st S' cH n) := h2
      exact h2 E Pr0 N K X aS H hi'.kr hi'.sr (hi'.rel.weak hi'.pd.le)
    | alt a b => cases hd
    | op oa ra =>
      simp only [Bool.and_eq_true] at hd
      obtain ⟨⟨d1, d2⟩, d3⟩ := hd
      have hq : treeAt M.P f p (.o q') = ra := by show STree.left (treeAt M.P f p q') = ra; rw [h1]; rfl
      exact catch_good d1 (by simpa using d2) h2 hTp.1 (draw_good hO hc hN fuel _ _ _ ra .nil (.o q') d3 hq hTp.2 hTb) he hi'
  | fuel + 1, pd0, w, rd, ta, .op ob rb, q, hd, ht, hTa, hTb => by
    intro Fm S cH n h E Pr Pr0 aS H Fs pd he hi
    obtain ⟨q', S', h1, h2, h3, h4⟩ := pick_ok ht h
    have hi' : DInv M V HV nV st N K X ops E Pr Pr0 Fm S' cH n aS H Fs pd (wOf ta ++ w) (rN ta rd) (pick ta) := by
      have h4' : ∀ d, d < 256 → sg d S' = sg d S ∨ sg d S' = .u := fun d hd => (h4 d hd).imp (fun h => h) fun h => h.1
      refine ⟨hi.kr, hi.sr.wiped h4', hi.rel, hi.pd.same (fun _ _ _ => rfl) (fun _ _ _ _ => rfl) h4', fun d hd => ?_, fun i hm => ?_, hi.fa.sub fun i hw => wants_pick hw⟩
      · rcases List.mem_append.1 hd with hd | hd
        · obtain ⟨o, ho, e⟩ := List.mem_filterMap.1 hd
          exact (h3 o ho).1 d e
        · obtain ⟨e1, e2⟩ := hi.w d hd
          refine ⟨e1, ?_⟩
          rcases h4' d e1 with e | e
          · rw [e, e2]
          · exact e
      · have same : wOf ta = [] → ∀ t, t < 256 → sg t S' = sg t S := fun e t ht => by
          rcases h4 t ht with e' | ⟨_, e'⟩
          · exact e'
          · rw [e] at e'; cases e'
        unfold rN at hm
        split at hm
        · obtain ⟨o, ho, rfl⟩ := rOf_mem hm
          exact ⟨_, alOps_core (aOf_sub ho) hTa, (h3 o ho).2⟩
        · rename_i hne
          obtain ⟨o, c1, c2⟩ := hi.rd i hm
          refine ⟨o, c1, c2.ext (same ?_)⟩
          cases ta with
          | alt a b => exact absurd rfl (hne a b)
          | _ => rfl
    have hTp := TW_pick hTa
    unfold dck at hd
    simp only at hd
    generalize hw' : wOf ta ++ w = w' at hd hi'
    generalize hr' : rN ta rd = rd' at hd hi'
    generalize pick ta = tp at hd hi' hTp h1 h2
    cases tp with
    | nil => cases hd
    | alt a b => cases hd
    | op oa ra =>
      have hq : treeAt M.P f p (.o q') = ra := by show STree.left (treeAt M.P f p q') = ra; rw [h1]; rfl
      have hd : (match Nat.beq oa.idx ob.idx with
        | true => (oa.keep == ob.keep) && !isD oa.dst (dsts' pd0) && dck fuel pd0 (less oa.dst w') [] ra rb
        | false => match isAlO ob with
          | true => isD ob.dst w' && !isD ob.dst (dsts' pd0) && !isD ob.dst (srcsO ob) && ob.keep.all (fun i => wants i (.op oa ra)) && rd'.contains ob.idx && dck fuel (peO ob :: pd0) w' rd' (.op oa ra) rb
          | false => isAlO oa && pd0.contains (peO oa) && dck fuel (pd0.erase (peO oa)) (less oa.dst w') [] ra (.op ob rb)) = true := hd
      split at hd
      · rename_i hix
        simp only [Bool.and_eq_true, Bool.not_eq_true'] at hd
        obtain ⟨⟨d1, d2⟩, d3⟩ := hd
        have hk : oa.keep = ob.keep := by simpa using d1
        obtain rfl := same_op hTp hTb (Nat.eq_of_beq_eq_true hix) hk
        have ih : DG M V HV nV st N K X ops (exDraw M f p ra (.o q')) pd0 (less oa.dst w') [] ra rb := draw_good hO hc hN fuel pd0 (less oa.dst w') [] ra rb (.o q') d3 hq hTp.2 hTb.2
        rw [WPdraw_op]
        have h2 : Good M V HV nV (un (gdd oa.guard (dop M f p q' oa ra (exDraw M f p ra (.o q'))) (d_skip oa.dst (exDraw M f p ra (.o q')))) Fm st S' cH n) := h2
        cases hg : oa.guard with
        | none =>
          rw [hg] at h2
          exact dop_good hO h2 hc h1 hN hTp.2 hTb.2 d3 ih he d2 hi'
        | some tw =>
          obtain ⟨t, want⟩ := tw
          rw [hg] at h2
          have h2 : Good M V HV nV (bi (Nat.blt t 256) (sBoolTup (fun b => bi (beb b want) (un (dop M f p q' oa ra (exDraw M f p ra (.o q'))) Fm st S' cH n) (d_skip oa.dst (exDraw M f p ra (.o q')) Fm st S' cH n)) (d_skip oa.dst (exDraw M f p ra (.o q')) Fm st S' cH n) (sg t S')) no) := h2
          obtain ⟨g1, g2⟩ := bi_ok (Ok := Good M V HV nV) h2
          refine guardD_good (by simpa using g1) g2 hi'.sr (fun h aS' hs' ha hb => ?_) (fun h aS' hs' ha hb => ?_)
          · exact dop_good hO h hc h1 hN hTp.2 hTb.2 d3 ih he d2 ⟨hi'.kr, hs', hi'.rel, hi'.pd.same ha hb fun _ _ => .inl rfl, hi'.w, hi'.rd, hi'.fa⟩
          · exact putD_good (s := .v undef) (show Good M V HV nV (putd oa.dst (.tup .nil) S' fun S => un (exDraw M f p ra (.o q')) Fm st S cH n) from h) ih he d2 hi'.kr hs' hi'.rel (hi'.pd.same ha hb fun _ _ => .inl rfl) (fun d hd => hi'.w d (mem_less hd).1)
              (hi'.fa.sub fun i hi => by simp only [wants, hi, Bool.or_true]) ⟨[], rfl, rfl⟩
      · split at hd
        · rename_i hal
          simp only [Bool.and_eq_true, Bool.not_eq_true'] at hd
          obtain ⟨⟨⟨⟨⟨d1, d2⟩, d2'⟩, d3⟩, d5⟩, d4⟩ := hd
          obtain ⟨hg, hop⟩ := isAlO_cases hal
          rw [WPdraw_op, hg]
          show opD M.P (CX M.P X) X ob rb aS H Fs K.norm
          have hop : ∃ e, ob.op = .e e := by
            rcases hop with ⟨e, z, h⟩ | h | ⟨e, size, bytes, z, sl, sc, h⟩
            · exact ⟨_, h⟩
            · exact ⟨_, h⟩
            · exact ⟨_, h⟩
          obtain ⟨e, hop⟩ := hop
          obtain ⟨o', c1, c2⟩ := hi'.rd ob.idx (by simpa using d5)
          have c3 : o' = { ob with keep := [] } := by rw [hTb.1] at c1; exact (Option.some.inj c1).symm
          obtain ⟨oj, vf, hA⟩ := c2 E aS hi'.sr
          have hA : AlR ob aS oj vf := by rw [c3] at hA; exact hA
          unfold opD
          rw [hop]
          refine al_sem hal hop hA ?_
          have hi2 := early_ok hal hTb.1 d1 d2 d2' hA he hi'
          refine hi2.fa.holds (fun i hi => ?_) ?_
          · rw [List.all_eq_true] at d3
            exact d3 i (by simpa using hi)
          · exact draw_good hO hc hN fuel _ w' rd' (.op oa ra) rb q' d4 h1 hTp hTb.2 Fm S' cH n h2 E _ Pr0 _ _ Fs _ (by simp [he]) hi2
        · simp only [Bool.and_eq_true] at hd
          obtain ⟨⟨d1, d2⟩, d3⟩ := hd
          exact catch_good d1 (by simpa using d2) h2 hTp.1 (draw_good hO hc hN fuel _ _ _ ra (.op ob rb) (.o q') d3 hq hTp.2 hTb) he hi'

theorem lone_dck : ∀ {t : STree}, lone' t = true → ∃ n, dck n [] [] [] t t = true
  | .nil, _ => ⟨1, rfl⟩
  | .op o r, h => by
    obtain ⟨n, hn⟩ := lone_dck (t := r) h
    refine ⟨n + 1, ?_⟩
    have h1 : Nat.beq o.idx o.idx = true := Nat.beq_refl _
    have h2 : isD o.dst (dsts' []) = false := by unfold isD dsts'; cases o.dst <;> rfl
    have h3 : less o.dst ([] : List Nat) = [] := by unfold less; cases o.dst <;> rfl
    show (match Nat.beq o.idx o.idx with
        | true => (o.keep == o.keep) && !isD o.dst (dsts' []) && dck n [] (less o.dst (wOf (.op o r) ++ [])) [] r r
        | false => match isAlO o with
          | true => isD o.dst (wOf (.op o r) ++ []) && !isD o.dst (dsts' []) && !isD o.dst (srcsO o) && o.keep.all (fun i => wants i (.op o r)) && (rN (.op o r) []).contains o.idx && dck n (peO o :: []) (wOf (.op o r) ++ []) (rN (.op o r) []) (.op o r) r
          | false => isAlO o && ([] : List Pe).contains (peO o) && dck n (([] : List Pe).erase (peO o)) (less o.dst (wOf (.op o r) ++ [])) [] r (.op o r)) = true
    rw [h1]
    show ((o.keep == o.keep) && !isD o.dst (dsts' []) && dck n [] (less o.dst ([] : List Nat)) [] r r) = true
    rw [h2, h3, hn]; simp
  | .alt _ _, h => by cases h

/-- A region whose order is drawn. -/
theorem region_good (hO : OrcOk M) {id : Nat} {t : STree} {S : Sy} {cH : He} {n : Nat} {E : En} {Pr : Prt} {aS : Sym} {H : Heap} (hc : codeAt M.P f p = .region id ops true) (hN : ntm M.P f = N) (ht : schedule M.P N ops = some t) (hd : lone' t = true ∨ dck 2000 [] [] [] t t = true)
    (h : Good M V HV nV (un (exDraw M f p t .z) .nil st S cH n)) (hk : KR M V HV nV E Pr st N K X) (hs : SR E M.ng S aS) (hr : Rel E Pr n cH H) : WPdraw M.P (CX M.P X) X t aS H [] K.norm := by
  have hT := schedule_TW ht
  have hz : treeAt M.P f p .z = t := by
    show treeOf' M.P (ntm M.P f) (codeAt M.P f p) = t
    rw [hc, hN]; unfold treeOf'; simp only [ht]
  obtain ⟨m, hm⟩ : ∃ m, dck m [] [] [] t t = true := by
    rcases hd with hd | hd
    · exact lone_dck hd
    · exact ⟨_, hd⟩
  exact draw_good hO hc hN m [] [] [] t t .z hm hz hT hT .nil S cH n h E Pr Pr aS H [] [] rfl ⟨hk, hs, hr, ⟨fun x hx => (by cases hx), fun _ _ => rfl, List.nodup_nil, List.Pairwise.nil⟩, fun d hd => (by cases hd), fun i hi => (by cases hi), fun i φ hi => (by cases hi)⟩
end
end Go.Ex

section
/-! The machine's steps. -/
namespace Go.Ex
open Go Go.Vc

section
variable {M : Mc} {V : CV} {HV : He} {nV : Nat} {E : En} {Pr : Prt} {st : Stk} {N : Nat} {K : Kont} {X : HP} {S : Sy} {aS : Sym} {cH : He} {n : Nat} {H : Heap} {f : Nat} {p : Pa}

theorem rsmO_good (hO : OrcOk M) (hG : GdOk M) {k : Nat} {z : Value} {o : SOper} {r : List SOper} {cv : CV} {v : Value} (h : Good M V HV nV (rsmO M f p k S st cv cH n)) (hop : (opsOf M.P f p).drop k = o :: r) (hz : zOf o = some z) (hN : ntm M.P f = N)
    (hk : KR M V HV nV E Pr st N K X) (hs : SR E M.ng S aS) (hr : Rel E Pr n cH H) (hv : VR E cv v) : exR z v fun v => WPops M.P (CX M.P X) X r (aS.put o.dst (.v v)) H K.norm := by
  unfold rsmO rsmOB at h
  rw [hop] at h
  simp only [hz] at h
  have hr' : (opsOf M.P f p).drop (Nat.succ k) = r := by
    have : (opsOf M.P f p).drop (k + 1) = ((opsOf M.P f p).drop k).drop 1 := by rw [List.drop_drop]
    show (opsOf M.P f p).drop (k + 1) = r
    rw [this, hop]; rfl
  exact after_good h (exOps_good hO hG hN r (Nat.succ k) hr') hk hs hr hv
theorem less_self {d : Option Nat} {w : List Nat} (h : ∀ t ∈ w, some t ≠ d) : less d w = w := by
  cases d with
  | none => rfl
  | some d =>
    unfold less
    refine List.filter_eq_self.2 fun t ht => ?_
    have := h t ht
    simp only [ne_eq, Option.some.injEq] at this
    cases e : Nat.beq t d with
    | false => rfl
    | true => exact absurd (Nat.eq_of_beq_eq_true e) this
theorem tup0_ok {v : CV} {u : Value} (h : bTup (fun l => bList true (fun _ _ => false) l) v = true) (hv : VR E v u) : u = .tuple #[] := by
  cases v with
  | tup l =>
    have h : bList true (fun _ _ => false) l = true := h
    cases l with
    | nil => obtain ⟨vs, h1, rfl⟩ := hv; have h1 : vs = [] := h1; subst h1; rfl
    | cons a b => exact hv.elim fun vs h1 => by cases h
    | _ => exact hv.elim fun vs h1 => h1.1.elim
  | _ => cases h

/-- The called function is at its end. -/
theorem back_good (hO : OrcOk M) (hG : GdOk M) {fr : Fr} {Ko : Kont} {No : Nat} {Xo : HP} (h : Good M V HV nV (back M fr st S cH n)) (hk : KR M V HV nV E Pr (.cons fr st) No Ko Xo) (hc : match fr with | .code _ _ => False | .blk _ => False | .loop _ _ => False | _ => True)
    (hs : SR E M.ng S aS) (hr : Rel E Pr n cH H) : Ko.norm aS H ∧ ((match fr with | .val _ _ _ _ _ => False | _ => True) → Ko.ret aS H) := by
  cases hk with
  | code hk hN => exact hc.elim
  | blk hk => exact hc.elim
  | loop hk hN => exact hc.elim
  | fin hrs hR =>
    rename_i g rs R
    have h : Good M V HV nV (results M g S cH fun v => .done v cH n) := h
    obtain ⟨cv, h1, rs', h2, h3⟩ := results_ok (Ok := Good M V HV nV) h
    rw [hrs] at h2
    cases h2
    obtain ⟨rfl, rfl, rfl⟩ := h1
    have := h3 E Pr _ aS H hs hr R fun v hv => hR E v H (En.le.refl E) hr hv
    exact ⟨this, fun _ => this⟩
  | wait hk hS hrs hN hop hz =>
    rename_i N' K' f p k g S' aS' rs z o r
    have h : Good M V HV nV (results M g S cH fun v => rsmO M f p k S' st v cH n) := h
    obtain ⟨cv, h1, rs', h2, h3⟩ := results_ok (Ok := Good M V HV nV) h
    rw [hrs] at h2
    cases h2
    have := h3 E Pr n aS H hs hr (fun v H => exR z v fun v => WPops M.P (CX M.P Xo) Xo r (aS'.put o.dst (.v v)) H K'.norm) fun v hv => rsmO_good hO hG h1 hop hz hN hk hS hr hv
    exact ⟨this, fun _ => this⟩
  | waitd hk hS hrs hN hc' ht hz hd hT hT' hp hpd hw hF =>
    rename_i Pr0 N' K' f p q g S' Fm aS' rs z o r tb Fs pd m w ops id
    have h : Good M V HV nV (results M g S cH fun v => rsmD M f p q Fm S' st v cH n) := h
    obtain ⟨cv, h1, rs', h2, h3⟩ := results_ok (Ok := Good M V HV nV) h
    rw [hrs] at h2
    cases h2
    unfold rsmD rsmDB at h1
    rw [ht] at h1
    simp only [hz] at h1
    have hq : treeAt M.P f p (.o q) = r := by show STree.left (treeAt M.P f p q) = r; rw [ht]; rfl
    have hl : less o.dst w = w := less_self fun t ht => (hw t ht).2.1
    have hn : DG M V HV nV st N' K' Xo ops (exDraw M f p r (.o q)) (pd.map (·.1)) (less o.dst w) [] r tb := by
      rw [hl]; exact draw_good hO hc' hN m _ w [] r tb (.o q) hd hq hT hT'
    have := h3 E Pr n aS H hs hr (fun v H => exR z v fun v => holds Fs o.keep H (WPdraw M.P (CX M.P Xo) Xo tb (aS'.put o.dst (.v v)) H Fs K'.norm)) fun v hv => afterD_good h1 hn rfl hpd hk hS hr hp (fun d hd => by
      rw [hl] at hd; exact ⟨(hw d hd).1, (hw d hd).2.2⟩) hF hv
    exact ⟨this, fun _ => this⟩
  | val hk hS hv hN hop hz =>
    rename_i N' K' f p k S' v u aS' z o r Ke Kr
    have h : Good M V HV nV (rsmO M f p k S' st v cH n) := h
    exact ⟨rsmO_good hO hG h hop hz hN hk hS hr hv, fun h => h.elim⟩
  | grd hk hS hrs hN hop hz hb hle hR hX =>
    rename_i Pr1 N' K' X' f p k g S' b r0 q0 aS' rs z o r R
    have h : Good M V HV nV (results M g S cH fun v => bi (bTup (fun l => bList true (fun _ _ => false) l) v) (rsmO M f p k S' st (.int .i64 (Int.ofNat 0)) cH n) no) := h
    obtain ⟨cv, h1, rs', h2, h3⟩ := results_ok (Ok := Good M V HV nV) h
    rw [hrs] at h2
    cases h2
    obtain ⟨h4, h5⟩ := bi_ok (Ok := Good M V HV nV) h1
    have := h3 E Pr n aS H hs hr R fun v hv => hR E n cH H v (En.le.refl E) hr (tup0_ok h4 hv) fun E2 H2 hle2 hr2 => rsmO_good hO hG h5 hop hz hN (hk.mono hle2) (hS.mono hle2) hr2 (show VR E2 (.int .i64 (Int.ofNat 0)) (.int .i64 0) from rfl)
    exact ⟨this, fun _ => this⟩

theorem unwE_good {id : Nat} : ∀ {st : Stk} {N : Nat} {K : Kont}, Good M V HV nV (unwE id S cH n st) → KR M V HV nV E Pr st N K X → SR E M.ng S aS → Rel E Pr n cH H → K.exit id aS H := by
  intro st
  induction st with
  | nil => intro N K h; exact h.elim
  | cons fr st ih =>
    intro N K h hk hs hr
    cases hk with
    | code hk hN => have := ih h hk hs hr; exact this
    | blk hk =>
      rename_i K' id'
      show if id = id' then K'.norm aS H else K'.exit id aS H
      have h : Good M V HV nV (bi (Nat.beq id id') (.mk st S cH n) (unwE id S cH n st)) := h
      cases hb : Nat.beq id id' with
      | true =>
        rw [hb] at h
        rw [if_pos (Nat.eq_of_beq_eq_true hb)]
        have h : Good M V HV nV (.mk st S cH n) := h
        exact h E Pr N K' X aS H hk hs hr
      | false =>
        rw [hb] at h
        rw [if_neg (Nat.ne_of_beq_eq_false hb)]
        exact ih h hk hs hr
    | loop hk hN => have := ih h hk hs hr; exact this
    | _ => exact h.elim
theorem unwR_good (hO : OrcOk M) (hG : GdOk M) : ∀ {st : Stk} {N : Nat} {K : Kont}, Good M V HV nV (unwR M S cH n st) → KR M V HV nV E Pr st N K X → SR E M.ng S aS → Rel E Pr n cH H → K.ret aS H := by
  intro st
  induction st with
  | nil => intro N K h; exact h.elim
  | cons fr st ih =>
    intro N K h hk hs hr
    cases fr with
    | code f p => cases hk with | code hk hN => have := ih h hk hs hr; exact this
    | blk id => cases hk with | blk hk => have := ih h hk hs hr; exact this
    | loop f p => cases hk with | loop hk hN => have := ih h hk hs hr; exact this
    | val f p k S v => exact h.elim
    | wait f p k g S' => exact (back_good hO hG (fr := .wait f p k g S') h hk trivial hs hr).2 trivial
    | waitd f p q g S' F => exact (back_good hO hG (fr := .waitd f p q g S' F) h hk trivial hs hr).2 trivial
    | grd f p k g S' b => exact (back_good hO hG (fr := .grd f p k g S' b) h hk trivial hs hr).2 trivial
    | fin g => exact (back_good hO hG (fr := .fin g) h hk trivial hs hr).2 trivial

theorem stepC_good (hO : OrcOk M) (hC : CorOk M) (hG : GdOk M) (hm : M.P.follows .mixedOrders = true) (h : Good M V HV nV (stepC M f p st S cH n)) (hk : KR M V HV nV E Pr st N K X) (hN : ntm M.P f = N) (hs : SR E M.ng S aS) (hr : Rel E Pr n cH H) :
    Sem M.P X N (codeAt M.P f p) K aS H := by
  unfold stepC stepCB at h
  cases hto : M.T f p with
  | some o =>
    rw [hto] at h
    obtain ⟨S', cH', n', h1, h2⟩ := hC.2 f p o hto (Good M V HV nV) S cH n _ (show Good M V HV nV (o S cH n fun S H n => unwR M S H n st) from h)
    subst hN
    exact h2 E Pr aS H X K hs hr fun E' aS' H' hle hs' hr' => unwR_good hO hG h1 (hk.mono hle) hs' hr'
  | none =>
  rw [hto] at h
  cases hco : M.C f p with
  | some o =>
    rw [hco] at h
    obtain ⟨S', cH', n', h1, h2⟩ := hC.1 f p o hco (Good M V HV nV) S cH n _ (show Good M V HV nV (o S cH n fun S H n => .mk st S H n) from h)
    subst hN
    exact h2 E Pr aS H X K hs hr fun E' aS' H' hle hs' hr' => h1 E' Pr _ _ X aS' H' (hk.mono hle) hs' hr'
  | none =>
    rw [hco] at h
    have left' : ∀ {c : Code}, codeAt M.P f p = c → codeAt M.P f (.o p) = left c := fun e => by show left (codeAt M.P f p) = _; rw [e]
    have right' : ∀ {c : Code}, codeAt M.P f p = c → codeAt M.P f (.i p) = right c := fun e => by show right (codeAt M.P f p) = _; rw [e]
    cases hc : codeAt M.P f p with
    | skip =>
      rw [hc] at h
      have h : Good M V HV nV (.mk st S cH n) := h
      exact sem_skip (h E Pr N K X aS H hk hs hr)
    | region id ops dr =>
      rw [hc] at h
      cases dr with
      | false =>
        cases hl : compOps M.P (ntm M.P f) ops ops.toList with
        | none => simp only [hl] at h; exact h.elim
        | some l =>
          simp only [hl] at h
          rw [hN] at hl
          refine sem_region hl ?_
          exact exOps_good hO hG hN l 0 (by
            show (opsOf' M.P (ntm M.P f) (codeAt M.P f p)).drop 0 = l
            rw [hc, hN]; unfold opsOf'; simp only [hl]; rfl) S cH n h E Pr aS H hk hs hr
      | true =>
        cases hl : schedule M.P (ntm M.P f) ops with
        | none => simp only [hl] at h; exact h.elim
        | some t =>
          simp only [hl] at h
          rw [hN] at hl
          refine sem_draw hm hl ?_
          cases hd : (lone' t || dck 2000 [] [] [] t t) with
          | false => rw [hd] at h; exact h.elim
          | true =>
            rw [hd] at h
            exact region_good hO hc hN hl (by simpa using hd) (show Good M V HV nV (un (exDraw M f p t .z) .nil st S cH n) from h) hk hs hr
    | seq x y =>
      rw [hc] at h
      have h : Good M V HV nV (.mk (.cons (.code f (.o p)) (.cons (.code f (.i p)) st)) S cH n) := h
      have := h E Pr N _ X aS H (.code (.code hk hN) hN) hs hr
      rw [left' hc, right' hc] at this
      exact sem_seq this
    | cond c x y =>
      rw [hc] at h
      obtain ⟨b, h1, h2⟩ := exB_ok (Ok := Good M V HV nV) (show Good M V HV nV (exB M.ng (src c) S fun t => bi t (.mk (.cons (.code f (.o p)) st) S cH n) (.mk (.cons (.code f (.i p)) st) S cH n)) from h)
      obtain ⟨s, e1, e2⟩ := h2 E aS hs
      refine sem_cond e1 e2 ?_
      cases b with
      | true =>
        have h1 : Good M V HV nV (.mk (.cons (.code f (.o p)) st) S cH n) := h1
        have := h1 E Pr N _ X aS H (.code hk hN) hs hr
        rw [left' hc] at this; exact this
      | false =>
        have h1 : Good M V HV nV (.mk (.cons (.code f (.i p)) st) S cH n) := h1
        have := h1 E Pr N _ X aS H (.code hk hN) hs hr
        rw [right' hc] at this; exact this
    | block id x =>
      rw [hc] at h
      have h : Good M V HV nV (.mk (.cons (.code f (.o p)) (.cons (.blk id) st)) S cH n) := h
      have := h E Pr N _ X aS H (.code (.blk hk) hN) hs hr
      rw [left' hc] at this
      exact sem_block this
    | loop x =>
      rw [hc] at h
      have h : Good M V HV nV (.mk (.cons (.code f (.o p)) (.cons (.loop f (.o p)) st)) S cH n) := h
      have := h E Pr N _ X aS H (.code (.loop hk hN) hN) hs hr
      rw [left' hc] at this
      exact sem_loop this
    | exit id => rw [hc] at h; exact sem_exit (unwE_good (show Good M V HV nV (unwE id S cH n st) from h) hk hs hr)
    | ret => rw [hc] at h; exact sem_ret (unwR_good hO hG (show Good M V HV nV (unwR M S cH n st) from h) hk hs hr)
    | _ => rw [hc] at h; exact h.elim

theorem step_good (hO : OrcOk M) (hC : CorOk M) (hG : GdOk M) (hm : M.P.follows .mixedOrders = true) (h : Good M V HV nV (step M st S cH n)) : Good M V HV nV (.mk st S cH n) := by
  intro E Pr N K X aS H hk hs hr
  cases st with
  | nil => exact h.elim
  | cons fr st =>
    cases fr with
    | code f p => cases hk with | code hk hN => exact stepC_good hO hC hG hm (show Good M V HV nV (stepC M f p st S cH n) from h) hk hN hs hr
    | blk id =>
      cases hk with
      | blk hk =>
        have h : Good M V HV nV (.mk st S cH n) := h
        have := h E Pr N _ X aS H hk hs hr
        exact this
    | loop f p =>
      cases hk with
      | loop hk hN =>
        have h : Good M V HV nV (.mk (.cons (.code f p) (.cons (.loop f p) st)) S cH n) := h
        exact loopW_round (h E Pr N _ X aS H (.code (.loop hk hN) hN) hs hr)
    | val f p k S' v => exact (back_good hO hG (fr := .val f p k S' v) h hk trivial hs hr).1
    | wait f p k g S' => exact (back_good hO hG (fr := .wait f p k g S') h hk trivial hs hr).1
    | waitd f p q g S' F => exact (back_good hO hG (fr := .waitd f p q g S' F) h hk trivial hs hr).1
    | grd f p k g S' b => exact (back_good hO hG (fr := .grd f p k g S' b) h hk trivial hs hr).1
    | fin g => exact (back_good hO hG (fr := .fin g) h hk trivial hs hr).1
theorem run_good (hO : OrcOk M) (hC : CorOk M) (hG : GdOk M) (hm : M.P.follows .mixedOrders = true) : ∀ (m : Nat) {s : St}, Good M V HV nV (run M m s) → Good M V HV nV s
  | 0, _, h => h
  | m + 1, .mk st S cH n, h => step_good hO hC hG hm (run_good hO hC hG hm m (show Good M V HV nV (run M m (step M st S cH n)) from h))
  | _ + 1, .stuck _, h => h
  | _ + 1, .done _ _ _, h => h
/-- A call, run. -/
theorem does_of_run (hO : OrcOk M) (hC : CorOk M) (hG : GdOk M) (hm : M.P.follows .mixedOrders = true) {m : Nat} {g : Nat} {l : CV} {cH : He} {n : Nat} (h : run M m (goin M.P g l (.fin g) .nil cH n) = .done V HV nV) {vs : List Value} (hl : LR E l vs)
    (hg : ∀ g, g < M.ng → ∃ q, E g = some (g, q)) (hr : Rel E Pr n cH H) : DoesX M.P g vs H (fun v H' => ∃ E', E.le E' ∧ Rel E' Pr nV HV H' ∧ VR E' V v) X := by
  have : Good M V HV nV (run M m (goin M.P g l (.fin g) .nil cH n)) := by rw [h]; exact ⟨rfl, rfl, rfl⟩
  exact goin_good (run_good hO hC hG hm m this) hl hg hr fun rs hrs => .fin hrs fun E' v H' hle hr' hv => ⟨E', hle, hr', hv⟩
theorem run_chain (hO : OrcOk M) (hC : CorOk M) (hG : GdOk M) (hm : M.P.follows .mixedOrders = true) {m : Nat} {s s' : St} (h : run M m s = s') (hs : Good M V HV nV s') : Good M V HV nV s := run_good hO hC hG hm m (h ▸ hs)
end
end Go.Ex
end

section
/-! For oracles. -/
namespace Go.Ex
open Go Go.Vc

section
variable {E : En} {Pr : Prt} {n : Nat} {cH : He} {H H' : Heap}
/-- What was there is as it was. -/
theorem Rel.ext (h : Rel E Pr n cH H) (he : Ext [] H H') : Rel E Pr n cH H' := by
  refine ⟨h.fresh, h.small, fun b r q hx => ?_, h.inj, fun r o s hp => ?_⟩
  · obtain ⟨g1, g2⟩ := h.blk b r q hx
    exact ⟨Nat.lt_of_lt_of_le g1 he.size, by rw [he.keep r g1 (by simp)]; exact g2⟩
  · obtain ⟨g1, g2⟩ := h.pr r o s hp
    exact ⟨by rw [he.keep r (Array.getElem?_eq_some_iff.1 g1).1 (by simp)]; exact g1, g2⟩
/-- A block that has come is given a number. -/
theorem Rel.name (h : Rel E Pr n cH H) (he : Ext [] H H') {r q : Nat} {bk : Bk} {cH' : He} (hr : H.size ≤ r) (hr' : r < H'.size) (hn : n < 65536) (h1 : hg n cH' = bk) (h2 : ∀ b', b' < 65536 → b' ≠ n → hg b' cH' = hg b' cH)
    (hb : BR (E.add n r q) q bk H'[r]?) : Rel (E.add n r q) Pr (n + 1) cH' H' ∧ E.le (E.add n r q) := by
  have hf := h.fresh n (Nat.le_refl _)
  have hle : E.le (E.add n r q) := En.le_add hf
  have h' := h.ext he
  have out : ∀ b q, E b ≠ some (r, q) := fun b q hx => by have := (h.blk b r q hx).1; omega
  have old : ∀ b x, E.add n r q b = some x → b ≠ n → E b = some x := fun b x hx hne => by
    unfold En.add at hx; rwa [if_neg hne] at hx
  refine ⟨⟨fun b hb => ?_, fun b x hx => ?_, fun b r' q' hx => ?_, fun b b' r' q1 q2 hx hx' hw hd => ?_, fun r' o' s hp' => ?_⟩, hle⟩
  · unfold En.add; rw [if_neg (by omega)]; exact h.fresh b (by omega)
  · by_cases e : b = n
    · omega
    · exact h.small b x (old b x hx e)
  · by_cases e : b = n
    · subst e
      rw [En.add_self] at hx
      cases hx
      exact ⟨hr', by rw [h1]; exact hb⟩
    · have h3 := old _ _ hx e
      obtain ⟨g1, g2⟩ := h'.blk b r' q' h3
      exact ⟨g1, by rw [h2 b (h.small _ _ h3) e]; exact g2.mono hle⟩
  · by_cases e : b = n
    · by_cases e' : b' = n
      · omega
      · subst e
        rw [En.add_self] at hx; cases hx
        exact absurd (old _ _ hx' e') (out _ _)
    · by_cases e' : b' = n
      · subst e'
        rw [En.add_self] at hx'; cases hx'
        exact absurd (old _ _ hx e) (out _ _)
      · have h3 := old _ _ hx e
        have h4 := old _ _ hx' e'
        rw [h2 b (h.small _ _ h3) e] at hw
        rw [h2 b' (h.small _ _ h4) e'] at hd
        exact h.inj b b' r' q1 q2 h3 h4 hw hd
  · obtain ⟨g1, g2⟩ := h'.pr r' o' s hp'
    have hlt := (Array.getElem?_eq_some_iff.1 (h.pr r' o' s hp').1).1
    refine ⟨g1, fun b q' hx => ?_⟩
    by_cases e : b = n
    · subst e; rw [En.add_self] at hx; cases hx; omega
    · have h3 := old _ _ hx e
      rw [h2 b (h.small _ _ h3) e]
      exact g2 b q' h3
/-- What is no longer asked for is forgotten. -/
theorem Rel.forget (h : Rel E Pr n cH H) {cH' : He} (hc : ∀ b, b < 65536 → hg b cH' = hg b cH ∨ hg b cH' = .dead) : Rel E Pr n cH' H := by
  refine ⟨h.fresh, h.small, fun b r q hx => ?_, fun b b' r q q' hx hx' hw hd => ?_, fun r o s hp => ?_⟩
  · obtain ⟨g1, g2⟩ := h.blk b r q hx
    refine ⟨g1, ?_⟩
    rcases hc b (h.small _ _ hx) with e | e
    · rw [e]; exact g2
    · rw [e]; exact trivial
  · have e : hg b cH' = hg b cH := by
      rcases hc b (h.small _ _ hx) with e | e
      · exact e
      · rw [e] at hw; exact hw.elim
    have e' : hg b' cH' = hg b' cH := by
      rcases hc b' (h.small _ _ hx') with e | e
      · exact e
      · exact absurd e hd
    rw [e] at hw; rw [e'] at hd
    exact h.inj b b' r q q' hx hx' hw hd
  · obtain ⟨g1, g2⟩ := h.pr r o s hp
    refine ⟨g1, fun b q hx => ?_⟩
    obtain ⟨g3, g4⟩ := g2 b q hx
    refine ⟨g3, ?_⟩
    rcases hc b (h.small _ _ hx) with e | e
    · rw [e]; exact g4
    · rw [e]; exact id
/-- The heap that a closed call meets: nothing is known of it, and nothing of it is turned. -/
def Pr0 (H : Heap) : Prt := fun r => (H[r]?).map fun o => (o, false)
theorem Rel.init (H : Heap) : Rel (fun _ => none) (Pr0 H) 0 H0 H := by
  refine ⟨fun _ _ => rfl, fun b x hx => (by cases hx), fun b r q hx => (by cases hx), fun b b' r q q' hx => (by cases hx), fun r o s hp => ⟨?_, fun b q hx => (by cases hx)⟩⟩
  unfold Pr0 at hp
  cases e : H[r]? with
  | none => rw [e] at hp; cases hp
  | some x => rw [e] at hp; simp at hp; rw [hp.1]
theorem Rel.kept (h : Rel E (Pr0 H) n cH H') : ∀ k, k < H.size → H'[k]? = H[k]? := fun k hk => by
  have : Pr0 H k = some (H[k], false) := by unfold Pr0; rw [Array.getElem?_eq_getElem hk]; rfl
  rw [(h.pr k _ _ this).1, Array.getElem?_eq_getElem hk]
theorem Rel.kept_ext (h : Rel E (Pr0 H) n cH H') : Ext [] H H' := by
  refine ⟨?_, fun k hk _ => h.kept k hk⟩
  by_cases h0 : H.size = 0
  · omega
  · have := h.kept (H.size - 1) (by omega)
    rw [Array.getElem?_eq_getElem (show H.size - 1 < H.size by omega)] at this
    have := (Array.getElem?_eq_some_iff.1 this).1
    omega
end
/-- A closed law, run. -/
theorem law_of_run {M : Mc} (hO : OrcOk M) (hC : CorOk M) (hG : GdOk M) (hm : M.P.follows .mixedOrders = true) (hng : M.ng = 0) {m : Nat} {g : Nat} {HV : He} {nV : Nat} (h : run M m (goin M.P g .nil (.fin g) .nil H0 0) = .done (.bool true) HV nV) (H : Heap) :
    Does M.P g [] H fun v H' => v = .bool true ∧ Ext [] H H' := by
  have := does_of_run (E := fun _ => none) hO hC hG hm h (vs := []) LR.nil' (fun g hg => by omega) (Rel.init H) (X := fun _ _ => False)
  refine (this.mono ?_ fun _ _ h => h).plain fun _ _ h => h
  rintro v H' ⟨E', _, hr, hv⟩
  exact ⟨hv, hr.kept_ext⟩
end Go.Ex
end

section
/-! slices.Equal of bytes, told. -/
namespace Go.Ex
open Go Go.Vc Go.Proofs

noncomputable def isSl (v : CV) : Bool := bSl (fun _ _ _ _ => true) (fun _ _ _ _ => true) true true v
theorem isSl_ok {E : En} {v : CV} {x : Value} (h : isSl v = true) (hv : VR E v x) : ∃ a l c, x = .slice a l c := by
  cases v with
  | slc b o n c => obtain ⟨r, q, _, rfl, _⟩ := hv; exact ⟨_, _, _, rfl⟩
  | slu b o e n => obtain ⟨r, q, _, rfl, _⟩ := hv; exact ⟨_, _, _, rfl⟩
  | sle => obtain ⟨r, o, c, rfl⟩ := hv; exact ⟨_, _, _, rfl⟩
  | snil => have hv : x = .slice none 0 0 := hv; exact ⟨_, _, _, hv⟩
  | _ => cases h
noncomputable def o_equal : OF := fun l H n k =>
  sList no (fun a r => sList no (fun b r2 => sList (bi (an (isSl a) (isSl b)) (rowB a H fun n1 w1 => rowB b H fun n2 w2 => bi (Nat.ble n1 1000000) (bi (an (Nat.beq n1 n2) (Nat.beq (sub8 0 n1 w1) (sub8 0 n1 w2))) (k (.bool true) H n) (k (.bool false) H n)) no) no) (fun _ _ => no) r2) r) l
theorem o_equal_ok {Ok : St → Prop} [Okay Ok] {ng : Nat} {l : CV} {cH : He} {n : Nat} {k : EK} (h : Ok (o_equal l cH n k)) : ∃ cv cH' n', Ok (k cv cH' n') ∧
    ∀ E Pr H vs, (∀ g, g < ng → ∃ q, E g = some (g, q)) → LR E l vs → Rel E Pr n cH H → ∀ X, DoesX Tryz.prog 107 vs H (fun v H' => ∃ E', E.le E' ∧ Rel E' Pr n' cH' H' ∧ VR E' cv v) X := by
  unfold o_equal at h
  rcases sList_ok h with ⟨_, h⟩ | ⟨a, r, e0, h1⟩
  · exact no_ok h
  clear h
  subst e0
  rcases sList_ok (x := r) h1 with ⟨_, h⟩ | ⟨b, r2, e0, h2⟩
  · exact no_ok h
  clear h1
  subst e0
  rcases sList_ok (x := r2) h2 with ⟨e0, h⟩ | ⟨_, _, _, h⟩
  · subst e0
    obtain ⟨h1, h2⟩ := bi_ok h
    obtain ⟨s1, s2⟩ := an_true.1 h1
    obtain ⟨n1, w1, h3, h4⟩ := rowB_ok h2
    obtain ⟨n2, w2, h5, h6⟩ := rowB_ok h3
    obtain ⟨h7, h8⟩ := bi_ok h5
    have hle : n1 ≤ 1000000 := Nat.le_of_ble_eq_true h7
    have fin : ∀ t, Ok (k (.bool t) cH n) → (t = decide (byteL n1 w1 = byteL n2 w2)) → ∃ cv cH' n', Ok (k cv cH' n') ∧
        ∀ E Pr H vs, (∀ g, g < ng → ∃ q, E g = some (g, q)) → LR E (.cons a (.cons b .nil)) vs → Rel E Pr n cH H → ∀ X, DoesX Tryz.prog 107 vs H (fun v H' => ∃ E', E.le E' ∧ Rel E' Pr n' cH' H' ∧ VR E' cv v) X := by
      intro t ht he
      refine ⟨_, _, _, ht, ?_⟩
      rintro E Pr H vs _ ⟨x, r1, hx, ⟨y, r2, hy, hr2, rfl⟩, rfl⟩ hr X
      have hr2 : r2 = [] := hr2
      subst hr2
      obtain ⟨e1, e2, _⟩ := h4 E Pr n H x hx hr
      obtain ⟨f1, f2, _⟩ := h6 E Pr n H y hy hr
      obtain ⟨a1, l1, c1, rfl⟩ := isSl_ok s1 hx
      obtain ⟨a2, l2, c2, rfl⟩ := isSl_ok s2 hy
      have e1 : l1 = n1 := e1
      have f1 : l2 = n2 := f1
      subst e1; subst f1
      have := eqB_ok (xs := byteL l1 w1) (ys := byteL l2 w2) (a := a1) (a' := a2) (c := c1) (c' := c2) (H := H) (by rw [byteL_length]; exact hle) (by rw [byteL_length]; exact e2) (by rw [byteL_length]; exact f2)
      rw [byteL_length, byteL_length] at this
      refine (Does.x this).mono ?_ fun _ _ h => h
      rintro v H' ⟨rfl, rfl⟩
      exact ⟨E, En.le.refl E, hr, by rw [he]; rfl⟩
    cases hb : an (Nat.beq n1 n2) (Nat.beq (sub8 0 n1 w1) (sub8 0 n1 w2)) with
    | true =>
      rw [hb] at h8
      obtain ⟨b1, b2⟩ := an_true.1 hb
      have b1 := Nat.eq_of_beq_eq_true b1
      have b2 := Nat.eq_of_beq_eq_true b2
      exact fin true h8 (by rw [decide_eq_true (byteL_inj.2 ⟨b1, b2⟩)])
    | false =>
      rw [hb] at h8
      refine fin false h8 (by
        symm
        rw [decide_eq_false_iff_not]
        intro e
        obtain ⟨b1, b2⟩ := byteL_inj.1 e
        have : an (Nat.beq n1 n2) (Nat.beq (sub8 0 n1 w1) (sub8 0 n1 w2)) = true := an_true.2 ⟨by rw [b1]; exact Nat.beq_refl _, by rw [b2]; exact Nat.beq_refl _⟩
        rw [hb] at this; cases this)
  · exact no_ok h
end Go.Ex
end

section
open Go Go.Vc
namespace Go.Proofs
set_option maxRecDepth 100000
/-- slices.Chunk[[]byte,byte]$1, region 0 -/
theorem Ck0 (H : Heap) (R : Value → Heap → Prop) : Part Tryz.prog 165 0 [] [4] H R = (
  R (.int .i64 0) H) := by kernel_rfl


/-- slices.Chunk[[]byte,byte]$1, region 1 -/
theorem Ck1 (p1 : Nat) (x4 : Int) (H : Heap) (R : Value → Heap → Prop) : Part Tryz.prog 165 1 [(1, .v (.pointer (some (⟨p1, 0, none⟩ : Addr)))), (4, .v (.int .i64 x4))] [9] H R = (
  ∃ a1 : Option Addr, ∃ l2 : Nat, ∃ c3 : Nat, hcell H p1 0 = some (.slice a1 l2 c3) ∧ (
    R (.bool (@decide ((x4 : Int) < (l2 : Int)) (Classical.propDecidable _))) H)) := by kernel_rfl


/-- slices.Chunk[[]byte,byte]$1, region 3 -/
theorem Ck3 (p1 : Nat) (p2 : Nat) (x4 : Int) (H : Heap) (R : Value → Heap → Prop) : Part Tryz.prog 165 3 [(1, .v (.pointer (some (⟨p1, 0, none⟩ : Addr)))), (2, .v (.pointer (some (⟨p2, 0, none⟩ : Addr)))), (4, .v (.int .i64 x4))] [5] H R = (
  ∃ n1 : Int, hcell H p2 0 = some (.int .i64 n1) ∧ (
    ∃ a2 : Option Addr, ∃ l3 : Nat, ∃ c4 : Nat, hcell H p1 0 = some (.slice a2 l3 c4) ∧ (
      (0 : Int) ≤ x4 ∧ (x4 : Int) ≤ (l3 : Int) ∧ ∀ a5 : Option Addr, a5 = (if c4 = (Int.toNat x4) then a2 else Option.map (fun x => Addr.add x ((Int.toNat x4) * 1)) a2) → (
        R (.int .i64 (min n1 ((l3 - (Int.toNat x4) : Nat) : Int))) H)))) := by kernel_rfl


/-- slices.Chunk[[]byte,byte]$1, region 4 -/
theorem Ck4 (y0 : Nat) (p1 : Nat) (x4 : Int) (x5 : Int) (H : Heap) (R : Value → Heap → Prop) : Piece Tryz.prog 165 4 0 10 [(0, .v (.func (.yield y0) #[] #[])), (1, .v (.pointer (some (⟨p1, 0, none⟩ : Addr)))), (4, .v (.int .i64 x4)), (5, .v (.int .i64 x5))] [19, 28] H R = (
  ∃ a1 : Option Addr, ∃ l2 : Nat, ∃ c3 : Nat, hcell H p1 0 = some (.slice a1 l2 c3) ∧ (
    (In64 (x4 + x5)) ∧
    (In64 (x4 + x5)) ∧
    (0 : Int) ≤ x4 ∧ (x4 : Int) ≤ (x4 + x5) ∧ ((x4 + x5) : Int) ≤ (x4 + x5) ∧ ((x4 + x5) : Int) ≤ (c3 : Int) ∧ ∀ a4 : Option Addr, a4 = (if Int.toNat (x4 + x5) = (Int.toNat x4) then a1 else Option.map (fun x => Addr.add x ((Int.toNat x4) * 1)) a1) → (
      R (.tuple #[(.func (.yield y0) #[] #[]), (.slice a4 (Int.toNat (x4 + x5) - (Int.toNat x4)) (Int.toNat (x4 + x5) - (Int.toNat x4)))]) H))) := by kernel_rfl


/-- slices.Chunk[[]byte,byte]$1, region 4 -/
theorem Ck5 (x29 : Bool) (H : Heap) (R : Value → Heap → Prop) : Piece Tryz.prog 165 4 11 12 [(29, .v (.bool x29))] [30] H R = (
  R (.bool (@decide (x29 = false) (Classical.propDecidable _))) H) := by kernel_rfl


/-- slices.Chunk[[]byte,byte]$1, region 2 -/
theorem Ck2 (p2 : Nat) (x4 : Int) (H : Heap) (R : Value → Heap → Prop) : Part Tryz.prog 165 2 [(2, .v (.pointer (some (⟨p2, 0, none⟩ : Addr)))), (4, .v (.int .i64 x4))] [4] H R = (
  ∃ n1 : Int, hcell H p2 0 = some (.int .i64 n1) ∧ (
    (In64 (x4 + n1)) ∧
    R (.int .i64 (x4 + n1)) H)) := by kernel_rfl


/-- slices.Chunk[[]pentimento/journal.Write,pentimento/journal.Write]$1, region 0 -/
theorem Cw0 (H : Heap) (R : Value → Heap → Prop) : Part Tryz.prog 96 0 [] [4] H R = (
  R (.int .i64 0) H) := by kernel_rfl


/-- slices.Chunk[[]pentimento/journal.Write,pentimento/journal.Write]$1, region 1 -/
theorem Cw1 (p1 : Nat) (x4 : Int) (H : Heap) (R : Value → Heap → Prop) : Part Tryz.prog 96 1 [(1, .v (.pointer (some (⟨p1, 0, none⟩ : Addr)))), (4, .v (.int .i64 x4))] [9] H R = (
  ∃ a1 : Option Addr, ∃ l2 : Nat, ∃ c3 : Nat, hcell H p1 0 = some (.slice a1 l2 c3) ∧ (
    R (.bool (@decide ((x4 : Int) < (l2 : Int)) (Classical.propDecidable _))) H)) := by kernel_rfl


/-- slices.Chunk[[]pentimento/journal.Write,pentimento/journal.Write]$1, region 3 -/
theorem Cw3 (p1 : Nat) (p2 : Nat) (x4 : Int) (H : Heap) (R : Value → Heap → Prop) : Part Tryz.prog 96 3 [(1, .v (.pointer (some (⟨p1, 0, none⟩ : Addr)))), (2, .v (.pointer (some (⟨p2, 0, none⟩ : Addr)))), (4, .v (.int .i64 x4))] [5] H R = (
  ∃ n1 : Int, hcell H p2 0 = some (.int .i64 n1) ∧ (
    ∃ a2 : Option Addr, ∃ l3 : Nat, ∃ c4 : Nat, hcell H p1 0 = some (.slice a2 l3 c4) ∧ (
      (0 : Int) ≤ x4 ∧ (x4 : Int) ≤ (l3 : Int) ∧ ∀ a5 : Option Addr, a5 = (if c4 = (Int.toNat x4) then a2 else Option.map (fun x => Addr.add x ((Int.toNat x4) * 2)) a2) → (
        R (.int .i64 (min n1 ((l3 - (Int.toNat x4) : Nat) : Int))) H)))) := by kernel_rfl


/-- slices.Chunk[[]pentimento/journal.Write,pentimento/journal.Write]$1, region 4 -/
theorem Cw4 (y0 : Nat) (p1 : Nat) (x4 : Int) (x5 : Int) (H : Heap) (R : Value → Heap → Prop) : Piece Tryz.prog 96 4 0 10 [(0, .v (.func (.yield y0) #[] #[])), (1, .v (.pointer (some (⟨p1, 0, none⟩ : Addr)))), (4, .v (.int .i64 x4)), (5, .v (.int .i64 x5))] [19, 28] H R = (
  ∃ a1 : Option Addr, ∃ l2 : Nat, ∃ c3 : Nat, hcell H p1 0 = some (.slice a1 l2 c3) ∧ (
    (In64 (x4 + x5)) ∧
    (In64 (x4 + x5)) ∧
    (0 : Int) ≤ x4 ∧ (x4 : Int) ≤ (x4 + x5) ∧ ((x4 + x5) : Int) ≤ (x4 + x5) ∧ ((x4 + x5) : Int) ≤ (c3 : Int) ∧ ∀ a4 : Option Addr, a4 = (if Int.toNat (x4 + x5) = (Int.toNat x4) then a1 else Option.map (fun x => Addr.add x ((Int.toNat x4) * 2)) a1) → (
      R (.tuple #[(.func (.yield y0) #[] #[]), (.slice a4 (Int.toNat (x4 + x5) - (Int.toNat x4)) (Int.toNat (x4 + x5) - (Int.toNat x4)))]) H))) := by kernel_rfl


/-- slices.Chunk[[]pentimento/journal.Write,pentimento/journal.Write]$1, region 4 -/
theorem Cw5 (x29 : Bool) (H : Heap) (R : Value → Heap → Prop) : Piece Tryz.prog 96 4 11 12 [(29, .v (.bool x29))] [30] H R = (
  R (.bool (@decide (x29 = false) (Classical.propDecidable _))) H) := by kernel_rfl


/-- slices.Chunk[[]pentimento/journal.Write,pentimento/journal.Write]$1, region 2 -/
theorem Cw2 (p2 : Nat) (x4 : Int) (H : Heap) (R : Value → Heap → Prop) : Part Tryz.prog 96 2 [(2, .v (.pointer (some (⟨p2, 0, none⟩ : Addr)))), (4, .v (.int .i64 x4))] [4] H R = (
  ∃ n1 : Int, hcell H p2 0 = some (.int .i64 n1) ∧ (
    (In64 (x4 + n1)) ∧
    R (.int .i64 (x4 + n1)) H)) := by kernel_rfl


/-- slices.AppendSeq[[][]byte,[]byte], region 0 -/
theorem Aq0 (x0 : Option Addr) (x0l : Nat) (x0c : Nat) (H : Heap) (R : Value → Heap → Prop) : Part Tryz.prog 164 0 [(0, .v (.slice x0 x0l x0c))] [2] H R = (
  ∀ b1 : Nat, ∀ H2 : Heap, New H b1 [(.slice x0 x0l x0c)] 64 H2 → (
    R (.pointer (some (⟨b1, 0, none⟩ : Addr))) H2)) := by kernel_rfl


/-- slices.AppendSeq[[][]byte,[]byte], region 1 -/
theorem Aq1 (x1 : Value) (H : Heap) (R : Value → Heap → Prop) : Part Tryz.prog 164 1 [(1, .v x1)] [6] H R = (
  R x1 H) := by kernel_rfl


/-- slices.AppendSeq[[][]byte,[]byte], region 2 -/
theorem Aq2 (x7 : Option Addr) (x7l : Nat) (x7c : Nat) (H : Heap) (R : Value → Heap → Prop) : Part Tryz.prog 164 2 [(7, .v (.slice x7 x7l x7c))] [5] H R = (
  R (.slice x7 x7l x7c) H) := by kernel_rfl


/-- slices.AppendSeq[[][]byte,[]byte], region 3 -/
theorem Aq3 (p2 : Nat) (x5 : Option Addr) (x5l : Nat) (x5c : Nat) (H : Heap) (R : Value → Heap → Prop) : Part Tryz.prog 164 3 [(2, .v (.pointer (some (⟨p2, 0, none⟩ : Addr)))), (5, .v (.slice x5 x5l x5c))] [] H R = (
  ∃ a1 : Option Addr, ∃ l2 : Nat, ∃ c3 : Nat, hcell H p2 0 = some (.slice a1 l2 c3) ∧ (
    ∀ b4 : Nat, ∀ H5 : Heap, New H b4 [(.slice x5 x5l x5c)] 37 H5 → (
      ∃ old6 new7 : List Value, SRow H5 1 l2 (.slice a1 l2 c3) old6 ∧ SRow H5 1 1 (.slice (some (⟨b4, 0, none⟩ : Addr)) 1 1) new7 ∧ (∀ u ∈ new7, Value.oneCell' u = true) ∧ (l2 + 1) * 24 ≤ 140737488355328 ∧ (l2 + 1 ≤ c3 → roomOf H5 a1 (l2 * 1) (1 * 1)) ∧ ∀ a8 : Option Addr, ∀ c9 : Nat, ∀ H10 : Heap, App H5 1 37 [(.slice none 0 0)] a1 l2 c3 old6 new7 1 a8 c9 H10 → (
        Cells H10 p2 0 1 ∧ ∀ H11 : Heap, Puts H10 p2 0 [(.slice a8 (l2 + 1) c9)] H11 → (
          R (.tuple #[]) H11))))) := by kernel_rfl


/-- slices.AppendSeq[[][]byte,[]byte], region 4 -/
theorem Aq4 (p2 : Nat) (H : Heap) (R : Value → Heap → Prop) : Part Tryz.prog 164 4 [(2, .v (.pointer (some (⟨p2, 0, none⟩ : Addr))))] [4] H R = (
  ∃ a1 : Option Addr, ∃ l2 : Nat, ∃ c3 : Nat, hcell H p2 0 = some (.slice a1 l2 c3) ∧ (
    R (.slice a1 l2 c3) H)) := by kernel_rfl


/-- slices.Collect[[]byte], region 0 -/
theorem Co0 (x0 : Value) (H : Heap) (R : Value → Heap → Prop) : Part Tryz.prog 93 0 [(0, .v x0)] [] H R = (
  R (.tuple #[]) H) := by kernel_rfl


end Go.Proofs
end

section
/-! slices.Chunk's iterator. -/
open Go Go.Vc
namespace Go.Vc
theorem Ag.pick {N : Nat} {S S' : Sym} {a : Act} (h : Ag N S a) (hs : ∀ x ∈ S', Sym.get S x.1 = some x.2) : Ag N S' a := by
  refine ⟨h.size, h.defers, fun t s ht => h.agree t s ?_⟩
  have : (t, s) ∈ S' := by
    clear hs
    induction S' with
    | nil => cases ht
    | cons x r ih =>
      obtain ⟨i, u⟩ := x
      rw [get_cons] at ht
      split at ht
      · rename_i e
        subst e
        cases ht
        exact List.mem_cons_self
      · exact List.mem_cons_of_mem _ (ih ht)
  exact hs _ this
theorem one_of {vs : List Value} (h : vs.length = 1) : vs = [tupV vs] := by
  match vs, h with
  | [v], _ => rfl
theorem nil_of {vs : List Value} (h : vs.length = 0) : vs = [] := List.eq_nil_of_length_eq_zero h
end Go.Vc
namespace Go.Proofs
/-- What the k-th round is handed. -/
def chunkAt (a : Option Addr) (L n sz k : Nat) : Value :=
  .slice (if min n (L - k * n) = 0 then a else a.map (·.add (k * n * sz))) (min n (L - k * n)) (min n (L - k * n))
set_option maxHeartbeats 1000000 in
theorem chunk171_seq (p1 p2 : Nat) (a : Option Addr) (L C n : Nat) (hn : 1 ≤ n) (hL : L ≤ 4611686018427387903) (hn2 : n ≤ 4611686018427387903) (hLC : L ≤ C) :
    SeqH Tryz.prog 165 [.pointer (some ⟨p1, 0, none⟩), .pointer (some ⟨p2, 0, none⟩)] (fun k => [chunkAt a L n 1 k]) (fun k => L ≤ k * n) (fun H => hcell H p1 0 = some (.slice a L C) ∧ hcell H p2 0 = some (.int .i64 n)) := by
  intro l J Jx hpre hY H hJ w hw
  subst hw
  refine calls_of_wp Tryz.func165 rfl ?_
  have ha0 : Ag Tryz.f165.ntmps [(0, .v (.func (.yield l) #[] #[])), (1, .v (.pointer (some ⟨p1, 0, none⟩))), (2, .v (.pointer (some ⟨p2, 0, none⟩)))]
      { tmps := #[.func (.yield l) #[] #[], .pointer (some ⟨p1, 0, none⟩), .pointer (some ⟨p2, 0, none⟩)] ++ Array.replicate (Tryz.f165.ntmps - 3) undef, defers := [] } :=
    ⟨by simp [Tryz.ntmps165], rfl, start_agree [.func (.yield l) #[] #[], .pointer (some ⟨p1, 0, none⟩), .pointer (some ⟨p2, 0, none⟩)] _⟩
  let B : Nat → Sym := fun k => [(4, .v (.int .i64 ((k * n : Nat) : Int))), (0, .v (.func (.yield l) #[] #[])), (1, .v (.pointer (some ⟨p1, 0, none⟩))), (2, .v (.pointer (some ⟨p2, 0, none⟩)))]
  refine wp_seq (wp_mono (part_wp Tryz.mixed (Ck0 w.heap fun v H' => v = .int .i64 0 ∧ H' = w.heap) ⟨rfl, rfl⟩ Tryz.func165 rfl rfl ha0 (ha0.pick (by simp)) rfl) ?_)
  rintro e a1 w1 ⟨rfl, hs1, vs, hl, ⟨hv, hh⟩, ha1⟩
  rw [one_of hl, hv] at ha1
  apply wp_block
  refine wp_loop (fun a' w' => Sim w w' ∧ ∃ k, Ag Tryz.f165.ntmps (B k) a' ∧ J k w'.heap ∧ k * n ≤ L + n) (fun a' _ => L + n - (Go.RowKit.intOf (a'.tmps.getD 4 undef)).toNat) ⟨hs1, 0, ha1.pick (by
    intro x hx; simp only [B, List.mem_cons, List.mem_nil_iff, or_false] at hx; rcases hx with rfl | rfl | rfl | rfl <;> simp <;> rfl), by rw [hh]; exact hJ, by omega⟩ ?_
  rintro a2 w2 ⟨hs2, k, ha2, hj2, hk2⟩
  obtain ⟨hp1, hp2⟩ := hpre k _ hj2
  have hmu : Go.RowKit.intOf (a2.tmps.getD 4 undef) = ((k * n : Nat) : Int) := by rw [ha2.agree 4 _ rfl]; rfl
  apply wp_seq
  apply wp_seq
  refine wp_mono (part_wp Tryz.mixed (Ck1 p1 ((k * n : Nat) : Int) w2.heap fun v H' => v = .bool (decide (k * n < L)) ∧ H' = w2.heap) ⟨a, L, C, hp1, congrArg Value.bool (decide_eq_decide.2 Int.ofNat_lt), rfl⟩ Tryz.func165 rfl rfl ha2
    (ha2.pick (by intro x hx; simp only [List.mem_cons, List.mem_nil_iff, or_false] at hx; rcases hx with rfl | rfl <;> rfl)) rfl) ?_
  rintro e a3 w3 ⟨rfl, hs3, vs, hl, ⟨hv, hh3⟩, ha3⟩
  rw [one_of hl, hv] at ha3
  by_cases hlt : k * n < L
  · rw [decide_eq_true hlt] at ha3
    refine wp_cond (t := true) (ha3.agree 9 (.v (.bool true)) rfl) ?_
    simp only [if_true]
    refine wp_skip ?_
    show Code.wp _ _ _ _ _
    apply wp_seq
    apply wp_block
    have haB : Ag Tryz.f165.ntmps (B k) a3 := ha3.pick (by
      intro x hx; simp only [B, List.mem_cons, List.mem_nil_iff, or_false] at hx; rcases hx with rfl | rfl | rfl | rfl <;> rfl)
    have hlen : ((L - ((k * n : Nat) : Int).toNat : Nat) : Int) = ((L - k * n : Nat) : Int) := by rw [Int.toNat_natCast]
    refine wp_seq (wp_mono (part_wp Tryz.mixed (Ck3 p1 p2 ((k * n : Nat) : Int) w3.heap fun v H' => v = .int .i64 ((min n (L - k * n) : Nat) : Int) ∧ H' = w2.heap) ⟨(n : Int), by rw [hh3]; exact hp2, a, L, C, by rw [hh3]; exact hp1, Int.natCast_nonneg _, Int.ofNat_le.2 (Nat.le_of_lt hlt), fun a5 h5 => ⟨by rw [hlen]; simp only [Value.int.injEq, true_and]; omega, hh3⟩⟩
      Tryz.func165 rfl rfl haB (haB.pick (by intro x hx; simp only [List.mem_cons, List.mem_nil_iff, or_false] at hx; rcases hx with rfl | rfl | rfl <;> rfl)) rfl) ?_)
    rintro e a4 w4 ⟨rfl, hs4, vs, hl, ⟨hv, hh4⟩, ha4⟩
    rw [one_of hl, hv] at ha4
    obtain ⟨m, hm⟩ : ∃ m, m = min n (L - k * n) := ⟨_, rfl⟩
    rw [← hm] at ha4
    have haB5 : Ag Tryz.f165.ntmps ((5, .v (.int .i64 (m : Int))) :: B k) a4 := ha4.pick (by
      intro x hx; simp only [B, List.mem_cons, List.mem_nil_iff, or_false] at hx; rcases hx with rfl | rfl | rfl | rfl | rfl <;> rfl)
    have hbig : k * n + m ≤ L := by omega
    have hin : In64 (((k * n : Nat) : Int) + (m : Int)) := by unfold In64; omega
    have hsum : (((k * n : Nat) : Int) + (m : Int)).toNat = k * n + m := by omega
    have hnn : ((k * n : Nat) : Int).toNat = k * n := Int.toNat_natCast _
    refine wp_seq (wp_mono (yield_wp (d2 := 30) (T := fun x H' => (x = true ∧ J (k + 1) H') ∨ (x = false ∧ Jx H')) (Ck4 l p1 ((k * n : Nat) : Int) (m : Int) w4.heap fun v H' => v = .tuple #[.func (.yield l) #[] #[], chunkAt a L n 1 k] ∧ H' = w2.heap)
      ⟨a, L, C, by rw [hh4]; exact hp1, hin, hin, Int.natCast_nonneg _, by omega, Int.le_refl _, by omega, fun a4 h4 => ⟨?_, hh4⟩⟩ Tryz.func165 rfl rfl rfl (o := _) (post := _) rfl rfl rfl rfl (by decide) (by decide) ?_ ?_ haB5
      (haB5.pick (by intro x hx; simp only [List.mem_cons, List.mem_nil_iff, or_false] at hx; rcases hx with rfl | rfl | rfl | rfl <;> rfl)) rfl) ?_)
    · rw [hsum, hnn] at h4
      subst h4
      simp only [hsum, hnn]
      simp only [chunkAt, ← hm, Nat.add_sub_cancel_left]
      congr 2
      by_cases e : m = 0
      · simp [e]
      · simp [e]
    · rintro v H' ⟨rfl, rfl⟩
      refine ⟨l, _, rfl, fun w' hw' => ?_⟩
      refine YieldAt.mono (hY k w' (by rw [hw']; exact hj2) (by omega)) ?_
      rintro e W' ⟨hs, (⟨rfl, h⟩ | ⟨rfl, h⟩)⟩
      · exact ⟨hs, true, rfl, .inl ⟨rfl, h⟩⟩
      · exact ⟨hs, false, rfl, .inr ⟨rfl, h⟩⟩
    · intro x H'
      show Piece _ 165 4 11 12 _ _ _ _
      rw [Ck5]
      exact ⟨by cases x <;> simp, rfl⟩
    rintro e a5 w5 ⟨rfl, hs5, x, hT, ha5⟩
    have hsim : Sim w w5 := (((hs2.trans hs3).trans hs4).trans hs5)
    have haC : Ag Tryz.f165.ntmps ((30, .v (.bool (!x))) :: B k) a5 := ha5.pick (by
      intro y hy; simp only [B, List.mem_cons, List.mem_nil_iff, or_false] at hy; rcases hy with rfl | rfl | rfl | rfl | rfl <;> rfl)
    rcases hT with ⟨rfl, hj⟩ | ⟨rfl, hj⟩
    · refine wp_cond (t := false) (haC.agree 30 (.v (.bool false)) rfl) ?_
      simp only [Bool.false_eq_true, if_false]
      refine wp_skip ?_
      show Code.wp _ _ _ _ _
      obtain ⟨hq1, hq2⟩ := hpre (k + 1) _ hj
      refine wp_mono (part_wp Tryz.mixed (Ck2 p2 ((k * n : Nat) : Int) w5.heap fun v H' => v = .int .i64 (((k + 1) * n : Nat) : Int) ∧ H' = w5.heap) ⟨(n : Int), hq2, by unfold In64; omega, by simp only [Value.int.injEq, true_and]; rw [Nat.succ_mul]; omega, rfl⟩
        Tryz.func165 rfl rfl haC (haC.pick (by intro x hx; simp only [List.mem_cons, List.mem_nil_iff, or_false] at hx; rcases hx with rfl | rfl <;> rfl)) rfl) ?_
      rintro e a6 w6 ⟨rfl, hs6, vs, hl, ⟨hv, hh6⟩, ha6⟩
      rw [one_of hl, hv] at ha6
      have haD : Ag Tryz.f165.ntmps (B (k + 1)) a6 := ha6.pick (by
        intro y hy; simp only [B, List.mem_cons, List.mem_nil_iff, or_false] at hy; rcases hy with rfl | rfl | rfl | rfl <;> rfl)
      have hmu2 : Go.RowKit.intOf (a6.tmps.getD 4 undef) = (((k + 1) * n : Nat) : Int) := by rw [haD.agree 4 _ rfl]; rfl
      refine ⟨⟨hsim.trans hs6, k + 1, haD, by rw [hh6]; exact hj, by rw [Nat.succ_mul]; omega⟩, ?_⟩
      show _ < _
      simp only [hmu, hmu2, Int.toNat_natCast]
      rw [Nat.succ_mul]
      omega
    · refine wp_cond (t := true) (haC.agree 30 (.v (.bool true)) rfl) ?_
      simp only [if_true]
      refine wp_ret ?_
      exact ⟨haC.defers, .tuple #[], by simp [results, Tryz.results165], _, rfl, hsim, .inr hj⟩
  · rw [decide_eq_false hlt] at ha3
    refine wp_cond (t := false) (ha3.agree 9 (.v (.bool false)) rfl) ?_
    simp only [Bool.false_eq_true, if_false]
    refine wp_exit ?_
    exact ⟨ha3.defers, .tuple #[], by simp [results, Tryz.results165], _, rfl, hs2.trans hs3, .inl ⟨k, by omega, by rw [hh3]; exact hj2⟩⟩
set_option maxHeartbeats 1000000 in
theorem chunk106_seq (p1 p2 : Nat) (a : Option Addr) (L C n : Nat) (hn : 1 ≤ n) (hL : L ≤ 4611686018427387903) (hn2 : n ≤ 4611686018427387903) (hLC : L ≤ C) :
    SeqH Tryz.prog 96 [.pointer (some ⟨p1, 0, none⟩), .pointer (some ⟨p2, 0, none⟩)] (fun k => [chunkAt a L n 2 k]) (fun k => L ≤ k * n) (fun H => hcell H p1 0 = some (.slice a L C) ∧ hcell H p2 0 = some (.int .i64 n)) := by
  intro l J Jx hpre hY H hJ w hw
  subst hw
  refine calls_of_wp Tryz.func96 rfl ?_
  have ha0 : Ag Tryz.f96.ntmps [(0, .v (.func (.yield l) #[] #[])), (1, .v (.pointer (some ⟨p1, 0, none⟩))), (2, .v (.pointer (some ⟨p2, 0, none⟩)))]
      { tmps := #[.func (.yield l) #[] #[], .pointer (some ⟨p1, 0, none⟩), .pointer (some ⟨p2, 0, none⟩)] ++ Array.replicate (Tryz.f96.ntmps - 3) undef, defers := [] } :=
    ⟨by simp [Tryz.ntmps96], rfl, start_agree [.func (.yield l) #[] #[], .pointer (some ⟨p1, 0, none⟩), .pointer (some ⟨p2, 0, none⟩)] _⟩
  let B : Nat → Sym := fun k => [(4, .v (.int .i64 ((k * n : Nat) : Int))), (0, .v (.func (.yield l) #[] #[])), (1, .v (.pointer (some ⟨p1, 0, none⟩))), (2, .v (.pointer (some ⟨p2, 0, none⟩)))]
  refine wp_seq (wp_mono (part_wp Tryz.mixed (Cw0 w.heap fun v H' => v = .int .i64 0 ∧ H' = w.heap) ⟨rfl, rfl⟩ Tryz.func96 rfl rfl ha0 (ha0.pick (by simp)) rfl) ?_)
  rintro e a1 w1 ⟨rfl, hs1, vs, hl, ⟨hv, hh⟩, ha1⟩
  rw [one_of hl, hv] at ha1
  apply wp_block
  refine wp_loop (fun a' w' => Sim w w' ∧ ∃ k, Ag Tryz.f96.ntmps (B k) a' ∧ J k w'.heap ∧ k * n ≤ L + n) (fun a' _ => L + n - (Go.RowKit.intOf (a'.tmps.getD 4 undef)).toNat) ⟨hs1, 0, ha1.pick (by
    intro x hx; simp only [B, List.mem_cons, List.mem_nil_iff, or_false] at hx; rcases hx with rfl | rfl | rfl | rfl <;> simp <;> rfl), by rw [hh]; exact hJ, by omega⟩ ?_
  rintro a2 w2 ⟨hs2, k, ha2, hj2, hk2⟩
  obtain ⟨hp1, hp2⟩ := hpre k _ hj2
  have hmu : Go.RowKit.intOf (a2.tmps.getD 4 undef) = ((k * n : Nat) : Int) := by rw [ha2.agree 4 _ rfl]; rfl
  apply wp_seq
  apply wp_seq
  refine wp_mono (part_wp Tryz.mixed (Cw1 p1 ((k * n : Nat) : Int) w2.heap fun v H' => v = .bool (decide (k * n < L)) ∧ H' = w2.heap) ⟨a, L, C, hp1, congrArg Value.bool (decide_eq_decide.2 Int.ofNat_lt), rfl⟩ Tryz.func96 rfl rfl ha2
    (ha2.pick (by intro x hx; simp only [List.mem_cons, List.mem_nil_iff, or_false] at hx; rcases hx with rfl | rfl <;> rfl)) rfl) ?_
  rintro e a3 w3 ⟨rfl, hs3, vs, hl, ⟨hv, hh3⟩, ha3⟩
  rw [one_of hl, hv] at ha3
  by_cases hlt : k * n < L
  · rw [decide_eq_true hlt] at ha3
    refine wp_cond (t := true) (ha3.agree 9 (.v (.bool true)) rfl) ?_
    simp only [if_true]
    refine wp_skip ?_
    show Code.wp _ _ _ _ _
    apply wp_seq
    apply wp_block
    have haB : Ag Tryz.f96.ntmps (B k) a3 := ha3.pick (by
      intro x hx; simp only [B, List.mem_cons, List.mem_nil_iff, or_false] at hx; rcases hx with rfl | rfl | rfl | rfl <;> rfl)
    have hlen : ((L - ((k * n : Nat) : Int).toNat : Nat) : Int) = ((L - k * n : Nat) : Int) := by rw [Int.toNat_natCast]
    refine wp_seq (wp_mono (part_wp Tryz.mixed (Cw3 p1 p2 ((k * n : Nat) : Int) w3.heap fun v H' => v = .int .i64 ((min n (L - k * n) : Nat) : Int) ∧ H' = w2.heap) ⟨(n : Int), by rw [hh3]; exact hp2, a, L, C, by rw [hh3]; exact hp1, Int.natCast_nonneg _, Int.ofNat_le.2 (Nat.le_of_lt hlt), fun a5 h5 => ⟨by rw [hlen]; simp only [Value.int.injEq, true_and]; omega, hh3⟩⟩
      Tryz.func96 rfl rfl haB (haB.pick (by intro x hx; simp only [List.mem_cons, List.mem_nil_iff, or_false] at hx; rcases hx with rfl | rfl | rfl <;> rfl)) rfl) ?_)
    rintro e a4 w4 ⟨rfl, hs4, vs, hl, ⟨hv, hh4⟩, ha4⟩
    rw [one_of hl, hv] at ha4
    obtain ⟨m, hm⟩ : ∃ m, m = min n (L - k * n) := ⟨_, rfl⟩
    rw [← hm] at ha4
    have haB5 : Ag Tryz.f96.ntmps ((5, .v (.int .i64 (m : Int))) :: B k) a4 := ha4.pick (by
      intro x hx; simp only [B, List.mem_cons, List.mem_nil_iff, or_false] at hx; rcases hx with rfl | rfl | rfl | rfl | rfl <;> rfl)
    have hbig : k * n + m ≤ L := by omega
    have hin : In64 (((k * n : Nat) : Int) + (m : Int)) := by unfold In64; omega
    have hsum : (((k * n : Nat) : Int) + (m : Int)).toNat = k * n + m := by omega
    have hnn : ((k * n : Nat) : Int).toNat = k * n := Int.toNat_natCast _
    refine wp_seq (wp_mono (yield_wp (d2 := 30) (T := fun x H' => (x = true ∧ J (k + 1) H') ∨ (x = false ∧ Jx H')) (Cw4 l p1 ((k * n : Nat) : Int) (m : Int) w4.heap fun v H' => v = .tuple #[.func (.yield l) #[] #[], chunkAt a L n 2 k] ∧ H' = w2.heap)
      ⟨a, L, C, by rw [hh4]; exact hp1, hin, hin, Int.natCast_nonneg _, by omega, Int.le_refl _, by omega, fun a4 h4 => ⟨?_, hh4⟩⟩ Tryz.func96 rfl rfl rfl (o := _) (post := _) rfl rfl rfl rfl (by decide) (by decide) ?_ ?_ haB5
      (haB5.pick (by intro x hx; simp only [List.mem_cons, List.mem_nil_iff, or_false] at hx; rcases hx with rfl | rfl | rfl | rfl <;> rfl)) rfl) ?_)
    · rw [hsum, hnn] at h4
      subst h4
      simp only [hsum, hnn]
      simp only [chunkAt, ← hm, Nat.add_sub_cancel_left]
      congr 2
      by_cases e : m = 0
      · simp [e]
      · simp [e]
    · rintro v H' ⟨rfl, rfl⟩
      refine ⟨l, _, rfl, fun w' hw' => ?_⟩
      refine YieldAt.mono (hY k w' (by rw [hw']; exact hj2) (by omega)) ?_
      rintro e W' ⟨hs, (⟨rfl, h⟩ | ⟨rfl, h⟩)⟩
      · exact ⟨hs, true, rfl, .inl ⟨rfl, h⟩⟩
      · exact ⟨hs, false, rfl, .inr ⟨rfl, h⟩⟩
    · intro x H'
      show Piece _ 96 4 11 12 _ _ _ _
      rw [Cw5]
      exact ⟨by cases x <;> simp, rfl⟩
    rintro e a5 w5 ⟨rfl, hs5, x, hT, ha5⟩
    have hsim : Sim w w5 := (((hs2.trans hs3).trans hs4).trans hs5)
    have haC : Ag Tryz.f96.ntmps ((30, .v (.bool (!x))) :: B k) a5 := ha5.pick (by
      intro y hy; simp only [B, List.mem_cons, List.mem_nil_iff, or_false] at hy; rcases hy with rfl | rfl | rfl | rfl | rfl <;> rfl)
    rcases hT with ⟨rfl, hj⟩ | ⟨rfl, hj⟩
    · refine wp_cond (t := false) (haC.agree 30 (.v (.bool false)) rfl) ?_
      simp only [Bool.false_eq_true, if_false]
      refine wp_skip ?_
      show Code.wp _ _ _ _ _
      obtain ⟨hq1, hq2⟩ := hpre (k + 1) _ hj
      refine wp_mono (part_wp Tryz.mixed (Cw2 p2 ((k * n : Nat) : Int) w5.heap fun v H' => v = .int .i64 (((k + 1) * n : Nat) : Int) ∧ H' = w5.heap) ⟨(n : Int), hq2, by unfold In64; omega, by simp only [Value.int.injEq, true_and]; rw [Nat.succ_mul]; omega, rfl⟩
        Tryz.func96 rfl rfl haC (haC.pick (by intro x hx; simp only [List.mem_cons, List.mem_nil_iff, or_false] at hx; rcases hx with rfl | rfl <;> rfl)) rfl) ?_
      rintro e a6 w6 ⟨rfl, hs6, vs, hl, ⟨hv, hh6⟩, ha6⟩
      rw [one_of hl, hv] at ha6
      have haD : Ag Tryz.f96.ntmps (B (k + 1)) a6 := ha6.pick (by
        intro y hy; simp only [B, List.mem_cons, List.mem_nil_iff, or_false] at hy; rcases hy with rfl | rfl | rfl | rfl <;> rfl)
      have hmu2 : Go.RowKit.intOf (a6.tmps.getD 4 undef) = (((k + 1) * n : Nat) : Int) := by rw [haD.agree 4 _ rfl]; rfl
      refine ⟨⟨hsim.trans hs6, k + 1, haD, by rw [hh6]; exact hj, by rw [Nat.succ_mul]; omega⟩, ?_⟩
      show _ < _
      simp only [hmu, hmu2, Int.toNat_natCast]
      rw [Nat.succ_mul]
      omega
    · refine wp_cond (t := true) (haC.agree 30 (.v (.bool true)) rfl) ?_
      simp only [if_true]
      refine wp_ret ?_
      exact ⟨haC.defers, .tuple #[], by simp [results, Tryz.results96], _, rfl, hsim, .inr hj⟩
  · rw [decide_eq_false hlt] at ha3
    refine wp_cond (t := false) (ha3.agree 9 (.v (.bool false)) rfl) ?_
    simp only [Bool.false_eq_true, if_false]
    refine wp_exit ?_
    exact ⟨ha3.defers, .tuple #[], by simp [results, Tryz.results96], _, rfl, hs2.trans hs3, .inl ⟨k, by omega, by rw [hh3]; exact hj2⟩⟩
end Go.Proofs
end

section
/-! Regions behind a range over a function: the activation has calls to be taken at its end. -/
open Go
namespace Go.Vc
def Act.with (ds : List Deferred) (a : Act) : Act := { a with defers := a.defers ++ ds }
theorem upon_with {P : Program} {ds : List Deferred} {o : Oper} {a : Act} {Q Q' : Exit → Act → World → Prop} {next next' : Act → World → Prop} (hn : ∀ a w, next a w → next' (Act.with ds a) w) (hq : ∀ e a w, Q e a w → Q' e (Act.with ds a) w) (hQ : ¬ LetsOut Q) :
    ∀ (res : Result Next), o.upon P a next Q res → o.upon P (Act.with ds a) next' Q' res := by
  intro res h
  have hput : ∀ (a : Act) v, (Act.with ds a).put o.dst v = Act.with ds (a.put o.dst v) := fun a v => by
    unfold Act.put Act.with
    split <;> rfl
  unfold Oper.upon at h ⊢
  split at h
  · have := hn _ _ h; rwa [← hput] at this
  · have := hn _ _ h; rwa [← hput] at this
  · have := hn _ _ h; rwa [← hput] at this
  · refine h.mono ?_
    intro e w'' h
    cases e with
    | returned v => have := hn _ _ h; rwa [← hput] at this
    | panicked ch => exact hq _ _ _ h
    | outgrown => exact absurd h hQ
  · refine h.mono fun v w'' h => ?_
    have := hn _ _ h; rwa [← hput] at this
  · exact hq _ _ _ h
  · exact h.elim
theorem wpOps_with {P : Program} {ds : List Deferred} {ops : Array Oper} {Q Q' : Exit → Act → World → Prop} (hq : ∀ e a w, Q e a w → Q' e (Act.with ds a) w) (hQ : ¬ LetsOut Q) : ∀ (l : List Nat) (a : Act) (w : World), wpOps P ops Q l a w → wpOps P ops Q' l (Act.with ds a) w
  | [], a, w, h => hq _ _ _ h
  | i :: rest, a, w, h => by
    simp only [wpOps] at h ⊢
    cases ho : ops[i]? with
    | none => simp only [ho] at h ⊢; exact wpOps_with hq hQ rest a w h
    | some o =>
      simp only [ho] at h ⊢
      have ey : yielded ops (Act.with ds a).tmps = yielded ops a.tmps := rfl
      rw [ey]
      by_cases hw : Region.wanted o (yielded ops a.tmps) = true
      · rw [if_pos hw] at h ⊢
        rcases h with h | h
        · exact .inl (upon_with (fun a w h => wpOps_with hq hQ rest a w h) hq hQ _ h)
        · exact absurd h.2 hQ
      · rw [if_neg hw] at h ⊢
        have := wpOps_with hq hQ rest _ w h
        have hput : (Act.with ds a).put o.dst undef = Act.with ds (a.put o.dst undef) := by
          unfold Act.put Act.with
          split <;> rfl
        rw [hput]; exact this

section
variable {P : Program} {f r : Nat} {S : Sym} {outs : List Nat} {H : Heap} {R : Value → Heap → Prop} {V : Prop} {fn : Func} {c0 : Code}
/-- A region that draws no order, of an activation that has calls to be taken. -/
theorem part_with (e : Part P f r S outs H R = V) (h : V) (hf : P.funcs[f]? = some fn) (hb : fn.body = some c0) {id : Nat} {ops : Array Oper} (hc : findR r c0 = some (.region id ops false)) {a : Act} {w : World} {S' : Sym} (hx : Ag fn.ntmps S' { a with defers := [] }) (ha : Ag fn.ntmps S { a with defers := [] }) (hw : w.heap = H) :
    (Code.region id ops false).wp P (fun e a' w' => QP R outs (dstsL ops.toList) S' fn.ntmps w e { a' with defers := [] } w' ∧ a'.defers = a.defers) a w := by
  rw [← e] at h
  unfold Part at h
  rw [hf] at h
  simp only [hb, hc] at h
  split at h
  · rename_i sc hsc
    subst hw
    simp only [compC] at hsc
    split at hsc
    · rename_i lo hl
      simp only [Option.some.injEq] at hsc
      subst hsc
      refine wp_region ?_
      have hl := ops_sound (Q := QP R outs (dstsL ops.toList) S' fn.ntmps w) ops.toList lo hl S { a with defers := [] } w _ ha h (fun _ a' w' ha' hs hfr hk => QP_of hx ha' hfr hs hk) fun _ _ _ _ _ h => h.elim
      rw [← wpOps_eq_wpList ops.toList 0 (by simp)] at hl
      have e0 : Act.with a.defers { a with defers := [] } = a := by unfold Act.with; simp
      have := wpOps_with (ds := a.defers) (Q' := fun e a' w' => QP R outs (dstsL ops.toList) S' fn.ntmps w e { a' with defers := [] } w' ∧ a'.defers = a.defers) (fun e a' w' hq => ?_) QP.out _ _ _ hl
      · rw [e0] at this
        rw [List.range_eq_range', ← Array.length_toList]
        exact this
      · obtain ⟨q1, q2, vs, q3, q4, q5⟩ := hq
        have hd := q5.defers
        refine ⟨⟨q1, q2, vs, q3, q4, ⟨q5.size, rfl, q5.agree⟩⟩, ?_⟩
        show a'.defers ++ a.defers = a.defers
        rw [hd]; rfl
    · cases hsc
  · exact h.elim
end
end Go.Vc
end

section
/-! slices.AppendSeq and slices.Collect at []byte. -/
open Go Go.Vc
namespace Go.Vc
theorem ext_set (H : Heap) (l : Nat) (o : Obj) : Ext [l] H (H.setIfInBounds l o) := ⟨by simp, fun k _ hm => by
  simp only [List.mem_singleton] at hm
  rw [Array.getElem?_setIfInBounds_ne (Ne.symm hm)]⟩
theorem ext_set_new {H0 H : Heap} {l : Nat} (o : Obj) (h : Ext [] H0 H) (hl : H0.size ≤ l) : Ext [] H0 (H.setIfInBounds l o) := ⟨by simpa using h.size, fun k hk _ => by
  rw [Array.getElem?_setIfInBounds_ne (by omega)]
  exact h.keep k hk (by simp)⟩
end Go.Vc
namespace Go.Proofs
/-- What AppendSeq has, behind k rounds. -/
def ApI (H0 : Heap) (base : Nat) (enc : Nat → Value) (fin : Nat → Prop) (k : Nat) (H : Heap) : Prop :=
  (∀ j, j < k → ¬ fin j) ∧ Ext [] H0 H ∧ base + 2 ≤ H.size ∧ ∃ a c, Blk H H0.size [.slice a k c] ∧ Own H 1 a k c ((List.range k).map enc) ∧ (∀ q ∈ blkOf a, base + 2 ≤ q) ∧ (k = 0 → a = none ∧ c = 0)
set_option maxHeartbeats 1000000 in
theorem appendSeq_ok {gf : Nat} {lb : List Value} (eg : ∀ args w, (callFunc gf args).run Tryz.prog w = .ok (.enter gf args) w) {enc : Nat → Value} (henc : ∀ k, ∃ a l c, enc k = .slice a l c) {fin : Nat → Prop} {pre : Heap → Prop}
    (hseq : SeqH Tryz.prog gf lb (fun k => [enc k]) fin pre) {H : Heap} (hpre : ∀ H', Ext [] H H' → pre H') (hfew : ∀ k, ¬ fin k → (k + 1) * 24 ≤ 140737488355328) :
    Does Tryz.prog 164 [.slice none 0 0, .func (.func gf) #[] lb.toArray] H fun v H' => ∃ k a c, fin k ∧ (∀ j, j < k → ¬ fin j) ∧ v = .slice a k c ∧ Own H' 1 a k c ((List.range k).map enc) ∧ (∀ q ∈ blkOf a, H.size ≤ q) ∧ (k = 0 → a = none ∧ c = 0) ∧ Ext [] H H' := by
  intro w hw
  subst hw
  refine callsIn_wide.1 (callsIn_of_wp_marks (n := 0) Tryz.func164 rfl trivial (wpIn_wide.2 ?_))
  have ha0 : Ag Tryz.f164.ntmps [(0, .v (.slice none 0 0)), (1, .v (.func (.func gf) #[] lb.toArray))]
      { tmps := #[.slice none 0 0, .func (.func gf) #[] lb.toArray] ++ Array.replicate (Tryz.f164.ntmps - 2) undef, defers := [] } :=
    ⟨by simp [Tryz.ntmps164], rfl, start_agree [.slice none 0 0, .func (.func gf) #[] lb.toArray] _⟩
  refine wp_seq (wp_mono (part_wp Tryz.mixed (Aq0 none 0 0 w.heap fun v H' => v = .pointer (some ⟨w.heap.size, 0, none⟩) ∧ New w.heap w.heap.size [.slice none 0 0] 64 H') (fun b1 H2 hn => by
    obtain ⟨rfl, h⟩ := hn
    exact ⟨rfl, rfl, h⟩) Tryz.func164 rfl rfl ha0 (ha0.pick (by intro x hx; simp only [List.mem_cons, List.mem_nil_iff, or_false] at hx; rcases hx with rfl; rfl)) rfl) ?_)
  rintro e a1 w1 ⟨rfl, hs1, vs, hl, ⟨hv, hnew⟩, ha1⟩
  rw [one_of hl, hv] at ha1
  have hsz1 : w1.heap.size = w.heap.size + 1 := hnew.size
  apply wp_seq
  refine wp_seq (wp_mono (part_wp Tryz.mixed (Aq1 (.func (.func gf) #[] lb.toArray) w1.heap fun v H' => v = .func (.func gf) #[] lb.toArray ∧ H' = w1.heap) ⟨rfl, rfl⟩ Tryz.func164 rfl rfl ha1 (ha1.pick (by
    intro x hx; simp only [List.mem_cons, List.mem_nil_iff, or_false] at hx; rcases hx with rfl; rfl)) rfl) ?_)
  rintro e a2 w2 ⟨rfl, hs2, vs, hl, ⟨hv, hh2⟩, ha2⟩
  rw [one_of hl, hv] at ha2
  have haB : Ag Tryz.f164.ntmps [(6, .v (.func (.func gf) #[] lb.toArray)), (2, .v (.pointer (some ⟨w.heap.size, 0, none⟩)))] a2 := ha2.pick (by
    intro x hx; simp only [List.mem_cons, List.mem_nil_iff, or_false] at hx; rcases hx with rfl | rfl <;> rfl)
  have hsz2 : w2.heap.size = w.heap.size + 1 := by rw [hh2]; exact hsz1
  apply wp_block
  refine range_heap (gf := gf) (lb := lb) (haB.agree 6 _ rfl) eg hseq (fun k => rfl) (ApI w.heap w2.heap.size enc fin) (fun _ => False) (fun k H h => hpre H h.2.1) ?_ ?_ (fun H rec h => h.elim) (fun k a' => Ag Tryz.f164.ntmps [(5, .v (enc k)), (2, .v (.pointer (some ⟨w.heap.size, 0, none⟩)))] a') ?_ ?_ ?_ (fun W h => h.elim)
  · intro rec
    have hb : Blk w2.heap w.heap.size [.slice none 0 0] := by rw [hh2]; exact hnew.blk
    have hx2 : Ext [] w.heap w2.heap := by rw [hh2]; exact hnew.ext
    have hx3 : Ext [] w2.heap ((w2.heap.push (.deferred (some []))).push (.loop rec)) := ⟨by simp; omega, fun k hk _ => by rw [Array.getElem?_push, if_neg (by simp; omega), Array.getElem?_push, if_neg (by omega)]⟩
    exact ⟨fun j hj => by omega, hx2.trans' hx3 (by simp), by simp, none, 0, hb.ext hx3 (by simp), Own.nil _ _, fun q hq => (by cases hq), fun _ => ⟨rfl, rfl⟩⟩
  · rintro k H rec ⟨h1, h2, h3, a, c, h4, h5, h6, h7⟩
    exact ⟨h1, ext_set_new _ h2 (by omega), by simpa using h3, a, c, h4.ext (ext_set H _ _) (by simp; omega), h5.ext (ext_set H _ _) (fun q hq => by have := h6 q hq; simp; omega), h6, h7⟩
  · intro l k W
    obtain ⟨xa, xl, xc, he⟩ := henc k
    have hact : Ag Tryz.f164.ntmps [(7, .v (enc k)), (2, .v (.pointer (some ⟨w.heap.size, 0, none⟩)))] { tmps := (#[7].zip [enc k].toArray).foldl (fun t (p, v) => t.setIfInBounds p v) a2.tmps, defers := [] } := by
      have hsz : a2.tmps.size = 13 := haB.size
      refine ⟨by simp [hsz, Tryz.ntmps164], rfl, fun t s ht => ?_⟩
      rw [get_cons] at ht
      split at ht
      · rename_i e; subst e; cases ht
        simp [hsz]; rfl
      · rename_i e
        have : (a2.tmps.setIfInBounds 7 (enc k)).getD t undef = a2.tmps.getD t undef := by
          simp only [Array.getD_eq_getD_getElem?]
          rw [Array.getElem?_setIfInBounds_ne e]
        have h2 := haB.agree t s (by
          rw [get_cons] at ht ⊢
          split at ht
          · rename_i e; subst e; cases ht; rfl
          · cases ht)
        simpa [this] using h2
    rw [he] at hact
    refine wpIn_mono (part_in Tryz.mixed (Aq2 xa xl xc W.heap fun v H' => v = enc k ∧ H' = W.heap) ⟨he.symm, rfl⟩ Tryz.func164 rfl rfl rfl (by rw [he]; exact hact) (by rw [he]; exact hact.pick (by
      intro x hx; simp only [List.mem_cons, List.mem_nil_iff, or_false] at hx; rcases hx with rfl; rfl)) rfl) ?_
    rintro e a' W' ⟨rfl, hs, vs, hl, ⟨hv, hh⟩, ha'⟩
    rw [one_of hl, hv] at ha'
    exact ⟨rfl, hs, hh, ha'.pick (by intro x hx; simp only [List.mem_cons, List.mem_nil_iff, or_false] at hx; rcases hx with rfl | rfl <;> rfl)⟩
  · rintro k a' W rec hA ⟨h1, h2, h3, a, c, h4, h5, h6, h7⟩ hfin hD hL
    obtain ⟨xa, xl, xc, he⟩ := henc k
    rw [he] at hA
    apply wpIn_block
    refine wpIn_mono (part_in Tryz.mixed (Aq3 w.heap.size xa xl xc W.heap fun v H' => ApI w.heap w2.heap.size enc fin (k + 1) H' ∧ H'[w2.heap.size]? = some (.deferred (some [])) ∧ H'[w2.heap.size + 1]? = some (.loop rec)) ?_ Tryz.func164 rfl rfl rfl hA (hA.pick (by
      intro x hx; simp only [List.mem_cons, List.mem_nil_iff, or_false] at hx; rcases hx with rfl | rfl <;> rfl)) rfl) ?_
    · refine ⟨a, k, c, by rw [h4.cell]; rfl, fun b4 H5 hn5 => ?_⟩
      have hx5 := hn5.ext
      have ho5 := h5.ext hx5 (by simp)
      have hb4 := h4.ext hx5 (by simp)
      refine ⟨(List.range k).map enc, [.slice xa xl xc], ho5.row k c, ⟨rfl, .inr rfl, fun j u hj => ?_⟩, fun u hu => by simp only [List.mem_singleton] at hu; subst hu; rfl, hfew k hfin, fun hle => ho5.room hle, fun a8 c9 H10 happ => ?_⟩
      · show hcell H5 b4 (0 + j) = some u
        rw [Nat.zero_add, hn5.blk.cell]
        exact hj
      · obtain ⟨q1, q2, q3⟩ := happ.own ho5 (ho5.row k c) rfl rfl
        have hsz5 := hn5.size
        have hd4 : w.heap.size ∉ blkOf a := fun h => by have := h6 _ h; omega
        have hb10 := hb4.ext q2 hd4
        refine ⟨hb10.cells 1 0 (by simp), fun H11 hp => ?_⟩
        have hb11 : Blk H11 w.heap.size [.slice a8 (k + 1) c9] := hp.blk hb10 (by simp)
        have hx11 := hp.ext
        have hq8 : ∀ q ∈ blkOf a8, w2.heap.size + 2 ≤ q := fun q hq => by
          rcases q3 q hq with h | h
          · exact h6 q h
          · omega
        have keep : ∀ j, j < W.heap.size → j ≠ w.heap.size → j ∉ blkOf a → H11[j]? = W.heap[j]? := fun j hj hne hna => by
          have e5 := hx5.keep j hj (by simp)
          have e10 := q2.keep j (by rw [hsz5]; omega) hna
          have e11 := hx11.keep j (by have := q2.size; omega) (by simpa using hne)
          rw [e11, e10, e5]
        have hsz11 : W.heap.size ≤ H11.size := by have := q2.size; have := hx11.size; omega
        refine ⟨⟨fun j hj => ?_, ⟨by have := h2.size; omega, fun j hj _ => ?_⟩, by omega, a8, c9, ?_, ?_, hq8, fun h => by omega⟩, ?_, ?_⟩
        · by_cases e : j = k
          · subst e; exact hfin
          · exact h1 j (by omega)
        · rw [keep j (by have := h2.size; omega) (by omega) (fun h => by have := h6 j h; omega)]
          exact h2.keep j hj (by simp)
        · exact hb11
        · have := q1.ext hx11 (fun q hq => by have := hq8 q hq; simp; omega)
          rw [List.range_succ, List.map_append, List.map_singleton, he]
          exact this
        · rw [keep _ (by omega) (by omega) (fun h => by have := h6 _ h; omega)]; exact hD
        · rw [keep _ (by omega) (by omega) (fun h => by have := h6 _ h; omega)]; exact hL
    · rintro e a'' W' ⟨rfl, hs, vs, hl, ⟨hi, hd, hl'⟩, _⟩
      exact ⟨hs, hd, hl', .inl ⟨rfl, hi⟩⟩
  · rintro k W hfin ⟨h1, h2, h3, a, c, h4, h5, h6, h7⟩ hD hs
    show Code.wp _ _ _ _ _
    have haT : Ag Tryz.f164.ntmps [(2, .v (.pointer (some ⟨w.heap.size, 0, none⟩)))] { tmps := a2.tmps, defers := [] } := by
      have := haB.pick (S' := [(2, .v (.pointer (some ⟨w.heap.size, 0, none⟩)))]) (by intro x hx; simp only [List.mem_cons, List.mem_nil_iff, or_false] at hx; rcases hx with rfl; rfl)
      exact ⟨this.size, rfl, this.agree⟩
    refine wp_seq (wp_mono (part_with (Aq4 w.heap.size W.heap fun v H' => v = .slice a k c ∧ H' = W.heap) ⟨a, k, c, by rw [h4.cell]; rfl, rfl, rfl⟩ Tryz.func164 rfl rfl haT haT rfl) ?_)
    rintro e a5 w5 ⟨⟨rfl, hs5, vs, hl, ⟨hv, hh5⟩, ha5⟩, hd5⟩
    rw [one_of hl, hv] at ha5
    refine wp_ret ?_
    show LeavesInM _ _ _ _ _ _ a5.defers _ _
    rw [hd5]
    have hK : w5.heap[w2.heap.size]? = some (.deferred (some [])) := by rw [hh5]; exact hD
    refine ⟨by simp, .inl ⟨w2.heap.size, _, rfl, run_takeDeferred hK, ?_⟩⟩
    show LeavesInM _ _ _ _ _ _ a2.defers _ _
    rw [haB.defers]
    have hsW : Sim w w5 := ((hs1.trans hs2).trans hs).trans hs5
    refine ⟨.slice a k c, (results_tmp rfl _ _ _).trans (by rw [show a5.tmps.getD 4 undef = .slice a k c from ha5.agree 4 (.v (.slice a k c)) rfl]), .slice a k c, rfl, ⟨hsW.os, hsW.tape, hsW.output⟩, k, a, c, hfin, h1, rfl, ?_, fun q hq => by have := h6 q hq; omega, h7, ?_⟩
    · show Own (w5.heap.setIfInBounds _ _) _ _ _ _ _
      rw [hh5]
      exact h5.ext (ext_set _ _ _) fun q hq => by have := h6 q hq; simp; omega
    · show Ext [] w.heap (w5.heap.setIfInBounds _ _)
      rw [hh5]
      exact ext_set_new _ h2 (by omega)
end Go.Proofs
namespace Go.Proofs
open Go Go.Vc
/-- slices.Collect[[]byte] -/
theorem CollV (x0 : Value) (H : Heap) (R : Value → Heap → Prop) : Walk Tryz.prog 93 [] [x0] H R = (
  Does Tryz.prog 164 [(.slice none 0 0), x0] H fun v1 H2 => ∃ a3 : Option Addr, ∃ l4 : Nat, ∃ c5 : Nat, v1 = (.slice a3 l4 c5) ∧ (
    R (.slice a3 l4 c5) H2)) := by kernel_rfl
theorem enters171 (args : Array Value) (w : World) : (callFunc 165 args).run Tryz.prog w = .ok (.enter 165 args) w := by kernel_rfl
theorem enters106 (args : Array Value) (w : World) : (callFunc 96 args).run Tryz.prog w = .ok (.enter 96 args) w := by kernel_rfl
theorem collect_ok {H : Heap} (p1 p2 : Nat) (a : Option Addr) (L C n : Nat) (h1 : hcell H p1 0 = some (.slice a L C)) (h2 : hcell H p2 0 = some (.int .i64 n)) (hn : 1 ≤ n) (hn2 : n ≤ 1000000) (hL : L ≤ 1000000) (hLC : L ≤ C) :
    Does Tryz.prog 93 [.func (.func 165) #[] #[.pointer (some ⟨p1, 0, none⟩), .pointer (some ⟨p2, 0, none⟩)]] H fun v H' => ∃ k a' c, L ≤ k * n ∧ (∀ j, j < k → j * n < L) ∧ v = .slice a' k c ∧ Own H' 1 a' k c ((List.range k).map (chunkAt a L n 1)) ∧ (∀ q ∈ blkOf a', H.size ≤ q) ∧ (k = 0 → a' = none ∧ c = 0) ∧ Ext [] H H' := by
  refine Fn_of_vc Tryz.mixed (CollV _ _ _) ?_
  refine (appendSeq_ok (lb := [.pointer (some ⟨p1, 0, none⟩), .pointer (some ⟨p2, 0, none⟩)]) enters171 (fun k => ⟨_, _, _, rfl⟩) (chunk171_seq p1 p2 a L C n hn (by omega) (by omega) hLC) (fun H' he => ⟨hcell_ext h1 he (by simp), hcell_ext h2 he (by simp)⟩) (fun k hk => ?_)).mono ?_
  · have : k * 1 ≤ k * n := Nat.mul_le_mul_left k hn
    have hk : ¬ L ≤ k * n := hk
    omega
  · rintro v H' ⟨k, a', c, g1, g2, rfl, g4⟩
    exact ⟨a', k, c, rfl, k, a', c, g1, fun j hj => by have := g2 j hj; omega, rfl, g4⟩
end Go.Proofs
end

section
/-! slices.Collect over slices.Chunk, told. -/
namespace Go.Ex
open Go Go.Vc Go.Proofs
def mnC (a b : Nat) : Nat := bif Nat.ble a b then a else b
def chC (b st o n : Nat) : Nat → Nat → CV
  | 0, _ => .nil
  | f + 1, k => bif Nat.blt (Nat.mul k st) n then .cons (.slc b (Nat.add o (Nat.mul k st)) (mnC st (Nat.sub n (Nat.mul k st))) (mnC st (Nat.sub n (Nat.mul k st)))) (chC b st o n f (Nat.succ k)) else .nil
theorem mnC_eq (a b : Nat) : mnC a b = min a b := by
  unfold mnC
  cases h : Nat.ble a b with
  | true => have := Nat.le_of_ble_eq_true h; simp; omega
  | false =>
    have : ¬ a ≤ b := fun h' => by rw [Nat.ble_eq_true_of_le h'] at h; cases h
    simp; omega
theorem chC_ok {E : En} {b r q st o n cnt : Nat} (hE : E b = some (r, q)) (hst : 1 ≤ st) (h1 : n ≤ cnt * st) (h2 : ∀ j, j < cnt → j * st < n) : ∀ f k, n ≤ k * st + f → k ≤ cnt → LR E (chC b st o n f k) ((List.range' k (cnt - k)).map (chunkAt (some ⟨r, o, none⟩) n st 1))
  | 0, k, hf, hk => by
    have : cnt - k = 0 := by
      rcases Nat.lt_or_ge k cnt with h | h
      · have := h2 k h; omega
      · omega
    rw [this]; exact LR.nil'
  | f + 1, k, hf, hk => by
    have e1 : Nat.mul k st = k * st := rfl
    unfold chC
    rw [e1]
    cases hb : Nat.blt (k * st) n with
    | true =>
      have hlt : k * st < n := by have := hb; simpa using this
      have hkc : k < cnt := by
        rcases Nat.lt_or_ge k cnt with h | h
        · exact h
        · have := Nat.mul_le_mul_right st h; omega
      have : cnt - k = (cnt - (k + 1)) + 1 := by omega
      rw [this, List.range'_succ, List.map_cons]
      refine LR.cons' ?_ (chC_ok hE hst h1 h2 f (k + 1) (by rw [Nat.succ_mul]; omega) (by omega))
      rw [mnC_eq]
      refine ⟨r, q, hE, ?_, Nat.le_refl _⟩
      have e2 : Nat.sub n (k * st) = n - k * st := rfl
      have e3 : Nat.add o (k * st) = o + k * st := rfl
      have hne : ¬ min st (n - k * st) = 0 := by omega
      rw [e2, e3]
      simp only [chunkAt, if_neg hne, Option.map_some, Nat.mul_one, Addr.add]
      by_cases e0 : k * st = 0
      · simp [e0]
      · simp [e0]
    | false =>
      have hlt : ¬ k * st < n := by intro h; have : Nat.blt (k * st) n = true := by simpa using h
                                    rw [this] at hb; cases hb
      have : cnt - k = 0 := by
        rcases Nat.lt_or_ge k cnt with h | h
        · have := h2 k h; omega
        · omega
      rw [this]; exact LR.nil'

noncomputable def colB (b o n st : Nat) (H : He) (m : Nat) (k : EK) : St :=
  bi (Nat.blt 0 st && Nat.ble st 1000000 && Nat.ble n 1000000 && Nat.blt 0 n) (newB (.cells 3 (lenL (chC b st o n n 0)) (mkT (chC b st o n n 0))) H m fun H' m' => k (.slu m 0 0 (lenL (chC b st o n n 0))) H' m') no
noncomputable def o_collect : OF := fun l H m k =>
  match l with
  | .cons (.fn f .nil (.cons (.ptr b 0) (.cons (.ptr c 0) .nil))) .nil => match hg b H, hg c H with
    | .cells _ N t, .cells _ N' t' => match tg 0 t, tg 0 t' with
      | .slc d o n _, .int .i64 (.ofNat s) => bi (Nat.beq f 165 && Nat.blt 0 N && Nat.blt 0 N') (colB d o n s H m k) no
      | .slu d o _ n, .int .i64 (.ofNat s) => bi (Nat.beq f 165 && Nat.blt 0 N && Nat.blt 0 N') (colB d o n s H m k) no
      | .snil, .int .i64 (.ofNat s) => bi (Nat.beq f 165 && Nat.blt 0 N && Nat.blt 0 N') (bi (Nat.blt 0 s && Nat.ble s 1000000) (k .snil H m) no) no
      | .sle, .int .i64 (.ofNat s) => bi (Nat.beq f 165 && Nat.blt 0 N && Nat.blt 0 N') (bi (Nat.blt 0 s && Nat.ble s 1000000) (k .snil H m) no) no
      | _, _ => no
    | _, _ => no
  | _ => no
theorem colB_ok {Ok : St → Prop} [Okay Ok] {d o n st : Nat} {cH : He} {m : Nat} {k : EK} (h : Ok (colB d o n st cH m k)) : ∃ cv cH' m', Ok (k cv cH' m') ∧
    ∀ E Pr H p1 p2 r q C, E d = some (r, q) → Rel E Pr m cH H → hcell H p1 0 = some (.slice (some ⟨r, o, none⟩) n C) → n ≤ C → hcell H p2 0 = some (.int .i64 st) → ∀ X,
      DoesX Tryz.prog 93 [.func (.func 165) #[] #[.pointer (some ⟨p1, 0, none⟩), .pointer (some ⟨p2, 0, none⟩)]] H (fun v H' => ∃ E', E.le E' ∧ Rel E' Pr m' cH' H' ∧ VR E' cv v) X := by
  unfold colB at h
  obtain ⟨h1, h2⟩ := bi_ok h
  simp only [Bool.and_eq_true] at h1
  obtain ⟨⟨⟨c1, c2⟩, c3⟩, c4⟩ := h1
  have c1 : 0 < st := by simpa using c1
  have c2 := Nat.le_of_ble_eq_true c2
  have c3 := Nat.le_of_ble_eq_true c3
  have c4 : 0 < n := by simpa using c4
  obtain ⟨hn, cH', h9, h10, h11⟩ := newB_ok h2
  refine ⟨_, cH', m + 1, h9, ?_⟩
  intro E Pr H p1 p2 r q C hE hr hp1 hC hp2 X
  refine (Does.x (collect_ok p1 p2 _ n C st hp1 hp2 c1 c2 c3 hC)).mono ?_ fun _ _ h => h
  rintro v H' ⟨cnt, a', c, g1, g2, rfl, ⟨o1, o2, o3, o4⟩, g5, g6, he⟩
  have hL := chC_ok (o := o) hE c1 g1 g2 n 0 (by omega) (Nat.zero_le _)
  rw [Nat.sub_zero, ← List.range_eq_range'] at hL
  have hlen : lenL (chC d st o n n 0) = cnt := by rw [lenL_ok hL]; simp
  rw [hlen] at h10 ⊢
  have hc0 : cnt ≠ 0 := fun e => by rw [e] at g1; omega
  rcases o4 with ⟨rfl, rfl⟩ | ⟨b', tail, rfl, ⟨e', o5⟩, o6⟩
  · omega
  · have hge : H.size ≤ b' := g5 b' (by simp [blkOf])
    have hlt := (Array.getElem?_eq_some_iff.1 o5).1
    obtain ⟨z1, z2⟩ := hr.name he (q := c) hge hlt hn h10 h11 ⟨_, e', 0, 0, o5, by
        rw [List.size_toArray, o6]; omega, ⟨Nat.le_refl _, fun o _ => by omega⟩, fun _ => by rw [List.size_toArray, o6]; omega, fun i hi => by
        have hi' : i < ((List.range cnt).map (chunkAt (some ⟨r, o, none⟩) n st 1)).length := by simpa using hi
        refine ⟨((List.range cnt).map (chunkAt (some ⟨r, o, none⟩) n st 1))[i], ?_, (mkT_get hL i _ (List.getElem?_eq_getElem hi')).mono (En.le_add (hr.fresh _ (Nat.le_refl _)))⟩
        rw [List.getElem?_toArray, List.getElem?_append_left hi', List.getElem?_eq_getElem hi']⟩
    exact ⟨_, z2, z1, b', c, En.add_self _ _ _ _, rfl, by omega⟩
theorem col0_ok {E : En} {Pr : Prt} {m : Nat} {cH : He} {H : Heap} {p1 p2 st C : Nat} {a : Option Addr} (hr : Rel E Pr m cH H) (c1 : 0 < st) (c2 : st ≤ 1000000) (hp1 : hcell H p1 0 = some (.slice a 0 C)) (hp2 : hcell H p2 0 = some (.int .i64 st)) (X : HP) :
    DoesX Tryz.prog 93 [.func (.func 165) #[] #[.pointer (some ⟨p1, 0, none⟩), .pointer (some ⟨p2, 0, none⟩)]] H (fun v H' => ∃ E', E.le E' ∧ Rel E' Pr m cH H' ∧ VR E' .snil v) X := by
  refine (Does.x (collect_ok p1 p2 _ 0 C st hp1 hp2 c1 c2 (by omega) (Nat.zero_le _))).mono ?_ fun _ _ h => h
  rintro v H' ⟨cnt, a', c, g1, g2, rfl, _, g5, g6, he⟩
  have : cnt = 0 := by
    rcases Nat.eq_zero_or_pos cnt with h | h
    · exact h
    · have := g2 0 h; omega
  subst this
  obtain ⟨rfl, rfl⟩ := g6 rfl
  exact ⟨E, En.le.refl E, hr.ext he, rfl⟩
theorem o_collect_ok {Ok : St → Prop} [Okay Ok] {ng : Nat} {l : CV} {cH : He} {n : Nat} {k : EK} (h : Ok (o_collect l cH n k)) : ∃ cv cH' n', Ok (k cv cH' n') ∧
    ∀ E Pr H vs, (∀ g, g < ng → ∃ q, E g = some (g, q)) → LR E l vs → Rel E Pr n cH H → ∀ X, DoesX Tryz.prog 93 vs H (fun v H' => ∃ E', E.le E' ∧ Rel E' Pr n' cH' H' ∧ VR E' cv v) X := by
  unfold o_collect at h
  split at h
  · rename_i f b c
    split at h
    · rename_i m0 N t m1 N' t' hb hc
      have key : ∀ E Pr H vs, LR E (.cons (.fn f .nil (.cons (.ptr b 0) (.cons (.ptr c 0) .nil))) .nil) vs → Rel E Pr n cH H → 0 < N → 0 < N' → ∃ r1 r2 v1 v2, vs = [.func (.func f) #[] #[.pointer (some ⟨r1, 0, none⟩), .pointer (some ⟨r2, 0, none⟩)]] ∧
          hcell H r1 0 = some v1 ∧ VR E (tg 0 t) v1 ∧ hcell H r2 0 = some v2 ∧ VR E (tg 0 t') v2 := by
        rintro E Pr H vs ⟨v1, r1, ⟨aa, cs, ha, ⟨v2, r2, ⟨r, q, hE, rfl⟩, ⟨v3, r3, ⟨r', q', hE', rfl⟩, hr3, rfl⟩, rfl⟩, rfl⟩, hr1, rfl⟩ hr hN hN'
        have ha : aa = [] := ha
        have hr1 : r1 = [] := hr1
        have hr3 : r3 = [] := hr3
        subst ha; subst hr1; subst hr3
        obtain ⟨g1, g2⟩ := hr.blk b r q hE
        rw [hb] at g2
        obtain ⟨cs, e, lo, hi, f1, f2, f3, f4, f5⟩ := g2
        obtain ⟨v, f6, f7⟩ := f5 0 hN
        obtain ⟨g1', g2'⟩ := hr.blk c r' q' hE'
        rw [hc] at g2'
        obtain ⟨cs', e', lo', hi', f1', f2', f3', f4', f5'⟩ := g2'
        obtain ⟨v', f6', f7'⟩ := f5' 0 hN'
        exact ⟨r, r', v, v', rfl, by rw [hcell_at f1]; exact f6, f7, by rw [hcell_at f1']; exact f6', f7'⟩
      split at h
      · rename_i d o n' _ s ht ht'
        obtain ⟨h1, h2⟩ := bi_ok h
        simp only [Bool.and_eq_true] at h1
        obtain ⟨⟨c1, c2⟩, c3⟩ := h1
        obtain rfl := Nat.eq_of_beq_eq_true c1
        obtain ⟨cv, cH', m', h3, h4⟩ := colB_ok h2
        refine ⟨cv, cH', m', h3, fun E Pr H vs _ hl hr X => ?_⟩
        obtain ⟨r1, r2, v1, v2, rfl, k1, k2, k3, k4⟩ := key E Pr H vs hl hr (by simpa using c2) (by simpa using c3)
        rw [ht] at k2
        rw [ht'] at k4
        obtain ⟨r, q, hE, rfl, hle⟩ := k2
        have k4 : v2 = .int .i64 (Int.ofNat s) := k4
        subst k4
        exact h4 E Pr H r1 r2 r q _ hE hr k1 hle k3 X
      · rename_i d o _ n' s ht ht'
        obtain ⟨h1, h2⟩ := bi_ok h
        simp only [Bool.and_eq_true] at h1
        obtain ⟨⟨c1, c2⟩, c3⟩ := h1
        obtain rfl := Nat.eq_of_beq_eq_true c1
        obtain ⟨cv, cH', m', h3, h4⟩ := colB_ok h2
        refine ⟨cv, cH', m', h3, fun E Pr H vs _ hl hr X => ?_⟩
        obtain ⟨r1, r2, v1, v2, rfl, k1, k2, k3, k4⟩ := key E Pr H vs hl hr (by simpa using c2) (by simpa using c3)
        rw [ht] at k2
        rw [ht'] at k4
        obtain ⟨r, q, hE, rfl, hle⟩ := k2
        have k4 : v2 = .int .i64 (Int.ofNat s) := k4
        subst k4
        exact h4 E Pr H r1 r2 r q _ hE hr k1 (by omega) k3 X
      · rename_i s ht ht'
        obtain ⟨h1, h2⟩ := bi_ok h
        simp only [Bool.and_eq_true] at h1
        obtain ⟨⟨c1, c2⟩, c3⟩ := h1
        obtain rfl := Nat.eq_of_beq_eq_true c1
        obtain ⟨h3, h4⟩ := bi_ok h2
        simp only [Bool.and_eq_true] at h3
        refine ⟨.snil, cH, n, h4, fun E Pr H vs _ hl hr X => ?_⟩
        obtain ⟨r1, r2, v1, v2, rfl, k1, k2, k3, k4⟩ := key E Pr H vs hl hr (by simpa using c2) (by simpa using c3)
        rw [ht] at k2
        rw [ht'] at k4
        have k4 : v2 = .int .i64 (Int.ofNat s) := k4
        subst k4
        have k2 : v1 = .slice none 0 0 := k2
        subst k2
        exact col0_ok hr (by simpa using h3.1) (Nat.le_of_ble_eq_true h3.2) k1 k3 X
      · rename_i s ht ht'
        obtain ⟨h1, h2⟩ := bi_ok h
        simp only [Bool.and_eq_true] at h1
        obtain ⟨⟨c1, c2⟩, c3⟩ := h1
        obtain rfl := Nat.eq_of_beq_eq_true c1
        obtain ⟨h3, h4⟩ := bi_ok h2
        simp only [Bool.and_eq_true] at h3
        refine ⟨.snil, cH, n, h4, fun E Pr H vs _ hl hr X => ?_⟩
        obtain ⟨r1, r2, v1, v2, rfl, k1, k2, k3, k4⟩ := key E Pr H vs hl hr (by simpa using c2) (by simpa using c3)
        rw [ht] at k2
        rw [ht'] at k4
        have k4 : v2 = .int .i64 (Int.ofNat s) := k4
        subst k4
        obtain ⟨_, _, _, rfl⟩ := k2
        exact col0_ok hr (by simpa using h3.1) (Nat.le_of_ble_eq_true h3.2) k1 k3 X
      · exact no_ok h
    · exact no_ok h
  · exact no_ok h
end Go.Ex
end

section
/-! A call within an oracle: the machine runs it. -/
namespace Go.Ex
open Go Go.Vc
noncomputable def subcall (M : Mc) (fuel g : Nat) (l : CV) (H : He) (n : Nat) (k : EK) : St :=
  St.rec (motive := fun _ => St) (fun _ _ _ _ => no) (fun _ => no) (fun v H n => k v H n) (run M fuel (goin M.P g l (.fin g) .nil H n))
theorem subcall_ok {M : Mc} (hO : OrcOk M) (hC : CorOk M) (hG : GdOk M) (hm : M.P.follows .mixedOrders = true) {Ok : St → Prop} [Okay Ok] {fuel g : Nat} {l : CV} {cH : He} {n : Nat} {k : EK} (h : Ok (subcall M fuel g l cH n k)) :
    ∃ V HV nV, Ok (k V HV nV) ∧ ∀ E Pr H vs, (∀ g, g < M.ng → ∃ q, E g = some (g, q)) → LR E l vs → Rel E Pr n cH H → ∀ X, DoesX M.P g vs H (fun v H' => ∃ E', E.le E' ∧ Rel E' Pr nV HV H' ∧ VR E' V v) X := by
  unfold subcall at h
  cases hr : run M fuel (goin M.P g l (.fin g) .nil cH n) with
  | mk s S H n => rw [hr] at h; exact no_ok h
  | stuck w => rw [hr] at h; exact no_ok h
  | done V HV nV =>
    rw [hr] at h
    exact ⟨V, HV, nV, h, fun E Pr H vs hg hl hrel X => does_of_run hO hC hG hm hr hl hg hrel⟩
end Go.Ex
end

section
/-! object.Format from its range over a function on, told. -/
namespace Go.Ex
open Go Go.Vc Go.Proofs

section
variable {E : En} {Pr Pr' : Prt} {n : Nat} {cH : He} {H : Heap}
/-- A block that nothing leads to is turned. -/
theorem Rel.swap (h : Rel E Pr' n cH H) {e : Nat} {o o' : Obj} (hp : Pr' e = some (o, true)) (hle : ∀ r x, r ≠ e → Pr r = some x → Pr' r = some x) (hne : ∀ x, Pr e = some x → x = (o', true)) : Rel E Pr n cH (H.setIfInBounds e o') := by
  have hlt : e < H.size := (Array.getElem?_eq_some_iff.1 (h.pr e o true hp).1).1
  have out : ∀ b q, E b ≠ some (e, q) := fun b q hx => by have := ((h.pr e o true hp).2 b q hx).1; cases this
  have ho : ∀ k, k ≠ e → (H.setIfInBounds e o')[k]? = H[k]? := fun k hk => Array.getElem?_setIfInBounds_ne (Ne.symm hk)
  refine ⟨h.fresh, h.small, fun b r q hx => ?_, h.inj, fun r x s hp' => ?_⟩
  · obtain ⟨g1, g2⟩ := h.blk b r q hx
    have : r ≠ e := fun e' => by subst e'; exact out b q hx
    exact ⟨by simpa using g1, by rw [ho r this]; exact g2⟩
  · by_cases er : r = e
    · subst er
      have := hne _ hp'
      cases this
      exact ⟨by simp [hlt], fun b q hx => absurd hx (out b q)⟩
    · obtain ⟨g1, g2⟩ := h.pr r x s (hle r _ er hp')
      exact ⟨by rw [ho r er]; exact g1, g2⟩
/-- The first cell of a block. -/
theorem Rel.cell0 (h : Rel E Pr n cH H) {b r q m N : Nat} {t : T CV} (hb : hg b cH = .cells m N t) (hN : 0 < N) (hE : E b = some (r, q)) : ∃ v, hcell H r 0 = some v ∧ VR E (tg 0 t) v := by
  obtain ⟨g1, g2⟩ := h.blk b r q hE
  rw [hb] at g2
  obtain ⟨cs, e, lo, hi, f1, f2, f3, f4, f5⟩ := g2
  obtain ⟨v, f6, f7⟩ := f5 0 hN
  exact ⟨v, by rw [hcell_at f1]; exact f6, f7⟩
end

/-- Does the first cell of block b hold this? -/
noncomputable def cellEq (b : Nat) (cv : CV) (H : He) (s : St) : St := match hg b H with
  | .cells _ N t => bi (Nat.blt 0 N && ceq (tg 0 t) cv) s no
  | _ => no
def Ck (b : Nat) (cv : CV) (cH : He) : Prop := ∀ E Pr n H r q v, E b = some (r, q) → Rel E Pr n cH H → VR E cv v → hcell H r 0 = some v
section
variable {Ok : St → Prop} [Okay Ok]
theorem cellEq_ok {b : Nat} {cv : CV} {cH : He} {s : St} (h : Ok (cellEq b cv cH s)) : Ok s ∧ Ck b cv cH := by
  unfold cellEq at h
  split at h
  · rename_i m N t hb
    obtain ⟨h1, h2⟩ := bi_ok h
    rw [Bool.and_eq_true] at h1
    refine ⟨h2, fun E Pr n H r q v hE hr hv => ?_⟩
    obtain ⟨u, g1, g2⟩ := hr.cell0 hb (by have := h1.1; simpa using this) hE
    rw [g1, (ceq_ok h1.2).1 u v g2 hv]
  · exact no_ok h

noncomputable def chk3 (bj : Nat) (vj : CV) (b : Nat) (cs : CV) (c : Nat) (ci : CV) (H : He) (s : St) : St := cellEq bj vj H (cellEq b cs H (cellEq c ci H s))
noncomputable def isZ (v : CV) (s : St) : St := match v with
  | .int .i64 (.ofNat 0) => s
  | _ => no
theorem isZ_ok {v : CV} {s : St} (h : Ok (isZ v s)) : Ok s ∧ v = .int .i64 0 := by
  unfold isZ at h
  split at h
  · exact ⟨h, rfl⟩
  · exact no_ok h
noncomputable def rnds (M : Mc) (fuel bj : Nat) (vj : CV) (b : Nat) (cs : CV) (c : Nat) (ci : CV) (d o L st : Nat) : Nat → Nat → He → Nat → (He → Nat → St) → St
  | 0, _, _, _, _ => no
  | f + 1, k, H, n, kk => bif Nat.blt (k * st) L then
      subcall M fuel 50 (.cons vj (.cons (.slc d (o + k * st * 2) (mnC st (L - k * st)) (mnC st (L - k * st))) .nil)) H n fun v H n => isZ v (chk3 bj vj b cs c ci H (rnds M fuel bj vj b cs c ci d o L st f (k + 1) H n kk))
    else kk H n

/-- What a call that is run brings. -/
def Did (M : Mc) (g : Nat) (l : CV) (cH : He) (n : Nat) (V : CV) (HV : He) (nV : Nat) : Prop :=
  ∀ E Pr H vs, LR E l vs → Rel E Pr n cH H → Does M.P g vs H fun v H' => ∃ E', E.le E' ∧ Rel E' Pr nV HV H' ∧ VR E' V v
inductive Tr (M : Mc) (bj : Nat) (vj : CV) (b : Nat) (cs : CV) (c : Nat) (ci : CV) (d o L st : Nat) : Nat → He → Nat → He → Nat → Prop
  | done {k cH n} (h : L ≤ k * st) : Tr M bj vj b cs c ci d o L st k cH n cH n
  | step {k cH n cH1 n1 cH' n'} (h : k * st < L) (hd : Did M 50 (.cons vj (.cons (.slc d (o + k * st * 2) (min st (L - k * st)) (min st (L - k * st))) .nil)) cH n (.int .i64 0) cH1 n1)
      (c1 : Ck bj vj cH1) (c2 : Ck b cs cH1) (c3 : Ck c ci cH1) (t : Tr M bj vj b cs c ci d o L st (k + 1) cH1 n1 cH' n') : Tr M bj vj b cs c ci d o L st k cH n cH' n'

variable {M : Mc} (hO : OrcOk M) (hC : CorOk M) (hG : GdOk M) (hm : M.P.follows .mixedOrders = true) (h0 : M.ng = 0)
include hO hC hG hm h0
theorem sub_did {fuel g : Nat} {l : CV} {cH : He} {n : Nat} {k : EK} (h : Ok (subcall M fuel g l cH n k)) : ∃ V HV nV, Ok (k V HV nV) ∧ Did M g l cH n V HV nV := by
  obtain ⟨V, HV, nV, h1, h2⟩ := subcall_ok hO hC hG hm h
  exact ⟨V, HV, nV, h1, fun E Pr H vs hl hr => (h2 E Pr H vs (fun g hg => by omega) hl hr (fun _ _ => False)).plain fun _ _ h => h⟩
theorem rnds_ok {fuel bj : Nat} {vj : CV} {b : Nat} {cs : CV} {c : Nat} {ci : CV} {d o L st : Nat} {kk : He → Nat → St} : ∀ (f k : Nat) {cH : He} {n : Nat}, Ok (rnds M fuel bj vj b cs c ci d o L st f k cH n kk) → ∃ cH' n', Ok (kk cH' n') ∧ Tr M bj vj b cs c ci d o L st k cH n cH' n'
  | 0, k, cH, n, h => no_ok h
  | f + 1, k, cH, n, h => by
    unfold rnds at h
    cases hb : Nat.blt (k * st) L with
    | true =>
      rw [hb] at h
      obtain ⟨V, HV, nV, h1, h2⟩ := sub_did hO hC hG hm h0 (show Ok (subcall M fuel 50 _ cH n _) from h)
      obtain ⟨h3, rfl⟩ := isZ_ok h1
      obtain ⟨h4, c1⟩ := cellEq_ok h3
      obtain ⟨h5, c2⟩ := cellEq_ok h4
      obtain ⟨h6, c3⟩ := cellEq_ok h5
      obtain ⟨cH', n', h7, h8⟩ := rnds_ok f (k + 1) h6
      rw [mnC_eq] at h2
      exact ⟨cH', n', h7, .step (by simpa using hb) h2 c1 c2 c3 h8⟩
    | false =>
      rw [hb] at h
      refine ⟨cH, n, h, .done ?_⟩
      have : ¬ k * st < L := by intro h; have : Nat.blt (k * st) L = true := by simpa using h
                                rw [hb] at this; cases this
      omega
end

/-- A slice of Writes: where it starts, and how many. -/
noncomputable def onSlc (v : CV) (f : Nat → Nat → Nat → St) : St := match v with
  | .slc d o L _ => f d o L
  | .slu d o _ L => f d o L
  | _ => no
noncomputable def isI (v : CV) (f : Nat → St) : St := match v with
  | .int .i64 (.ofNat z) => f z
  | _ => no
/-- The closure that Chunk hands back. -/
noncomputable def onClo (v : CV) (f : Nat → Nat → St) : St := match v with
  | .fn g .nil (.cons (.ptr b 0) (.cons (.ptr c 0) .nil)) => bi (Nat.beq g 96) (f b c) no
  | _ => no
noncomputable def onP0 (v : CV) (f : Nat → St) : St := match v with
  | .ptr b 0 => f b
  | _ => no
noncomputable def onC0 (x : Bk) (f : CV → St) : St := match x with
  | .cells _ N t => bi (Nat.blt 0 N) (f (tg 0 t)) no
  | _ => no
def isPtr : CV → Bool
  | .ptr _ _ => true
  | _ => false
noncomputable def o_fmt (M : Mc) (fuel : Nat) : Sy → He → Nat → (Sy → He → Nat → St) → St := fun S H n k =>
  onP0 (sg 10 S) fun bj => onP0 (sg 6 S) fun b6 => onC0 (hg bj H) fun vj => bi (isPtr vj && isSl (sg 12 S)) (isI (sg 15 S) fun _ =>
    subcall M fuel 49 (.cons (sg 12 S) (.cons (sg 15 S) .nil)) H n fun v H n => onClo v fun b c => onC0 (hg b H) fun cs => onC0 (hg c H) fun ci => onSlc cs fun d o L => isI ci fun st =>
      bi (Nat.blt 0 st && Nat.ble st 1000000 && Nat.ble L 1000000) (chk3 bj vj b cs c ci H (rnds M fuel bj vj b cs c ci d o L st 100000 0 H n fun H n =>
        subcall M fuel 51 (.cons vj .nil) H n fun v H n => isI v fun _ => wrC b6 0 (.cons v .nil) H fun H => ss 6 (.ptr b6 0) S0 fun S => k S H n)) no) no
section
variable {Ok : St → Prop} [Okay Ok]
theorem onSlc_ok {v : CV} {f : Nat → Nat → Nat → St} (h : Ok (onSlc v f)) : ∃ d o L, Ok (f d o L) ∧ ∀ E u, VR E v u → ∃ r q C, E d = some (r, q) ∧ u = .slice (some ⟨r, o, none⟩) L C ∧ L ≤ C := by
  unfold onSlc at h
  split at h
  · exact ⟨_, _, _, h, fun E u ⟨r, q, h1, h2, h3⟩ => ⟨r, q, _, h1, h2, h3⟩⟩
  · exact ⟨_, _, _, h, fun E u ⟨r, q, h1, h2, h3⟩ => ⟨r, q, _, h1, h2, by omega⟩⟩
  · exact no_ok h
theorem isI_ok {v : CV} {f : Nat → St} (h : Ok (isI v f)) : ∃ z, Ok (f z) ∧ v = .int .i64 (Int.ofNat z) := by
  unfold isI at h
  split at h
  · exact ⟨_, h, rfl⟩
  · exact no_ok h
theorem onClo_ok {v : CV} {f : Nat → Nat → St} (h : Ok (onClo v f)) : ∃ b c, Ok (f b c) ∧ v = .fn 96 .nil (.cons (.ptr b 0) (.cons (.ptr c 0) .nil)) := by
  unfold onClo at h
  split at h
  · obtain ⟨h1, h2⟩ := bi_ok h
    obtain rfl := Nat.eq_of_beq_eq_true h1
    exact ⟨_, _, h2, rfl⟩
  · exact no_ok h
theorem onP0_ok {v : CV} {f : Nat → St} (h : Ok (onP0 v f)) : ∃ b, Ok (f b) ∧ v = .ptr b 0 := by
  unfold onP0 at h
  split at h
  · exact ⟨_, h, rfl⟩
  · exact no_ok h
theorem onC0_ok {x : Bk} {f : CV → St} (h : Ok (onC0 x f)) : ∃ m N t, x = .cells m N t ∧ 0 < N ∧ Ok (f (tg 0 t)) := by
  unfold onC0 at h
  split at h
  · obtain ⟨h1, h2⟩ := bi_ok h
    exact ⟨_, _, _, rfl, by simpa using h1, h2⟩
  · exact no_ok h
end
theorem isPtr_ok {E : En} {v : CV} {u : Value} (h : isPtr v = true) (hv : VR E v u) : ∃ r o, u = .pointer (some ⟨r, o, none⟩) := by
  cases v with
  | ptr b o => obtain ⟨r, q, _, rfl⟩ := hv; exact ⟨_, _, rfl⟩
  | _ => cases h
end Go.Ex
end

namespace Go.Ex
open Go Go.Vc Go.Proofs

theorem ag_of {N : Nat} {a : Act} (hs : a.tmps.size = N) (hd : a.defers = []) (l : List (Nat × Value)) (h : ∀ x ∈ l, a.tmps.getD x.1 undef = x.2) : Ag N (l.map fun x => (x.1, .v x.2)) a := by
  refine ⟨hs, hd, fun t s ht => ?_⟩
  induction l with
  | nil => cases ht
  | cons x r ih =>
    rw [List.map_cons, get_cons] at ht
    split at ht
    · rename_i e
      subst e
      cases ht
      exact h x List.mem_cons_self
    · exact ih (fun y hy => h y (List.mem_cons_of_mem _ hy)) ht
theorem get_tab (f : Nat → Value) (t : Nat) : ∀ l : List Nat, Sym.get (l.map fun t => (t, SV.v (f t))) t = if t ∈ l then some (.v (f t)) else none
  | [] => rfl
  | x :: r => by
    rw [List.map_cons, get_cons, get_tab f t r]
    by_cases h : x = t
    · subst h; simp
    · have : ¬ t = x := fun e => h e.symm
      simp [h, this]
theorem chunkAt_slc {r o L st sz k : Nat} (hst : 1 ≤ st) (h : k * st < L) : chunkAt (some ⟨r, o, none⟩) L st sz k = .slice (some ⟨r, o + k * st * sz, none⟩) (min st (L - k * st)) (min st (L - k * st)) := by
  have hne : ¬ min st (L - k * st) = 0 := by omega
  simp only [chunkAt, if_neg hne, Option.map_some, Addr.add]
  by_cases e0 : k * st * sz = 0
  · simp [e0]
  · simp [e0]
/-- The heap within the loop: its two blocks are kept. -/
def PrL (Pr : Prt) (l : Nat) (rec : Loop) : Prt := fun r => if r = l + 1 then some (.loop rec, true) else if r = l then some (.deferred (some []), true) else Pr r

def FmtI (M : Mc) (bj : Nat) (vj : CV) (b : Nat) (cs : CV) (c : Nat) (ci : CV) (d o L st : Nat) (E1 : En) (Pr : Prt) (l : Nat) (cHf : He) (nf : Nat) (k : Nat) (H : Heap) : Prop :=
  ∃ cH n E' rec, Tr M bj vj b cs c ci d o L st k cH n cHf nf ∧ Ck bj vj cH ∧ Ck b cs cH ∧ Ck c ci cH ∧ E1.le E' ∧ Rel E' (PrL Pr l rec) n cH H

set_option maxHeartbeats 2000000 in
theorem o_fmt_ok {M : Mc} (hP : M.P = Tryz.prog) (hO : OrcOk M) (hC : CorOk M) (hG : GdOk M) (h0 : M.ng = 0) {Ok : St → Prop} [Okay Ok] {fuel : Nat} {S : Sy} {cH : He} {n : Nat} {k : Sy → He → Nat → St} (h : Ok (o_fmt M fuel S cH n k)) : ∃ S' cH' n', Ok (k S' cH' n') ∧
    ∀ E Pr aS H X K, SR E 0 S aS → Rel E Pr n cH H → (∀ E' aS' H', E.le E' → SR E' 0 S' aS' → Rel E' Pr n' cH' H' → K.ret aS' H') → Sem Tryz.prog X Tryz.f19.ntmps c40T K aS H := by
  have hm : M.P.follows .mixedOrders = true := by rw [hP]; exact Tryz.mixed
  unfold o_fmt at h
  obtain ⟨bj, h, eSj⟩ := onP0_ok h
  obtain ⟨b6, h, eS6⟩ := onP0_ok h
  obtain ⟨mj, Nj, tj, ebj, hNj, h⟩ := onC0_ok h
  obtain ⟨c1, h⟩ := bi_ok h
  rw [Bool.and_eq_true] at c1
  obtain ⟨each, h, eS15⟩ := isI_ok h
  obtain ⟨V, cH1, n1, h, d1⟩ := sub_did hO hC hG hm h0 h
  obtain ⟨b, c, h', eV⟩ := onClo_ok h
  clear h
  subst eV
  have h := h'
  clear h'
  obtain ⟨mb, Nb, tb, ebb, hNb, h⟩ := onC0_ok h
  obtain ⟨mc, Nc, tc, ebc, hNc, h⟩ := onC0_ok h
  obtain ⟨d, o, L, h, hcs⟩ := onSlc_ok h
  obtain ⟨st, h, eci⟩ := isI_ok h
  obtain ⟨c2, h⟩ := bi_ok h
  simp only [Bool.and_eq_true] at c2
  obtain ⟨h, k1⟩ := cellEq_ok h
  obtain ⟨h, k2⟩ := cellEq_ok h
  obtain ⟨h, k3⟩ := cellEq_ok h
  obtain ⟨cH2, n2, h, tr⟩ := rnds_ok hO hC hG hm h0 _ _ h
  obtain ⟨V3, cH3, n3, h, d3⟩ := sub_did hO hC hG hm h0 h
  obtain ⟨z, h', eV⟩ := isI_ok h
  clear h
  subst eV
  have h := h'
  clear h'
  obtain ⟨cH4, h, hw4⟩ := wrC_ok h
  obtain ⟨S', hS1, hS2, hS3⟩ := ss_law 6 (.ptr b6 0) S0 (by omega)
  rw [hS1] at h
  refine ⟨S', cH4, n3, h, ?_⟩
  have hst : 1 ≤ st := by
    have : 0 < st := by simpa using c2.1.1
    omega
  have hst2 := Nat.le_of_ble_eq_true c2.1.2
  have hL := Nat.le_of_ble_eq_true c2.2
  clear h hS1
  intro E Pr aS H X K hs hr hK a w ha hw
  subst hw
  obtain ⟨s10, g10, v10⟩ := hs.get 10 (by omega)
  obtain ⟨s6, g6, v6⟩ := hs.get 6 (by omega)
  obtain ⟨s12, g12, v12⟩ := hs.get 12 (by omega)
  obtain ⟨s15, g15, v15⟩ := hs.get 15 (by omega)
  have t10 := ha.agree 10 s10 g10
  have t6 := ha.agree 6 s6 g6
  have t12 := ha.agree 12 s12 g12
  have t15 := ha.agree 15 s15 g15
  have v12' := v12
  have v15' := v15
  rw [eSj] at v10
  rw [eS6] at v6
  rw [eS15] at v15
  obtain ⟨rj, qj, hEj, e10⟩ := v10
  obtain ⟨r6, q6, hE6, e6⟩ := v6
  obtain ⟨xa, xl, xc, e12⟩ := isSl_ok c1.2 v12
  have e15 : s15.toV = .int .i64 (each : Int) := v15
  rw [e10] at t10
  rw [e6] at t6
  rw [e12] at t12 v12'
  rw [e15] at t15 v15'
  obtain ⟨uj, hj0, hvj⟩ := hr.cell0 ebj hNj hEj
  obtain ⟨rx, ox, rfl⟩ := isPtr_ok c1.1 hvj
  have haB : Ag Tryz.f19.ntmps [(6, .v (.pointer (some ⟨r6, 0, none⟩))), (10, .v (.pointer (some ⟨rj, 0, none⟩))), (12, .v (.slice xa xl xc)), (15, .v (.int .i64 (each : Int)))] a :=
    ag_of ha.size ha.defers [(6, .pointer (some ⟨r6, 0, none⟩)), (10, .pointer (some ⟨rj, 0, none⟩)), (12, .slice xa xl xc), (15, .int .i64 (each : Int))] (by
      intro x hx; simp only [List.mem_cons, List.mem_nil_iff, or_false] at hx; rcases hx with rfl | rfl | rfl | rfl <;> assumption)
  unfold c40T
  apply wp_seq
  refine wp_seq (wp_mono (part_wp Tryz.mixed (Fm23 xa xl xc (each : Int) w.heap fun v H' => ∃ E', E.le E' ∧ Rel E' Pr n1 cH1 H' ∧ VR E' (.fn 96 .nil (.cons (.ptr b 0) (.cons (.ptr c 0) .nil))) v) ?_ Tryz.func19 rfl rfl haB (haB.pick (by
    intro x hx; simp only [List.mem_cons, List.mem_nil_iff, or_false] at hx; rcases hx with rfl | rfl <;> rfl)) rfl) ?_)
  · have := d1 E Pr w.heap _ (LR.cons' v12' (LR.cons' v15' LR.nil')) hr
    rw [hP] at this
    refine this.mono ?_
    rintro v H' ⟨E', h1, h2, h3⟩
    have h3' := h3
    obtain ⟨aa, cc, _, _, rfl⟩ := h3
    exact ⟨96, aa.toArray, cc.toArray, rfl, E', h1, h2, h3'⟩
  rintro e a1 w1 ⟨rfl, hs1, vs, hl, ⟨E1, hle1, hr1, hv⟩, ha1⟩
  rw [one_of hl] at ha1
  obtain ⟨aa, cc, haa, ⟨_, _, ⟨r1, q1, hE1, rfl⟩, ⟨_, _, ⟨r2, q2, hE2, rfl⟩, hcc, rfl⟩, rfl⟩, hv⟩ := hv
  have haa : aa = [] := haa
  have hcc := hcc
  rw [show _ = [] from hcc] at hv
  subst haa
  rw [hv] at ha1
  have haC : Ag Tryz.f19.ntmps [(81, .v (.func (.func 96) #[] #[.pointer (some ⟨r1, 0, none⟩), .pointer (some ⟨r2, 0, none⟩)])), (6, .v (.pointer (some ⟨r6, 0, none⟩))), (10, .v (.pointer (some ⟨rj, 0, none⟩)))] a1 := ha1.pick (by
    intro x hx; simp only [List.mem_cons, List.mem_nil_iff, or_false] at hx; rcases hx with rfl | rfl | rfl <;> rfl)
  obtain ⟨us, hs0, hvs⟩ := hr1.cell0 ebb hNb hE1
  obtain ⟨ui, hi0, hvi⟩ := hr1.cell0 ebc hNc hE2
  obtain ⟨rd, qd, C, hEd, rfl, hLC⟩ := hcs E1 us hvs
  rw [eci] at hvi
  have hvi' : ui = .int .i64 (st : Int) := hvi
  subst hvi'
  have hvj1 := hvj.mono hle1
  have hEj1 := hle1 _ _ hEj
  have hE61 := hle1 _ _ hE6
  have hDf : Pr (w1.heap.size) = none := hr1.none_at (Nat.le_refl _)
  have hLf : Pr (w1.heap.size + 1) = none := hr1.none_at (Nat.le_succ _)
  apply wp_block
  refine range_heap (gf := 96) (lb := [.pointer (some ⟨r1, 0, none⟩), .pointer (some ⟨r2, 0, none⟩)]) (haC.agree 81 _ rfl) enters106 (chunk106_seq r1 r2 (some ⟨rd, o, none⟩) L C st hst (by omega) (by omega) hLC) (fun k => rfl)
    (FmtI M bj (tg 0 tj) b (tg 0 tb) c (tg 0 tc) d o L st E1 Pr w1.heap.size cH2 n2) (fun _ => False) ?_ ?_ ?_ (fun H rec h => h.elim)
    (fun k a' => Ag Tryz.f19.ntmps [(10, .v (.pointer (some ⟨rj, 0, none⟩))), (16, .v (chunkAt (some ⟨rd, o, none⟩) L st 2 k))] a') ?_ ?_ ?_ (fun W h => h.elim)
  · rintro k H ⟨cHk, nk, E', rec, t', g1, g2, g3, hle, hr'⟩
    exact ⟨g2 E' _ _ H r1 q1 _ (hle _ _ hE1) hr' (hvs.mono hle), g3 E' _ _ H r2 q2 _ (hle _ _ hE2) hr' (by rw [eci]; rfl)⟩
  · intro rec
    refine ⟨cH1, n1, E1, rec, tr, k1, k2, k3, En.le.refl E1, ?_⟩
    refine ((hr1.prot (.deferred (some []))).prot (.loop rec)).weak fun r x hp => ?_
    unfold PrL at hp
    simp only [Array.size_push]
    split at hp
    · rename_i e; rw [if_pos e]; exact hp
    · rename_i e
      rw [if_neg e]
      exact hp
  · rintro k H rec' ⟨cHk, nk, E', rec, t', g1, g2, g3, hle, hr'⟩
    refine ⟨cHk, nk, E', rec', t', g1, g2, g3, hle, hr'.swap (e := w1.heap.size + 1) (o := .loop rec) (by simp [PrL]) (fun r x hne hp => ?_) (fun x hp => ?_)⟩
    · unfold PrL at hp ⊢
      rw [if_neg hne] at hp ⊢
      exact hp
    · unfold PrL at hp
      rw [if_pos rfl] at hp
      simpa using hp.symm
  · intro l k W
    obtain ⟨ya, yl, yc, he⟩ : ∃ ya yl yc, chunkAt (some ⟨rd, o, none⟩) L st 2 k = .slice ya yl yc := ⟨_, _, _, rfl⟩
    have hact : Ag Tryz.f19.ntmps [(82, .v (.slice ya yl yc)), (10, .v (.pointer (some ⟨rj, 0, none⟩)))] { tmps := (#[82].zip [chunkAt (some ⟨rd, o, none⟩) L st 2 k].toArray).foldl (fun t (p, v) => t.setIfInBounds p v) a1.tmps, defers := [] } := by
      have hsz : a1.tmps.size = 91 := haC.size
      refine ag_of (by simp [hsz]) rfl [(82, .slice ya yl yc), (10, .pointer (some ⟨rj, 0, none⟩))] ?_
      intro x hx
      simp only [List.mem_cons, List.mem_nil_iff, or_false] at hx
      rcases hx with rfl | rfl
      · simp [hsz, he]
      · have : (a1.tmps.setIfInBounds 82 (chunkAt (some ⟨rd, o, none⟩) L st 2 k)).getD 10 undef = a1.tmps.getD 10 undef := by
          simp only [Array.getD_eq_getD_getElem?]
          rw [Array.getElem?_setIfInBounds_ne (by omega)]
        have h2 := haC.agree 10 (.v (.pointer (some ⟨rj, 0, none⟩))) rfl
        simpa [this, SV.toV] using h2
    refine wpIn_mono (part_in Tryz.mixed (Fm24 ya yl yc W.heap fun v H' => v = .slice ya yl yc ∧ H' = W.heap) ⟨rfl, rfl⟩ Tryz.func19 rfl rfl rfl hact (hact.pick (by
      intro x hx; simp only [List.mem_cons, List.mem_nil_iff, or_false] at hx; rcases hx with rfl; rfl)) rfl) ?_
    rintro e a' W' ⟨rfl, hs, vs, hl, ⟨hv, hh⟩, ha'⟩
    rw [one_of hl, hv] at ha'
    rw [he]
    exact ⟨rfl, hs, hh, ha'.pick (by intro x hx; simp only [List.mem_cons, List.mem_nil_iff, or_false] at hx; rcases hx with rfl | rfl <;> rfl)⟩
  · rintro k a' W rec' hA ⟨cHk, nk, E', rec, t', g1, g2, g3, hle, hr'⟩ hfin hD hL'
    have erec : rec = rec' := by
      have := (hr'.pr (w1.heap.size + 1) (.loop rec) true (by simp [PrL])).1
      rw [hL'] at this
      cases this; rfl
    subst erec
    cases t' with
    | done hf => exact absurd hf hfin
    | step hlt hd c1' c2' c3' t'' =>
    rename_i cHn nn
    rw [chunkAt_slc hst hlt] at hA
    apply wpIn_block
    refine wpIn_seq (wpIn_mono (part_in Tryz.mixed (Fm25 rj _ _ _ W.heap fun v H' => v = .int .i64 0 ∧ ∃ E'', E'.le E'' ∧ Rel E'' (PrL Pr w1.heap.size rec) nn cHn H') ⟨some ⟨rx, ox, none⟩, g1 E' _ _ _ rj qj _ (hle _ _ hEj1) hr' (hvj1.mono hle), ?_⟩ Tryz.func19 rfl rfl rfl hA hA rfl) ?_)
    · have := hd E' _ W.heap _ (LR.cons' (hvj1.mono hle) (LR.cons' ⟨rd, qd, hle _ _ hEd, rfl, Nat.le_refl _⟩ LR.nil')) hr'
      rw [hP] at this
      refine this.mono ?_
      rintro v H' ⟨E'', h1, h2, h3⟩
      have h3 : v = .int .i64 0 := h3
      subst h3
      exact ⟨0, rfl, rfl, E'', h1, h2⟩
    · rintro e a2 W2 ⟨rfl, hs2, vs, hl, ⟨hv, E2, hle2, hr2⟩, ha2⟩
      rw [one_of hl, hv] at ha2
      have ha2' : Ag Tryz.f19.ntmps [(17, .v (.int .i64 0))] a2 := ha2.pick (by
        intro x hx; simp only [List.mem_cons, List.mem_nil_iff, or_false] at hx; rcases hx with rfl; rfl)
      show Code.wpIn _ _ _ _ _ _ _
      refine wpIn_seq (wpIn_mono (part_in Tryz.mixed (Fm26 0 W2.heap fun v H' => v = .bool false ∧ H' = W2.heap) ⟨by simp, rfl⟩ Tryz.func19 rfl rfl rfl ha2' ha2' rfl) ?_)
      rintro e a3 W3 ⟨rfl, hs3, vs, hl, ⟨hv, hh3⟩, ha3⟩
      rw [one_of hl, hv] at ha3
      show Code.wpIn _ _ _ _ _ _ _
      refine wpIn_cond (t := false) (ha3.agree 87 (.v (.bool false)) rfl) ?_
      simp only [Bool.false_eq_true, if_false]
      refine wpIn_skip ?_
      refine ⟨hs2.trans hs3, ?_, ?_, .inl ⟨rfl, cHn, nn, E2, rec, t'', c1', c2', c3', hle.trans hle2, ?_⟩⟩
      · rw [hh3]; exact (hr2.pr w1.heap.size _ true (by simp [PrL])).1
      · rw [hh3]; exact (hr2.pr (w1.heap.size + 1) _ true (by simp [PrL])).1
      · rw [hh3]; exact hr2
  · rintro k W hfin ⟨cHk, nk, E', rec, t', g1, g2, g3, hle, hr'⟩ hD hsim
    cases t' with
    | step hlt => exact absurd hfin (by omega)
    | done hf =>
    show Code.wp _ _ _ _ _
    have haT : Ag Tryz.f19.ntmps [(10, .v (.pointer (some ⟨rj, 0, none⟩))), (6, .v (.pointer (some ⟨r6, 0, none⟩)))] { tmps := a1.tmps, defers := [] } := by
      have := haC.pick (S' := [(10, .v (.pointer (some ⟨rj, 0, none⟩))), (6, .v (.pointer (some ⟨r6, 0, none⟩)))]) (by intro x hx; simp only [List.mem_cons, List.mem_nil_iff, or_false] at hx; rcases hx with rfl | rfl <;> rfl)
      exact ⟨this.size, rfl, this.agree⟩
    refine wp_seq (wp_mono (part_with (Fm28 rj r6 W.heap fun v H' => ∃ E'', E'.le E'' ∧ Rel E'' (PrL Pr w1.heap.size rec) n3 cH4 H') ⟨some ⟨rx, ox, none⟩, g1 E' _ _ _ rj qj _ (hle _ _ hEj1) hr' (hvj1.mono hle), ?_⟩ Tryz.func19 rfl rfl haT haT rfl) ?_)
    · have := d3 E' _ W.heap _ (LR.cons' (hvj1.mono hle) LR.nil') hr'
      rw [hP] at this
      refine this.mono ?_
      rintro v H' ⟨E'', h1, h2, h3⟩
      have h3' : v = .int .i64 (z : Int) := h3
      subst h3'
      obtain ⟨f1, _, f2⟩ := hw4 E'' _ _ H' r6 q6 _ (h1 _ _ (hle _ _ hE61)) h2 (LR.cons' h3 LR.nil')
      exact ⟨z, rfl, f1, fun H5 hp => ⟨E'', h1, f2 H5 hp⟩⟩
    · rintro e a5 w5 ⟨⟨rfl, hs5, vs, hl, ⟨E2, hle2, hr2⟩, ha5⟩, hd5⟩
      refine wp_ret ?_
      have hK5 := (hr2.pr w1.heap.size (.deferred (some [])) true (by simp [PrL])).1
      have hsW : Sim w w5 := (hs1.trans hsim).trans hs5
      refine ⟨(List.range 256).map fun t => (t, .v (a5.tmps.getD t undef)), w5.putObj w1.heap.size (.deferred none), ha5.size, ?_, ?_, ⟨hsW.os, hsW.tape, hsW.output⟩, ?_⟩
      · intro t s ht
        rw [get_tab] at ht
        split at ht
        · cases ht; rfl
        · cases ht
      · rw [hd5]
        refine ⟨w1.heap.size, _, rfl, run_takeDeferred hK5, ?_⟩
        show Marks _ a1.defers _ _
        rw [haC.defers]; rfl
      · refine hK E2 _ _ ((hle1.trans hle).trans hle2) ?_ (hr2.swap (e := w1.heap.size) (o := .deferred (some [])) (by simp [PrL]) (fun r x hne hp => ?_) (fun x hp => ?_))
        · refine ⟨fun t ht => ⟨.v (a5.tmps.getD t undef), by rw [get_tab, if_pos (by simpa using ht)], ?_⟩, fun g hg => by omega, by rw [get_tab, if_neg (by simp [wideKey])]⟩
          by_cases e : t = 6
          · subst e
            rw [hS2]
            have := ha5.agree 6 (.v (.pointer (some ⟨r6, 0, none⟩))) rfl
            exact ⟨r6, q6, hle2 _ _ (hle _ _ hE61), this⟩
          · rw [hS3 t ht e, sg_S0 t ht]; trivial
        · unfold PrL
          by_cases e : r = w1.heap.size + 1
          · subst e; rw [hLf] at hp; cases hp
          · rw [if_neg e, if_neg hne]; exact hp
        · rw [hDf] at hp; cases hp
end Go.Ex

section
/-! A region and what stands behind it in its row. -/
open Go
namespace Go.Vc
def isReg (r : Nat) : Code → Bool
  | .region id _ _ => Nat.beq id r
  | _ => false
/-- The row that begins with region r. -/
def findS (r : Nat) : Code → Option Code
  | .seq a b => match isReg r a with
    | true => some (.seq a b)
    | false => match findS r a with
      | some c => some c
      | none => findS r b
  | .cond _ a b => match findS r a with
    | some c => some c
    | none => findS r b
  | .block _ a => findS r a
  | .loop a => findS r a
  | .rangeFunc _ _ a b => match findS r a with
    | some c => some c
    | none => findS r b
  | _ => none
def PartS (P : Program) (f r : Nat) (S : Sym) (outs : List Nat) (H : Heap) (R : Value → Heap → Prop) : Prop :=
  match P.funcs[f]? with
  | none => False
  | some fn => match fn.body with
    | none => False
    | some c => match findS r c with
      | none => False
      | some c => match compC P fn.ntmps outs [] c with
        | some sc => WP P (Does P) (fun _ _ => False) sc ⟨fun S H => retK (tmpsR outs) R S H, fun _ _ _ => False, fun _ _ => False⟩ S H
        | none => False
section
variable {P : Program} {f r : Nat} {S : Sym} {outs : List Nat} {H : Heap} {R : Value → Heap → Prop} {V : Prop} {fn : Func} {c0 c : Code}
theorem partS_wp (hm : P.follows .mixedOrders = true) (e : PartS P f r S outs H R = V) (h : V) (hf : P.funcs[f]? = some fn) (hb : fn.body = some c0) (hc : findS r c0 = some c) {a : Act} {w : World} {S' : Sym} (hx : Ag fn.ntmps S' a) (ha : Ag fn.ntmps S a) (hw : w.heap = H) :
    c.wp P (QP R outs (dstsC c) S' fn.ntmps w) a w := by
  rw [← e] at h
  unfold PartS at h
  rw [hf] at h
  simp only [hb, hc] at h
  split at h
  · rename_i sc hsc
    subst hw
    refine wp_mono (code_sound hm c sc hsc _ S a w ha h) ?_
    intro e a' w' hq
    cases e with
    | normal =>
      obtain ⟨h1, h2, S2, h3, h4⟩ := hq
      exact QP_of hx h3 h1 h2 h4
    | exit id => obtain ⟨_, _, _, _, h⟩ := hq; exact h.elim
    | ret => obtain ⟨_, _, _, _, h⟩ := hq; exact h.elim
    | panic ch => obtain ⟨_, _, _, _, h⟩ := hq; exact h.elim
    | goto l => exact hq.elim
    | outgrown => exact hq.elim
  · exact h.elim
end
end Go.Vc
end

section
open Go Go.Vc Go.Ex
namespace Go.Proofs
set_option maxRecDepth 100000
/-- (pentimento/object.state).copied, region 2 -/
theorem Cp2 (p1 : Nat) (p3 : Nat) (H : Heap) (R : Value → Heap → Prop) : PartS Tryz.prog 53 2 [(1, .v (.pointer (some (⟨p1, 0, none⟩ : Addr)))), (3, .v (.pointer (some (⟨p3, 0, none⟩ : Addr))))] [] H R = (
  ∃ m1 : Option Nat, hcell H p1 (0 + 2) = some (.map m1) ∧ (
    ∃ m2 : Nat, ∃ l3 : List (Int × Value), m1 = some m2 ∧ MapIs H m2 l3 ∧ ∀ r4 : Nat, ∀ H5 : Heap, NewMIter H r4 m2 l3 H5 → (
      ∃ I6 : Heap → Prop, ∃ μ7 : Heap → Nat, (I6 H5) ∧
      ∀ H8 : Heap, I6 H8 → (
        ∃ m9 : Nat, ∃ l10 : List (Int × Value), ∃ done11 : List Int, MIter H8 r4 m9 l10 done11 ∧ (∀ k12 : Int, ∀ v13 : Value, ∀ H14 : Heap, (k12, v13) ∈ l10 → k12 ∉ done11 → MStep H8 r4 m9 l10 done11 k12 H14 → (
            ((true = true → (
                  ∃ m15 : Nat, ∃ l16 : List (Int × Value), ∃ done17 : List Int, ∃ k18 : Int, MIter H14 r4 m15 l16 (done17 ++ [k18]) ∧ ∃ a19 : Option Addr, ∃ l20 : Nat, ∃ c21 : Nat, (k18, (.slice a19 l20 c21)) ∈ l16 ∧ (
                    ∃ m22 : Option Nat, hcell H14 p3 (0 + 2) = some (.map m22) ∧ (
                      ∃ r23 : Nat, ∃ l24 : List (Int × Value), m22 = some r23 ∧ MapIs H14 r23 l24 ∧ ∀ H25 : Heap, MapPut H14 r23 (mapSet l24 k18 (.slice a19 l20 c21)) H25 → (
                        (I6 H25) ∧ μ7 H25 < μ7 H8))))) ∧ (true = false → (
                  R (.tuple #[]) H14))))) ∧ ((∀ p ∈ l10, p.1 ∈ done11) → (
            ((false = true → (
                  ∃ m26 : Nat, ∃ l27 : List (Int × Value), ∃ done28 : List Int, ∃ k29 : Int, MIter H8 r4 m26 l27 (done28 ++ [k29]) ∧ ∃ a30 : Option Addr, ∃ l31 : Nat, ∃ c32 : Nat, (k29, (.slice a30 l31 c32)) ∈ l27 ∧ (
                    ∃ m33 : Option Nat, hcell H8 p3 (0 + 2) = some (.map m33) ∧ (
                      ∃ r34 : Nat, ∃ l35 : List (Int × Value), m33 = some r34 ∧ MapIs H8 r34 l35 ∧ ∀ H36 : Heap, MapPut H8 r34 (mapSet l35 k29 (.slice a30 l31 c32)) H36 → (
                        (I6 H36) ∧ μ7 H36 < μ7 H8))))) ∧ (false = false → (
                  R (.tuple #[]) H8))))))))) := by kernel_rfl


/-- (pentimento/object.state).copied, region 6 -/
theorem Cp6 (p3 : Nat) (p2 : Nat) (H : Heap) (R : Value → Heap → Prop) : Part Tryz.prog 53 6 [(3, .v (.pointer (some (⟨p3, 0, none⟩ : Addr)))), (2, .v (.pointer (some (⟨p2, 0, none⟩ : Addr))))] [] H R = (
  ∃ a1 : Option Addr, ∃ l2 : Nat, ∃ c3 : Nat, hcell H p3 0 = some (.slice a1 l2 c3) ∧ (
    ∃ p4 : Option Addr, hcell H p3 (0 + 1) = some (.pointer p4) ∧ (
      ∃ m5 : Option Nat, hcell H p3 ((0 + 1) + 1) = some (.map m5) ∧ (
        Cells H p2 0 3 ∧ ∀ H6 : Heap, Puts H p2 0 [(.slice a1 l2 c3), (.pointer p4), (.map m5)] H6 → (
          R (.tuple #[]) H6))))) := by kernel_rfl


/-- The copy of a state's map, and what is behind it. -/
noncomputable def c94T : Code := right (right (Tryz.f53.body.getD .skip))
def p94 : Pa := .i (.i .z)
theorem c94_eq : codeAt Tryz.prog 53 p94 = c94T := by kernel_rfl
theorem ntm94 : ntm Tryz.prog 53 = Tryz.f53.ntmps := by kernel_rfl
end Go.Proofs
end

section
open Go Go.Vc
namespace Go.Proofs
section
open Go.Shelf
def Tryz.keysA_ren : Go.Shelf.Ren := ⟨fun | 7 => 240 | 10 => 294 | n => n, fun | 23 => 97 | 26 => 3 | 3 => 37 | 28 => 308 | 0 => 0 | 27 => 307 | 33 => 139 | 4 => 4 | n => n, fun | n => n⟩
theorem Tryz.keysA : Go.Proofs.SlLaysZI.n7 Tryz.prog Tryz.keysA_ren := {
  mixed := by kernel_rfl
  f7 := ⟨Tryz.f240.name, by decide, Tryz.func240.trans (congrArg some (by kernel_rfl))⟩
  f10 := ⟨Tryz.f294.name, by decide, Tryz.func294.trans (congrArg some (by kernel_rfl))⟩
  t0 := Tryz.underlying0
  a0 := Tryz.isAgg0
  z0 := Tryz.sizeOf0
  v0 := Tryz.zeroValue0
  t4 := Tryz.underlying4
  a4 := Tryz.isAgg4
  z4 := Tryz.sizeOf4
  v4 := Tryz.zeroValue4
  t23 := Tryz.underlying97
  a23 := Tryz.isAgg97
  z23 := Tryz.sizeOf97
  v23 := Tryz.zeroValue97
  t26 := Tryz.underlying3
  a26 := Tryz.isAgg3
  z26 := Tryz.sizeOf3
  v26 := Tryz.zeroValue3
  t27 := Tryz.underlying307
  a27 := Tryz.isAgg307
  z27 := Tryz.sizeOf307
  v27 := Tryz.zeroValue307
  t28 := Tryz.underlying308
  a28 := Tryz.isAgg308
  z28 := Tryz.sizeOf308
  v28 := Tryz.zeroValue308
  t33 := Tryz.underlying139
  a33 := Tryz.isAgg139
  z33 := Tryz.sizeOf139
  v33 := Tryz.zeroValue139 }
def Tryz.sortedA_ren : Go.Shelf.Ren := ⟨fun | 6 => 239 | 8 => 293 | 9 => 186 | 11 => 350 | 13 => 254 | 12 => 253 | 23 => 309 | 24 => 310 | 14 => 300 | 15 => 301 | 16 => 302 | 17 => 303 | 18 => 304 | 19 => 305 | 20 => 306 | 21 => 307 | 22 => 308 | 25 => 356 | 26 => 357 | 27 => 358 | 28 => 359 | 29 => 360 | 30 => 361 | 31 => 389 | n => n, fun | 26 => 3 | 28 => 308 | 24 => 112 | 0 => 0 | 3 => 3 | 37 => 311 | 48 => 358 | 50 => 69 | 4 => 4 | 40 => 351 | 39 => 350 | 45 => 49 | 5 => 5 | 9 => 9 | 51 => 393 | 55 => 397 | 57 => 413 | 58 => 376 | 33 => 139 | n => n, fun | n => n⟩
theorem Tryz.sortedA : Go.Proofs.SlLaysZI.n6 Tryz.prog Tryz.sortedA_ren := {
  mixed := by kernel_rfl
  f6 := ⟨Tryz.f239.name, by decide, Tryz.func239.trans (congrArg some (by kernel_rfl))⟩
  f8 := ⟨Tryz.f293.name, by decide, Tryz.func293.trans (congrArg some (by kernel_rfl))⟩
  f11 := ⟨Tryz.f350.name, by decide, Tryz.func350.trans (congrArg some (by kernel_rfl))⟩
  t0 := Tryz.underlying0
  a0 := Tryz.isAgg0
  z0 := Tryz.sizeOf0
  v0 := Tryz.zeroValue0
  t24 := Tryz.underlying112
  a24 := Tryz.isAgg112
  z24 := Tryz.sizeOf112
  v24 := Tryz.zeroValue112
  t26 := Tryz.underlying3
  a26 := Tryz.isAgg3
  z26 := Tryz.sizeOf3
  v26 := Tryz.zeroValue3
  t28 := Tryz.underlying308
  a28 := Tryz.isAgg308
  z28 := Tryz.sizeOf308
  v28 := Tryz.zeroValue308
  i26 := by kernel_rfl }
def Tryz.sortA_ren : Go.Shelf.Ren := ⟨fun | 5 => 186 | 8 => 254 | 7 => 253 | 19 => 309 | 20 => 310 | 10 => 300 | 11 => 301 | 12 => 302 | 13 => 303 | 14 => 304 | 15 => 305 | 16 => 306 | 17 => 307 | 18 => 308 | 30 => 356 | 31 => 357 | 32 => 358 | 33 => 359 | 34 => 360 | 35 => 361 | 40 => 389 | n => n, fun | 23 => 112 | 25 => 3 | 3 => 3 | 32 => 311 | 22 => 112 | 0 => 0 | 44 => 358 | 46 => 69 | 4 => 4 | 36 => 351 | 35 => 350 | 41 => 49 | 5 => 5 | 9 => 9 | 53 => 393 | 57 => 397 | 63 => 413 | 64 => 376 | n => n, fun | n => n⟩
theorem Tryz.sortA : Go.Proofs.SlLaysM.n5 Tryz.prog Tryz.sortA_ren := {
  mixed := by kernel_rfl
  f5 := ⟨Tryz.f186.name, by decide, Tryz.func186.trans (congrArg some (by kernel_rfl))⟩
  f7 := ⟨Tryz.f253.name, by decide, Tryz.func253.trans (congrArg some (by kernel_rfl))⟩
  f8 := Tryz.func254.trans (congrArg some (by kernel_rfl))
  f10 := ⟨Tryz.f300.name, by decide, Tryz.func300.trans (congrArg some (by kernel_rfl))⟩
  f11 := ⟨Tryz.f301.name, by decide, Tryz.func301.trans (congrArg some (by kernel_rfl))⟩
  f12 := ⟨Tryz.f302.name, by decide, Tryz.func302.trans (congrArg some (by kernel_rfl))⟩
  f13 := ⟨Tryz.f303.name, by decide, Tryz.func303.trans (congrArg some (by kernel_rfl))⟩
  f14 := ⟨Tryz.f304.name, by decide, Tryz.func304.trans (congrArg some (by kernel_rfl))⟩
  f15 := ⟨Tryz.f305.name, by decide, Tryz.func305.trans (congrArg some (by kernel_rfl))⟩
  f16 := ⟨Tryz.f306.name, by decide, Tryz.func306.trans (congrArg some (by kernel_rfl))⟩
  f17 := ⟨Tryz.f307.name, by decide, Tryz.func307.trans (congrArg some (by kernel_rfl))⟩
  f18 := ⟨Tryz.f308.name, by decide, Tryz.func308.trans (congrArg some (by kernel_rfl))⟩
  f19 := Tryz.func309.trans (congrArg some (by kernel_rfl))
  f20 := Tryz.func310.trans (congrArg some (by kernel_rfl))
  f30 := ⟨Tryz.f356.name, by decide, Tryz.func356.trans (congrArg some (by kernel_rfl))⟩
  f31 := Tryz.func357.trans (congrArg some (by kernel_rfl))
  f32 := Tryz.func358.trans (congrArg some (by kernel_rfl))
  f33 := ⟨Tryz.f359.name, by decide, Tryz.func359.trans (congrArg some (by kernel_rfl))⟩
  f34 := ⟨Tryz.f360.name, by decide, Tryz.func360.trans (congrArg some (by kernel_rfl))⟩
  f35 := ⟨Tryz.f361.name, by decide, Tryz.func361.trans (congrArg some (by kernel_rfl))⟩
  f40 := ⟨Tryz.f389.name, by decide, Tryz.func389.trans (congrArg some (by kernel_rfl))⟩
  t0 := Tryz.underlying0
  a0 := Tryz.isAgg0
  z0 := Tryz.sizeOf0
  v0 := Tryz.zeroValue0
  t3 := Tryz.underlying3
  a3 := Tryz.isAgg3
  z3 := Tryz.sizeOf3
  v3 := Tryz.zeroValue3
  t4 := Tryz.underlying4
  a4 := Tryz.isAgg4
  z4 := Tryz.sizeOf4
  v4 := Tryz.zeroValue4
  t5 := Tryz.underlying5
  a5 := Tryz.isAgg5
  z5 := Tryz.sizeOf5
  v5 := Tryz.zeroValue5
  t9 := Tryz.underlying9
  a9 := Tryz.isAgg9
  z9 := Tryz.sizeOf9
  v9 := Tryz.zeroValue9
  t22 := Tryz.underlying112
  a22 := Tryz.isAgg112
  z22 := Tryz.sizeOf112
  v22 := Tryz.zeroValue112
  t23 := Tryz.underlying112
  a23 := Tryz.isAgg112
  z23 := Tryz.sizeOf112
  v23 := Tryz.zeroValue112
  t25 := Tryz.underlying3
  a25 := Tryz.isAgg3
  z25 := Tryz.sizeOf3
  v25 := Tryz.zeroValue3
  t32 := Tryz.underlying311
  a32 := Tryz.isAgg311
  z32 := Tryz.sizeOf311
  v32 := Tryz.zeroValue311
  t35 := Tryz.underlying350
  a35 := Tryz.isAgg350
  z35 := Tryz.sizeOf350
  v35 := Tryz.zeroValue350
  t36 := Tryz.underlying351
  a36 := Tryz.isAgg351
  z36 := Tryz.sizeOf351
  v36 := Tryz.zeroValue351
  t41 := Tryz.underlying49
  a41 := Tryz.isAgg49
  z41 := Tryz.sizeOf49
  v41 := Tryz.zeroValue49
  t44 := Tryz.underlying358
  a44 := Tryz.isAgg358
  z44 := Tryz.sizeOf358
  v44 := Tryz.zeroValue358
  t46 := Tryz.underlying69
  a46 := Tryz.isAgg69
  z46 := Tryz.sizeOf69
  v46 := Tryz.zeroValue69
  t53 := Tryz.underlying393
  a53 := Tryz.isAgg393
  z53 := Tryz.sizeOf393
  v53 := Tryz.zeroValue393
  t57 := Tryz.underlying397
  a57 := Tryz.isAgg397
  z57 := Tryz.sizeOf397
  v57 := Tryz.zeroValue397
  t63 := Tryz.underlying413
  a63 := Tryz.isAgg413
  z63 := Tryz.sizeOf413
  v63 := Tryz.zeroValue413
  t64 := Tryz.underlying376
  a64 := Tryz.isAgg376
  z64 := Tryz.sizeOf376
  v64 := Tryz.zeroValue376 }
end

section
open Go.RowKit Go.Maps Go.Sort Go.Shelf
/-- slices.Sort's two contracts at this dump. -/
theorem Tryz.sortsA (m : Nat) : AnyZI.SortsIn Tryz.prog Tryz.sortedA_ren Fence.wide m :=
  ⟨fun blk off cap ss W hH hblk hsz => callsIn_wide.2 (AnyM.slices_Sort_int Tryz.sortA blk off cap ss W hH hblk hsz),
   fun p cap W => callsIn_wide.2 (AnyM.slices_Sort_int_none Tryz.sortA p cap W)⟩

/-- slices.Sorted of a map's keys. -/
theorem Tryz.sortedKeys {H : Type} (b bm nn : Nat) (D0 : DataW H) (R : Value → Option (DataW H × List MemPlace)) (w : World) (hbm : w.cell? ⟨bm, 0, none⟩ = some (.map (some b))) (hlt : bm < w.heap.size) (hown : w.ownsMap Tryz.prog 3 R b nn D0) (hmax : Maps.size D0 ≤ maxLen) (hbytes : Maps.size D0 * 8 ≤ 140737488355328) :
    Calls Tryz.prog 239 #[.func (.func 294) #[] #[.pointer (some ⟨bm, 0, none⟩)]] w fun e w' => ∃ (v : Value) (ss : List Int), e = .returned v ∧ ss.Perm (intKeys D0) ∧
      w'.ownsRow w.heap.size 3 1 v ss.length ((ss.mergeSort (fun x y => decide (x ≤ y))).map encZ) ∧ (v = .slice none 0 0 ↔ ss = []) ∧ Below w.heap.size w w' := by
  have hseq : SeqGives Fence.wide 2 Tryz.prog 294 #[.pointer (some ⟨bm, 0, none⟩)] encZ (fun ss => ss.Perm (intKeys D0)) (Maps.size D0) w :=
    AnyZI.keys_gives (ρ := Tryz.keysA_ren) { Tryz.keysA with } Fence.wide 2 trivial rfl (by omega) bm b nn D0 w hlt hbm hown
  refine (callsIn_wide (n := 5)).1 ?_
  exact AnyZI.sorted_in Tryz.sortedA Fence.wide 5 trivial trivial trivial trivial rfl (by omega) (Tryz.sortsA _) (enters_of Tryz.func186 (by kernel_rfl) rfl) 294 #[.pointer (some ⟨bm, 0, none⟩)] trivial (enters_of Tryz.func294 (by kernel_rfl) rfl) _ _ hmax hbytes _ hseq
end

end Go.Proofs
end

section
open Go Go.Vc
namespace Go.Proofs

def ints (zs : List Int) : List Value := zs.map fun z => .int .i64 z
def sorted (zs : List Int) : List Int := zs.mergeSort fun x y => decide (x ≤ y)
theorem ints_length (zs : List Int) : (ints zs).length = zs.length := by simp [ints]
theorem ints_at {zs : List Int} {j : Nat} {z : Int} (h : zs[j]? = some z) : (ints zs)[j]? = some (.int .i64 z) := by simp [ints, h]
theorem sorted_len (l : List Int) : (sorted l).length = l.length := by simp [sorted]

theorem keys_ok (r : Nat) (H : Heap) : Does Tryz.prog 240 [.map (some r)] H fun v H' => v = .func (.func 294) #[] #[.pointer (some ⟨H.size, 0, none⟩)] ∧ New H H.size [.map (some r)] 97 H' := by
  refine Fn_of_vc Tryz.mixed (vc_keys _ _ _) ?_
  intro b H2 hn
  have := hn.eq
  subst this
  exact ⟨rfl, hn⟩

def keyI : Value → Int
  | .int _ n => n
  | _ => 0

theorem sorted_ok {H : Heap} {r b : Nat} {l : List (Int × Value)} (hb : hcell H b 0 = some (.map (some r))) (hm : MapIs H r l) (hw : ∀ p ∈ l, In64 p.1) (hl : l.length ≤ 1000000) :
    Does Tryz.prog 239 [.func (.func 294) #[] #[.pointer (some ⟨b, 0, none⟩)]] H fun v H' => ∃ a c, v = .slice a l.length c ∧ Own H' 1 a l.length c (ints (sorted (l.map (·.1)))) ∧ Ext [] H H' ∧ ∀ k ∈ blkOf a, H.size ≤ k := by
  intro w hw'
  subst hw'
  obtain ⟨es, clock, hr, he, hst⟩ := hm
  have hkeys : es.toList.map (·.key) = l.map fun p => .int .i64 p.1 := by
    have := congrArg (List.map Prod.fst) he
    simpa [List.map_map, Function.comp_def] using this
  have hlen : es.toList.length = l.length := by have := congrArg List.length hkeys; simpa using this
  have hkey : ∀ x ∈ es.toList, ∃ n : Int, x.key = .int .i64 n ∧ In64 n := fun x hx => by
    have : x.key ∈ es.toList.map (·.key) := List.mem_map.2 ⟨x, hx, rfl⟩
    rw [hkeys] at this
    obtain ⟨p, hp, e⟩ := List.mem_map.1 this
    exact ⟨p.1, e.symm, hw p hp⟩
  let R : Value → Option (DataW Unit × List MemPlace) := fun _ => some (.nil, [])
  have hrd : ∀ x ∈ es.toList, Go.WideElems.rd Tryz.prog 3 R x = some (.int .i64 (keyI x.key), .nil) := fun x hx => by
    obtain ⟨n, e, h1, h2⟩ := hkey x hx
    have hwf : (Lit.int .i64 n).wf = true := by
      simp only [Lit.wf, IntKind.min, IntKind.max, IntKind.signed, IntKind.bits]
      simp
      omega
    simp [Go.WideElems.rd, R, e, keyOf, mapKey, Tryz.underlying3, hwf, keyI]
  have hsize : es.size = l.length := by simpa using hlen
  have hF : Go.WideElems.Fit Tryz.prog 3 R es clock := ⟨by rw [hsize]; unfold maxLen; omega, hst, fun x hx => ⟨_, hrd x hx⟩⟩
  have hown : w.ownsMap Tryz.prog 3 R r es.size (.map ((es.toList.map (Go.WideElems.rg Tryz.prog 3 R)).foldr DataW.insert [])) := ⟨es, clock, hr, hF, Nat.le_refl _, rfl⟩
  have hperm : (intKeys (.map ((es.toList.map (Go.WideElems.rg Tryz.prog 3 R)).foldr DataW.insert []))).Perm (l.map (·.1)) := by
    have h1 : (((es.toList.map (Go.WideElems.rg Tryz.prog 3 R)).foldr DataW.insert []).map fun p => Go.intOf p.1).Perm ((es.toList.map (Go.WideElems.rg Tryz.prog 3 R)).map fun p => Go.intOf p.1) := (Go.WideShapes.sorted_perm _).map _
    have h2 : ((es.toList.map (Go.WideElems.rg Tryz.prog 3 R)).map fun p => Go.intOf p.1) = l.map (·.1) := by
      rw [List.map_map]
      have h3 : es.toList.map ((fun p : Lit × DataW Unit => Go.intOf p.1) ∘ Go.WideElems.rg Tryz.prog 3 R) = es.toList.map (fun x => keyI x.key) := List.map_congr_left fun x hx => by
        simp only [Function.comp_apply, Go.WideElems.rg, hrd x hx, Option.getD_some, Go.intOf]
      rw [h3]
      have h4 := congrArg (List.map keyI) hkeys
      simpa [List.map_map, Function.comp_def, keyI] using h4
    rw [h2] at h1
    exact h1
  have hsz : Go.Maps.size (.map ((es.toList.map (Go.WideElems.rg Tryz.prog 3 R)).foldr DataW.insert [])) = l.length := by
    rw [Go.Maps.size_eq, (Go.WideShapes.sorted_perm _).length_eq, List.length_map, hlen]
  refine (Tryz.sortedKeys r b es.size _ R w (by rw [cell_hcell]; exact hb) (hcell_lt hb) hown (by rw [hsz]; unfold maxLen; omega) (by rw [hsz]; omega)).mono ?_
  rintro e w' ⟨v, ss, rfl, hS, ⟨hrl, hrow⟩, hnil, hbel⟩
  have hss := hS.trans hperm
  have hsl : ss.length = l.length := by rw [hss.length_eq, List.length_map]
  have hso : (ss.mergeSort (fun x y => decide (x ≤ y))) = sorted (l.map (·.1)) := mergeSort_of_perm_i hss
  rw [hso] at hrow
  have hext : Ext [] w.heap w'.heap := ⟨hbel.size, fun k hk _ => hbel.block k hk⟩
  refine ⟨v, rfl, ⟨hbel.os, hbel.tape, hbel.output⟩, ?_⟩
  rcases hrow with ⟨rfl, h0⟩ | ⟨g, cap, cur, rfl, hg, hgb, hc1, hc2, hc3, hc4⟩
  · have : l = [] := List.length_eq_zero_iff.1 (by omega)
    subst this
    exact ⟨none, 0, rfl, by simpa [sorted, ints] using Own.nil _ _, hext, by simp [blkOf]⟩
  · refine ⟨some ⟨g, 0, none⟩, cap, by rw [hsl], ⟨by rw [ints_length, sorted_len, List.length_map, Nat.mul_one], by omega, hc2, .inr ⟨g, cur.toList.drop l.length, rfl, ⟨3, ?_⟩, ?_⟩⟩, hext, fun k hk => ?_⟩
    · rw [hgb]
      congr 2
      apply Array.ext'
      rw [Nat.mul_one, hsl] at hc4
      show cur.toList = _
      rw [show ints (sorted (l.map (·.1))) = cur.toList.take l.length by rw [hc4]; rfl, List.take_append_drop]
    · rw [show ints (sorted (l.map (·.1))) = cur.toList.take l.length by rw [Nat.mul_one, hsl] at hc4; rw [hc4]; rfl, List.take_append_drop]
      simpa using hc3
    · simp only [blkOf, List.mem_singleton] at hk; omega
end Go.Proofs
end

section
/-! slices.Sorted of a map's keys, told. -/
namespace Go.Ex
open Go Go.Vc Go.Proofs

def ikeys : CV → Option (List Int)
  | .nil => some []
  | .cons (.cons (.int _ a) _) t => match ikeys t with
    | some l => some (a :: l)
    | none => none
  | _ => none
def insI (a : Int) : List Int → List Int
  | [] => [a]
  | b :: l => if a ≤ b then a :: b :: l else b :: insI a l
def isort : List Int → List Int
  | [] => []
  | a :: l => insI a (isort l)
def incr : List Int → Bool
  | a :: b :: l => decide (a < b) && incr (b :: l)
  | _ => true
def smallI (l : List Int) : Bool := l.all fun a => Nat.ble a.natAbs 1099511627776
def intsC : List Int → CV
  | [] => .nil
  | a :: l => .cons (.int .i64 a) (intsC l)

theorem lk_ikeys : ∀ {l : CV} {ks : List Int}, ikeys l = some ks → ∀ n, (∃ v, lk l n = some v) ↔ n ∈ ks
  | .nil, ks, h, n => by
    simp only [ikeys, Option.some.injEq] at h
    subst h
    simp [lk]
  | .cons (.cons (.int k a) v) t, ks, h, n => by
    simp only [ikeys] at h
    split at h
    · rename_i l hl
      simp only [Option.some.injEq] at h
      subst h
      have ih := lk_ikeys hl n
      simp only [lk, List.mem_cons]
      by_cases e : a = n
      · simp [e]
      · rw [if_neg e, ih]
        constructor
        · exact .inr
        · rintro (e' | h)
          · exact absurd e'.symm e
          · exact h
    · cases h
  | .cons .u _, _, h, _ => by cases h
  | .cons (.int _ _) _, _, h, _ => by cases h
  | .cons (.bool _) _, _, h, _ => by cases h
  | .cons (.str _ _) _, _, h, _ => by cases h
  | .cons (.flt _) _, _, h, _ => by cases h
  | .cons (.ptr _ _) _, _, h, _ => by cases h
  | .cons .pnil _, _, h, _ => by cases h
  | .cons (.slc _ _ _ _) _, _, h, _ => by cases h
  | .cons (.slu _ _ _ _) _, _, h, _ => by cases h
  | .cons .sle _, _, h, _ => by cases h
  | .cons .snil _, _, h, _ => by cases h
  | .cons (.map _) _, _, h, _ => by cases h
  | .cons .mnil _, _, h, _ => by cases h
  | .cons (.fn _ _ _) _, _, h, _ => by cases h
  | .cons .fnil _, _, h, _ => by cases h
  | .cons (.ifc _ _) _, _, h, _ => by cases h
  | .cons .inil _, _, h, _ => by cases h
  | .cons (.agg _) _, _, h, _ => by cases h
  | .cons (.tup _) _, _, h, _ => by cases h
  | .cons .nil _, _, h, _ => by cases h
  | .cons (.cons .u _) _, _, h, _ => by cases h
  | .cons (.cons (.bool _) _) _, _, h, _ => by cases h
  | .cons (.cons (.str _ _) _) _, _, h, _ => by cases h
  | .cons (.cons (.flt _) _) _, _, h, _ => by cases h
  | .cons (.cons (.ptr _ _) _) _, _, h, _ => by cases h
  | .cons (.cons .pnil _) _, _, h, _ => by cases h
  | .cons (.cons (.slc _ _ _ _) _) _, _, h, _ => by cases h
  | .cons (.cons (.slu _ _ _ _) _) _, _, h, _ => by cases h
  | .cons (.cons .sle _) _, _, h, _ => by cases h
  | .cons (.cons .snil _) _, _, h, _ => by cases h
  | .cons (.cons (.map _) _) _, _, h, _ => by cases h
  | .cons (.cons .mnil _) _, _, h, _ => by cases h
  | .cons (.cons (.fn _ _ _) _) _, _, h, _ => by cases h
  | .cons (.cons .fnil _) _, _, h, _ => by cases h
  | .cons (.cons (.ifc _ _) _) _, _, h, _ => by cases h
  | .cons (.cons .inil _) _, _, h, _ => by cases h
  | .cons (.cons (.agg _) _) _, _, h, _ => by cases h
  | .cons (.cons (.tup _) _) _, _, h, _ => by cases h
  | .cons (.cons .nil _) _, _, h, _ => by cases h
  | .cons (.cons (.cons _ _) _) _, _, h, _ => by cases h
  | .u, _, h, _ => by cases h
  | .int _ _, _, h, _ => by cases h
  | .bool _, _, h, _ => by cases h
  | .str _ _, _, h, _ => by cases h
  | .flt _, _, h, _ => by cases h
  | .ptr _ _, _, h, _ => by cases h
  | .pnil, _, h, _ => by cases h
  | .slc _ _ _ _, _, h, _ => by cases h
  | .slu _ _ _ _, _, h, _ => by cases h
  | .sle, _, h, _ => by cases h
  | .snil, _, h, _ => by cases h
  | .map _, _, h, _ => by cases h
  | .mnil, _, h, _ => by cases h
  | .fn _ _ _, _, h, _ => by cases h
  | .fnil, _, h, _ => by cases h
  | .ifc _ _, _, h, _ => by cases h
  | .inil, _, h, _ => by cases h
  | .agg _, _, h, _ => by cases h
  | .tup _, _, h, _ => by cases h
theorem mem_insI {a n : Int} : ∀ {l : List Int}, n ∈ insI a l ↔ n = a ∨ n ∈ l
  | [] => by simp [insI]
  | b :: l => by
    unfold insI
    split
    · simp
    · simp only [List.mem_cons, mem_insI (l := l)]
      constructor
      · rintro (h | h | h)
        · exact .inr (.inl h)
        · exact .inl h
        · exact .inr (.inr h)
      · rintro (h | h | h)
        · exact .inr (.inl h)
        · exact .inl h
        · exact .inr (.inr h)
theorem mem_isort {n : Int} : ∀ {l : List Int}, n ∈ isort l ↔ n ∈ l
  | [] => by simp [isort]
  | a :: l => by unfold isort; rw [mem_insI, mem_isort, List.mem_cons]
theorem len_insI (a : Int) : ∀ l : List Int, (insI a l).length = l.length + 1
  | [] => rfl
  | b :: l => by
    unfold insI
    split
    · rfl
    · simp [len_insI a l]
theorem len_isort : ∀ l : List Int, (isort l).length = l.length
  | [] => rfl
  | a :: l => by unfold isort; rw [len_insI, len_isort l]; rfl
theorem incr_pw : ∀ {l : List Int}, incr l = true → l.Pairwise (· < ·)
  | [], _ => List.Pairwise.nil
  | [a], _ => by simp
  | a :: b :: l, h => by
    unfold incr at h
    simp only [Bool.and_eq_true, decide_eq_true_eq] at h
    have ih := incr_pw h.2
    refine List.pairwise_cons.2 ⟨fun x hx => ?_, ih⟩
    rcases List.mem_cons.1 hx with rfl | hx
    · exact h.1
    · have := (List.pairwise_cons.1 ih).1 x hx
      omega
theorem sorted_of {E : En} {l : CV} {l' : List (Int × Value)} {ks : List Int} (hm : MR E l l') (hk : ikeys l = some ks) (hi : incr (isort ks) = true) : sorted (l'.map (·.1)) = isort ks := by
  have hp := incr_pw hi
  have hmem : ∀ n, n ∈ l'.map (·.1) ↔ n ∈ isort ks := fun n => by
    rw [mem_isort, ← lk_ikeys hk n]
    have := hm.2 n
    constructor
    · intro h
      obtain ⟨x, hx, rfl⟩ := List.mem_map.1 h
      cases e : lk l x.1 with
      | some v => exact ⟨v, rfl⟩
      | none => rw [e] at this; exact absurd hx (this x.2)
    · rintro ⟨v, e⟩
      rw [e] at this
      obtain ⟨u, hu, _⟩ := this
      exact List.mem_map.2 ⟨_, hu, rfl⟩
  have hperm : (l'.map (·.1)).Perm (isort ks) := (List.perm_ext_iff_of_nodup hm.1 (hp.imp fun h => by omega)).2 hmem
  refine List.Perm.eq_of_pairwise (le := fun a b : Int => a ≤ b) (fun a b _ _ h1 h2 => by omega) ?_ (hp.imp fun h => by omega) (((List.mergeSort_perm _ _).trans hperm))
  have := List.pairwise_mergeSort (le := fun x y : Int => decide (x ≤ y)) (fun a b c h1 h2 => by simp at *; omega) (fun a b => by simp; omega) (l'.map (·.1))
  exact this.imp fun h => by simpa using h
theorem intsC_ok {E : En} : ∀ (l : List Int), LR E (intsC l) (ints l)
  | [] => rfl
  | _ :: l => LR.cons' rfl (intsC_ok l)

theorem sorted_nil {H : Heap} {r b : Nat} {l : List (Int × Value)} (hb : hcell H b 0 = some (.map (some r))) (hm : MapIs H r l) (hw : ∀ p ∈ l, In64 p.1) (hl : l.length ≤ 1000000) :
    Does Tryz.prog 239 [.func (.func 294) #[] #[.pointer (some ⟨b, 0, none⟩)]] H fun v H' => (l = [] → v = .slice none 0 0) ∧ Ext [] H H' := by
  intro w hw'
  subst hw'
  obtain ⟨es, clock, hr, he, hst⟩ := hm
  have hkeys : es.toList.map (·.key) = l.map fun p => .int .i64 p.1 := by
    have := congrArg (List.map Prod.fst) he
    simpa [List.map_map, Function.comp_def] using this
  have hlen : es.toList.length = l.length := by have := congrArg List.length hkeys; simpa using this
  have hkey : ∀ x ∈ es.toList, ∃ n : Int, x.key = .int .i64 n ∧ In64 n := fun x hx => by
    have : x.key ∈ es.toList.map (·.key) := List.mem_map.2 ⟨x, hx, rfl⟩
    rw [hkeys] at this
    obtain ⟨p, hp, e⟩ := List.mem_map.1 this
    exact ⟨p.1, e.symm, hw p hp⟩
  let R : Value → Option (DataW Unit × List MemPlace) := fun _ => some (.nil, [])
  have hrd : ∀ x ∈ es.toList, Go.WideElems.rd Tryz.prog 3 R x = some (.int .i64 (keyI x.key), .nil) := fun x hx => by
    obtain ⟨n, e, h1, h2⟩ := hkey x hx
    have hwf : (Lit.int .i64 n).wf = true := by
      simp only [Lit.wf, IntKind.min, IntKind.max, IntKind.signed, IntKind.bits]
      simp
      omega
    simp [Go.WideElems.rd, R, e, keyOf, mapKey, Tryz.underlying3, hwf, keyI]
  have hsize : es.size = l.length := by simpa using hlen
  have hF : Go.WideElems.Fit Tryz.prog 3 R es clock := ⟨by rw [hsize]; unfold maxLen; omega, hst, fun x hx => ⟨_, hrd x hx⟩⟩
  have hown : w.ownsMap Tryz.prog 3 R r es.size (.map ((es.toList.map (Go.WideElems.rg Tryz.prog 3 R)).foldr DataW.insert [])) := ⟨es, clock, hr, hF, Nat.le_refl _, rfl⟩
  have hperm : (intKeys (.map ((es.toList.map (Go.WideElems.rg Tryz.prog 3 R)).foldr DataW.insert []))).Perm (l.map (·.1)) := by
    have h1 : (((es.toList.map (Go.WideElems.rg Tryz.prog 3 R)).foldr DataW.insert []).map fun p => Go.intOf p.1).Perm ((es.toList.map (Go.WideElems.rg Tryz.prog 3 R)).map fun p => Go.intOf p.1) := (Go.WideShapes.sorted_perm _).map _
    have h2 : ((es.toList.map (Go.WideElems.rg Tryz.prog 3 R)).map fun p => Go.intOf p.1) = l.map (·.1) := by
      rw [List.map_map]
      have h3 : es.toList.map ((fun p : Lit × DataW Unit => Go.intOf p.1) ∘ Go.WideElems.rg Tryz.prog 3 R) = es.toList.map (fun x => keyI x.key) := List.map_congr_left fun x hx => by
        simp only [Function.comp_apply, Go.WideElems.rg, hrd x hx, Option.getD_some, Go.intOf]
      rw [h3]
      have h4 := congrArg (List.map keyI) hkeys
      simpa [List.map_map, Function.comp_def, keyI] using h4
    rw [h2] at h1
    exact h1
  have hsz : Go.Maps.size (.map ((es.toList.map (Go.WideElems.rg Tryz.prog 3 R)).foldr DataW.insert [])) = l.length := by
    rw [Go.Maps.size_eq, (Go.WideShapes.sorted_perm _).length_eq, List.length_map, hlen]
  refine (Tryz.sortedKeys r b es.size _ R w (by rw [cell_hcell]; exact hb) (hcell_lt hb) hown (by rw [hsz]; unfold maxLen; omega) (by rw [hsz]; omega)).mono ?_
  rintro e w' ⟨v, ss, rfl, hS, ⟨hrl, hrow⟩, hnil, hbel⟩
  have hss := hS.trans hperm
  have hsl : ss.length = l.length := by rw [hss.length_eq, List.length_map]
  have hso : (ss.mergeSort (fun x y => decide (x ≤ y))) = sorted (l.map (·.1)) := mergeSort_of_perm_i hss
  rw [hso] at hrow
  have hext : Ext [] w.heap w'.heap := ⟨hbel.size, fun k hk _ => hbel.block k hk⟩
  refine ⟨v, rfl, ⟨hbel.os, hbel.tape, hbel.output⟩, ?_⟩
  refine ⟨fun h => hnil.2 ?_, hext⟩
  subst h
  exact List.length_eq_zero_iff.1 hsl

noncomputable def o_sorted : OF := fun l H n k =>
  match l with
  | .cons (.fn f .nil (.cons (.ptr b 0) .nil)) .nil => match hg b H with
    | .cells _ N t => match tg 0 t with
      | .map m => match hg m H with
        | .map l => match ikeys l with
          | some [] => bi (Nat.beq f 294 && Nat.blt 0 N) (k .snil H n) no
          | some ks => bi (Nat.beq f 294 && Nat.blt 0 N && incr (isort ks) && smallI (isort ks) && Nat.blt 0 ks.length && Nat.blt ks.length 1000000) (newB (.cells 3 (isort ks).length (mkT (intsC (isort ks)))) H n fun H n' => k (.slu n 0 0 (isort ks).length) H n') no
          | none => no
        | _ => no
      | _ => no
    | _ => no
  | _ => no
theorem o_sorted_ok {Ok : St → Prop} [Okay Ok] {ng : Nat} {l : CV} {cH : He} {n : Nat} {k : EK} (h : Ok (o_sorted l cH n k)) : ∃ cv cH' n', Ok (k cv cH' n') ∧
    ∀ E Pr H vs, (∀ g, g < ng → ∃ q, E g = some (g, q)) → LR E l vs → Rel E Pr n cH H → ∀ X, DoesX Tryz.prog 239 vs H (fun v H' => ∃ E', E.le E' ∧ Rel E' Pr n' cH' H' ∧ VR E' cv v) X := by
  unfold o_sorted at h
  split at h
  · rename_i f b
    split at h
    · rename_i m0 N t hb
      split at h
      · rename_i m ht
        split at h
        · rename_i l hm
          split at h
          · rename_i hks
            obtain ⟨h1, h2⟩ := bi_ok h
            simp only [Bool.and_eq_true] at h1
            obtain ⟨c1, c2⟩ := h1
            obtain rfl := Nat.eq_of_beq_eq_true c1
            refine ⟨_, cH, n, h2, ?_⟩
            rintro E Pr H vs _ ⟨v1, r1, ⟨aa, cs, ha, ⟨v2, r2, ⟨r, q, hE, rfl⟩, hr2, rfl⟩, rfl⟩, hr1, rfl⟩ hr X
            have ha : aa = [] := ha
            have hr1 : r1 = [] := hr1
            have hr2 : r2 = [] := hr2
            subst ha; subst hr1; subst hr2
            obtain ⟨g1, g2⟩ := hr.blk b r q hE
            rw [hb] at g2
            obtain ⟨cs, e, lo, hi, f1, f2, f3, f4, f5⟩ := g2
            obtain ⟨v, f6, f7⟩ := f5 0 (by simpa using c2)
            rw [ht] at f7
            obtain ⟨rm, qm, hEm, rfl⟩ := f7
            obtain ⟨_, g3⟩ := hr.blk m rm qm hEm
            rw [hm] at g3
            obtain ⟨l', g4, g5⟩ := g3
            have hl : l' = [] := by
              rcases l' with _ | ⟨x, l'⟩
              · rfl
              · have := g5.2 x.1
                cases e : lk l x.1 with
                | some v => exact absurd ((lk_ikeys hks x.1).1 ⟨v, e⟩) (by simp)
                | none => rw [e] at this; exact absurd List.mem_cons_self (this x.2)
            subst hl
            refine (Does.x (sorted_nil (b := r) (by rw [hcell_at f1]; exact f6) (show MapIs H rm [] from g4) (fun p hp => (by cases hp)) (by simp))).mono ?_ fun _ _ h => h
            rintro v H' ⟨hv, he⟩
            exact ⟨E, En.le.refl E, hr.ext he, hv rfl⟩
          · rename_i ks _ hks
            obtain ⟨h1, h2⟩ := bi_ok h
            simp only [Bool.and_eq_true] at h1
            obtain ⟨⟨⟨⟨⟨c1, c2⟩, c3⟩, c4⟩, c5⟩, c6⟩ := h1
            obtain rfl := Nat.eq_of_beq_eq_true c1
            obtain ⟨hn, cH', h9, h10, h11⟩ := newB_ok h2
            refine ⟨_, cH', n + 1, h9, ?_⟩
            rintro E Pr H vs _ ⟨v1, r1, ⟨aa, cs, ha, ⟨v2, r2, ⟨r, q, hE, rfl⟩, hr2, rfl⟩, rfl⟩, hr1, rfl⟩ hr X
            have ha : aa = [] := ha
            have hr1 : r1 = [] := hr1
            have hr2 : r2 = [] := hr2
            subst ha; subst hr1; subst hr2
            obtain ⟨g1, g2⟩ := hr.blk b r q hE
            rw [hb] at g2
            obtain ⟨cs, e, lo, hi, f1, f2, f3, f4, f5⟩ := g2
            obtain ⟨v, f6, f7⟩ := f5 0 (by simpa using c2)
            rw [ht] at f7
            obtain ⟨rm, qm, hEm, rfl⟩ := f7
            obtain ⟨_, g3⟩ := hr.blk m rm qm hEm
            rw [hm] at g3
            obtain ⟨l', g4, g5⟩ := g3
            have hso := sorted_of g5 hks c3
            have hlen : l'.length = (isort ks).length := by rw [← hso, sorted_len, List.length_map]
            have hin : ∀ p ∈ l', In64 p.1 := fun p hp => by
              have : p.1 ∈ isort ks := by
                rw [← hso]
                exact ((List.mergeSort_perm _ _).mem_iff).2 (List.mem_map.2 ⟨p, hp, rfl⟩)
              unfold smallI at c4
              rw [List.all_eq_true] at c4
              have := Nat.le_of_ble_eq_true (c4 _ this)
              unfold In64
              omega
            have hkl : (isort ks).length = ks.length := len_isort ks
            refine (Does.x (sorted_ok (b := r) (by rw [hcell_at f1]; exact f6) (show MapIs H rm l' from g4) hin (by rw [hlen, hkl]; have := c6; simp at this; omega))).mono ?_ fun _ _ h => h
            rintro v H' ⟨a, c, rfl, ⟨o1, o2, o3, o4⟩, he, hbl⟩
            rw [hso] at o1 o4
            rcases o4 with ⟨rfl, rfl⟩ | ⟨b', tail, rfl, ⟨e', o5⟩, o6⟩
            · exfalso
              have := c5
              simp at this
              omega
            · have hge : H.size ≤ b' := hbl b' (by simp [blkOf])
              have hlt := (Array.getElem?_eq_some_iff.1 o5).1
              obtain ⟨z1, z2⟩ := hr.name he (q := c) hge hlt hn h10 h11 ⟨_, e', 0, 0, o5, by
                  rw [List.size_toArray, List.length_append, ints_length]; omega, ⟨Nat.le_refl _, fun o _ => by omega⟩, fun _ => by rw [List.size_toArray]; omega, fun i hi => by
                  have hi' : i < (ints (isort ks)).length := by rw [ints_length]; exact hi
                  refine ⟨(ints (isort ks))[i], ?_, mkT_get (intsC_ok (isort ks)) i _ (List.getElem?_eq_getElem hi')⟩
                  rw [List.getElem?_toArray, List.getElem?_append_left hi', List.getElem?_eq_getElem hi']⟩
              refine ⟨_, z2, z1, b', c, En.add_self _ _ _ _, ?_, by omega⟩
              rw [hlen]; rfl
          · exact no_ok h
        · exact no_ok h
      · exact no_ok h
    · exact no_ok h
  · exact no_ok h
end Go.Ex
end

section
/-! state.copied from its walk over the map on, told. -/
namespace Go.Ex
open Go Go.Vc Go.Proofs

theorem Rel.cellI {E : En} {Pr : Prt} {n : Nat} {cH : He} {H : Heap} (h : Rel E Pr n cH H) {b r q m N i : Nat} {t : T CV} (hb : hg b cH = .cells m N t) (hN : i < N) (hE : E b = some (r, q)) : ∃ v, hcell H r i = some v ∧ VR E (tg i t) v := by
  obtain ⟨g1, g2⟩ := h.blk b r q hE
  rw [hb] at g2
  obtain ⟨cs, e, lo, hi, f1, f2, f3, f4, f5⟩ := g2
  obtain ⟨v, f6, f7⟩ := f5 i hN
  exact ⟨v, by rw [hcell_at f1]; exact f6, f7⟩

noncomputable def allSlC : CV → Bool
  | .nil => true
  | .cons (.cons (.int _ _) v) t => isSl v && allSlC t
  | _ => false
theorem allSlC_ok : ∀ {l : CV}, allSlC l = true → ∀ n cv, lk l n = some cv → isSl cv = true
  | .nil, _, n, cv, e => by simp [lk] at e
  | .cons (.cons (.int k a) v) t, h, n, cv, e => by
    simp only [allSlC, Bool.and_eq_true] at h
    simp only [lk] at e
    split at e
    · cases e; exact h.1
    · exact allSlC_ok h.2 n cv e
  | .cons .u _, h, _, _, _ => by cases h
  | .cons (.int _ _) _, h, _, _, _ => by cases h
  | .cons (.bool _) _, h, _, _, _ => by cases h
  | .cons (.str _ _) _, h, _, _, _ => by cases h
  | .cons (.flt _) _, h, _, _, _ => by cases h
  | .cons (.ptr _ _) _, h, _, _, _ => by cases h
  | .cons .pnil _, h, _, _, _ => by cases h
  | .cons (.slc _ _ _ _) _, h, _, _, _ => by cases h
  | .cons (.slu _ _ _ _) _, h, _, _, _ => by cases h
  | .cons .sle _, h, _, _, _ => by cases h
  | .cons .snil _, h, _, _, _ => by cases h
  | .cons (.map _) _, h, _, _, _ => by cases h
  | .cons .mnil _, h, _, _, _ => by cases h
  | .cons (.fn _ _ _) _, h, _, _, _ => by cases h
  | .cons .fnil _, h, _, _, _ => by cases h
  | .cons (.ifc _ _) _, h, _, _, _ => by cases h
  | .cons .inil _, h, _, _, _ => by cases h
  | .cons (.agg _) _, h, _, _, _ => by cases h
  | .cons (.tup _) _, h, _, _, _ => by cases h
  | .cons .nil _, h, _, _, _ => by cases h
  | .cons (.cons .u _) _, h, _, _, _ => by cases h
  | .cons (.cons (.bool _) _) _, h, _, _, _ => by cases h
  | .cons (.cons (.str _ _) _) _, h, _, _, _ => by cases h
  | .cons (.cons (.flt _) _) _, h, _, _, _ => by cases h
  | .cons (.cons (.ptr _ _) _) _, h, _, _, _ => by cases h
  | .cons (.cons .pnil _) _, h, _, _, _ => by cases h
  | .cons (.cons (.slc _ _ _ _) _) _, h, _, _, _ => by cases h
  | .cons (.cons (.slu _ _ _ _) _) _, h, _, _, _ => by cases h
  | .cons (.cons .sle _) _, h, _, _, _ => by cases h
  | .cons (.cons .snil _) _, h, _, _, _ => by cases h
  | .cons (.cons (.map _) _) _, h, _, _, _ => by cases h
  | .cons (.cons .mnil _) _, h, _, _, _ => by cases h
  | .cons (.cons (.fn _ _ _) _) _, h, _, _, _ => by cases h
  | .cons (.cons .fnil _) _, h, _, _, _ => by cases h
  | .cons (.cons (.ifc _ _) _) _, h, _, _, _ => by cases h
  | .cons (.cons .inil _) _, h, _, _, _ => by cases h
  | .cons (.cons (.agg _) _) _, h, _, _, _ => by cases h
  | .cons (.cons (.tup _) _) _, h, _, _, _ => by cases h
  | .cons (.cons .nil _) _, h, _, _, _ => by cases h
  | .cons (.cons (.cons _ _) _) _, h, _, _, _ => by cases h
  | .u, h, _, _, _ => by cases h
  | .int _ _, h, _, _, _ => by cases h
  | .bool _, h, _, _, _ => by cases h
  | .str _ _, h, _, _, _ => by cases h
  | .flt _, h, _, _, _ => by cases h
  | .ptr _ _, h, _, _, _ => by cases h
  | .pnil, h, _, _, _ => by cases h
  | .slc _ _ _ _, h, _, _, _ => by cases h
  | .slu _ _ _ _, h, _, _, _ => by cases h
  | .sle, h, _, _, _ => by cases h
  | .snil, h, _, _, _ => by cases h
  | .map _, h, _, _, _ => by cases h
  | .mnil, h, _, _, _ => by cases h
  | .fn _ _ _, h, _, _, _ => by cases h
  | .fnil, h, _, _, _ => by cases h
  | .ifc _ _, h, _, _, _ => by cases h
  | .inil, h, _, _, _ => by cases h
  | .agg _, h, _, _, _ => by cases h
  | .tup _, h, _, _, _ => by cases h

noncomputable def onC (x : Bk) (m : Nat) (f : T CV → St) : St := match x with
  | .cells _ N t => bi (Nat.ble m N) (f t) no
  | _ => no
noncomputable def onMap (v : CV) (f : Nat → St) : St := match v with
  | .map m => f m
  | _ => no
noncomputable def onMB (x : Bk) (f : CV → St) : St := match x with
  | .map l => f l
  | _ => no
noncomputable def onMB0 (x : Bk) (s : St) : St := match x with
  | .map .nil => s
  | _ => no
noncomputable def o_cpy : Sy → He → Nat → (Sy → He → Nat → St) → St := fun S H n k =>
  onP0 (sg 1 S) fun b1 => onP0 (sg 3 S) fun b3 => onP0 (sg 2 S) fun b2 => onC (hg b1 H) 3 fun t1 => onC (hg b3 H) 3 fun t3 =>
    onMap (tg 2 t1) fun m1 => onMap (tg 2 t3) fun m2 => onMB (hg m1 H) fun l1 => onMB0 (hg m2 H) (bi (allSlC l1 && !Nat.beq m1 m2) (hset m2 (.map l1) H fun H =>
      bi (isSl (tg 0 t3) && isPtr (tg 1 t3)) (wrC b2 0 (.cons (tg 0 t3) (.cons (tg 1 t3) (.cons (tg 2 t3) .nil))) H fun H => ss 2 (.ptr b2 0) S0 fun S => k S H n) no) no)
section
variable {Ok : St → Prop} [Okay Ok]
theorem onC_ok {x : Bk} {i : Nat} {f : T CV → St} (h : Ok (onC x i f)) : ∃ m N t, x = .cells m N t ∧ i ≤ N ∧ Ok (f t) := by
  unfold onC at h
  split at h
  · obtain ⟨h1, h2⟩ := bi_ok h
    exact ⟨_, _, _, rfl, Nat.le_of_ble_eq_true h1, h2⟩
  · exact no_ok h
theorem onMap_ok {v : CV} {f : Nat → St} (h : Ok (onMap v f)) : ∃ m, v = .map m ∧ Ok (f m) := by
  unfold onMap at h
  split at h
  · exact ⟨_, rfl, h⟩
  · exact no_ok h
theorem onMB_ok {x : Bk} {f : CV → St} (h : Ok (onMB x f)) : ∃ l, x = .map l ∧ Ok (f l) := by
  unfold onMB at h
  split at h
  · exact ⟨_, rfl, h⟩
  · exact no_ok h
theorem onMB0_ok {x : Bk} {s : St} (h : Ok (onMB0 x s)) : x = .map .nil ∧ Ok s := by
  unfold onMB0 at h
  split at h
  · exact ⟨rfl, h⟩
  · exact no_ok h
end

theorem mapSet_new : ∀ {l : List (Int × Value)} {k : Int} {v : Value}, k ∉ l.map (·.1) → mapSet l k v = l ++ [(k, v)]
  | [], _, _, _ => rfl
  | p :: r, k, v, h => by
    simp only [List.map_cons, List.mem_cons, not_or] at h
    unfold mapSet
    rw [if_neg (fun e => h.1 e.symm), mapSet_new h.2]
    rfl
theorem MIter.set {H : Heap} {r m r2 : Nat} {l : List (Int × Value)} {done : List Int} {o : Obj} (h : MIter H r m l done) (h1 : r ≠ r2) (h2 : m ≠ r2) : MIter (H.setIfInBounds r2 o) r m l done := by
  obtain ⟨es, clock, seen, ds, g1, g2, g3⟩ := h
  exact ⟨es, clock, seen, ds, by rw [Array.getElem?_setIfInBounds_ne (Ne.symm h1)]; exact g1, by rw [Array.getElem?_setIfInBounds_ne (Ne.symm h2)]; exact g2, g3⟩

/-- What is known between two steps of the walk. -/
def CpI (H0 : Heap) (r4 r1 r2 : Nat) (l : List (Int × Value)) (H : Heap) : Prop :=
  ∃ done l2, H.size = H0.size ∧ (∀ j, j ≠ r4 → j ≠ r2 → H[j]? = H0[j]?) ∧ MIter H r4 r1 l done ∧ MapIs H r2 l2 ∧ l2.map (·.1) = done ∧ done.Nodup ∧ ∀ p ∈ l2, p ∈ l
def keysAt (H : Heap) (r : Nat) : List Int := match H[r]? with
  | some (.map es _) => es.toList.map fun e => keyI e.key
  | _ => []
theorem keysAt_is {H : Heap} {r : Nat} {l : List (Int × Value)} (h : MapIs H r l) : keysAt H r = l.map (·.1) := by
  obtain ⟨es, clock, h1, h2, _⟩ := h
  unfold keysAt
  rw [h1]
  have := congrArg (List.map fun p => keyI p.1) h2
  simpa [List.map_map, Function.comp_def, keyI] using this
theorem filter_less {L : List Int} {d : List Int} {k : Int} (hk : k ∈ L) (hd : k ∉ d) : (L.filter fun x => !(d ++ [k]).contains x).length < (L.filter fun x => !d.contains x).length := by
  have e : (L.filter fun x => !(d ++ [k]).contains x) = (L.filter fun x => !d.contains x).filter fun x => x != k := by
    rw [List.filter_filter]
    apply List.filter_congr
    intro x _
    simp [Bool.not_or, Bool.and_comm]
    rfl
  rw [e]
  refine List.length_filter_lt_length_iff_exists.2 ⟨k, ?_, by simp⟩
  rw [List.mem_filter]
  exact ⟨hk, by simpa using hd⟩
end Go.Ex
end

