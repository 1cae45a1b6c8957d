/-
  A layer of verification conditions, proved over the model: what is to be shown of a function, reckoned from its code; part 2. No condition.
-/
import Derived.Test.YtlfmjamcinnimaaGreatVa
import Derived.Below
import Derived.ChangeShapes
import Derived.WideShapes
import Derived.ChangeSlices
import Derived.DataReads
import Derived.Laws.Cover2
import Derived.SizedLaws
import Derived.ChangeArms

namespace Go.Vc

def tb (m i : Nat) : Bool := !Nat.beq (Nat.land (Nat.shiftRight m i) 1) 0

def bitm (i : Nat) : Nat := Nat.shiftLeft 1 i

theorem tb_eq (m i : Nat) : tb m i = m.testBit i := by
  have h1 : Nat.land (Nat.shiftRight m i) 1 = (m >>> i) &&& 1 := rfl
  unfold tb
  rw [h1]
  have h2 : m.testBit i = (1 &&& (m >>> i) != 0) := rfl
  rw [h2, Nat.and_comm]
  cases h : Nat.beq (1 &&& m >>> i) 0 with
  | true => rw [Nat.eq_of_beq_eq_true h]; rfl
  | false =>
    have : (1 &&& m >>> i) ≠ 0 := by
      intro e
      rw [e] at h
      exact absurd h (by decide)
    exact (bne_iff_ne.2 this).symm

theorem tb_bitm (i j : Nat) : (bitm i).testBit j = decide (i = j) := by
  have : bitm i = 2 ^ i := by show 1 <<< i = 2 ^ i; rw [Nat.one_shiftLeft]
  rw [this, Nat.testBit_two_pow]

def maskOf : List Nat → Nat
  | [] => 0
  | t :: r => Nat.lor (bitm t) (maskOf r)

theorem tb_maskOf (t : Nat) : ∀ l, (maskOf l).testBit t = decide (t ∈ l)
  | [] => by simp [maskOf]
  | u :: r => by
    have h : maskOf (u :: r) = bitm u ||| maskOf r := rfl
    rw [h, Nat.testBit_or, tb_bitm, tb_maskOf t r]
    by_cases h1 : u = t
    · subst h1; simp
    · have h2 : ¬ t = u := fun e => h1 e.symm
      simp [h1, h2]

def depsOf (o : Oper) : List Nat := (o.after.toList.filter (Region.binds .any)).map (·.on)

/-- What the schedule wants of an operation: the masks of what it waits for, of what it writes, of what it looks at; 0: it only reckons, 1: it reads the heap, 2: it acts. -/
structure OI where
  deps : Nat
  dst : Nat
  looks : Nat
  kind : Nat

def kindOf (P : Program) (o : Op) : Nat :=
  match compP P o with
  | some _ => 0
  | none => match compR P o with
    | some _ => 1
    | none => 2

def infoOf (P : Program) (ops : Array Oper) (o : Oper) : OI :=
  ⟨maskOf (depsOf o), maskOf (opDst o), maskOf (o.looksAt ops), kindOf P o.op⟩

def apartM (x y : OI) : Bool := Nat.beq (Nat.land x.dst (Nat.lor y.looks y.dst)) 0 && Nat.beq (Nat.land y.dst x.looks) 0

/-- Number i (what only looks) is apart from all that neither waits for it nor it for them. -/
def freeAll (i : Nat) (x : OI) : Nat → List OI → Bool
  | _, [] => true
  | j, y :: r => (Nat.beq i j || tb y.deps i || tb x.deps j || apartM x y) && freeAll i x (j + 1) r

def freeTab (l : List OI) : Nat → List OI → Bool
  | _, [] => true
  | i, x :: r => (Nat.beq x.kind 2 || freeAll i x 0 l) && freeTab l (i + 1) r

def readyL (m : Nat) : Nat → List OI → List (Nat × OI)
  | _, [] => []
  | i, x :: r => match tb m i, Nat.beq (Nat.land x.deps m) x.deps with
    | false, true => (i, x) :: readyL m (i + 1) r
    | _, _ => readyL m (i + 1) r

/-- The ancestors, and that they are. -/
def upOf (T : List Nat) : List Nat → Nat
  | [] => 0
  | t :: r => Nat.lor (Nat.lor (bitm t) (T.getD t 0)) (upOf T r)

def ancTab : List Nat → List Oper → List Nat
  | T, [] => T
  | T, o :: r => ancTab (T ++ [upOf T (depsOf o)]) r

def ancOk (T : List Nat) : Nat → List Oper → Bool
  | _, [] => true
  | j, o :: r => (depsOf o).all (fun t => Nat.ble (t + 1) j) && Nat.beq (T.getD j 0) (upOf T (depsOf o)) && ancOk T (j + 1) r

/-- All that may come next, each ahead of the others. -/
def altsOf (act : Nat → Option STree) : List (Nat × OI) → Option STree
  | [] => none
  | [x] => act x.1
  | x :: r => match act x.1, altsOf act r with
    | some a, some b => some (.alt a b)
    | _, _ => none

/-- The order of the walk: what only looks comes first, as soon as it may; what acts comes when nothing else may. -/
def sched (P : Program) (N : Nat) (ops : Array Oper) (tab : List OI) (T : List Nat) : Nat → Nat → List Nat → Option STree
  | fuel, m, reads =>
    match fuel, readyL m 0 tab with
    | _, [] => some .nil
    | 0, _ => none
    | fuel + 1, rs => match rs.find? (fun x => Nat.ble x.2.kind 1) with
      | some (i, x) => match ops[i]? with
        | some o => match compOper P N ops o i [], sched P N ops tab T fuel (Nat.lor m (bitm i)) (match Nat.beq x.kind 1 with | true => i :: reads | false => reads) with
          | some s, some l => some (.op s l)
          | _, _ => none
        | none => none
      | none =>
        let act := fun j => match ops[j]? with
          | some o => match compOper P N ops o j (reads.filter fun i => !tb (T.getD j 0) i), sched P N ops tab T fuel (Nat.lor m (bitm j)) reads with
            | some s, some l => some (STree.op s l)
            | _, _ => none
          | none => none
        altsOf act rs

def schedule (P : Program) (N : Nat) (ops : Array Oper) : Option STree :=
  let tab := ops.toList.map (infoOf P ops)
  let T := ancTab [] ops.toList
  match Region.noSelect ops && freeTab tab 0 tab && (ancOk T 0 ops.toList && Nat.beq T.length ops.size) with
  | true => sched P N ops tab T ops.size 0 []
  | false => none

section
variable {P : Program} {C : CallP} {X : Value → Heap → Prop} {N : Nat} {ops : Array Oper} {Q : Exit → Act → World → Prop}

def isFloat (P : Program) (ops : Array Oper) (i : Nat) : Bool :=
  match ops[i]? with
  | some o => (compP P o.op).isSome || (compR P o.op).isSome
  | none => false

structure Rel (ops : Array Oper) (listed : Array Bool) (m : Nat) : Prop where
  size : listed.size = ops.size
  same : ∀ j, listed.getD j false = m.testBit j

theorem altsOf_sound {act : Nat → Option STree} {S : Sym} {H : Heap} {F : List (Nat × (Heap → Prop))} {K : Sym → Heap → Prop} : ∀ (rs : List (Nat × OI)) (l : STree), altsOf act rs = some l → WPdraw P C X l S H F K → ∀ x ∈ rs, ∃ lj, act x.1 = some lj ∧ WPdraw P C X lj S H F K
  | [], _, h, _ => by cases h
  | [x], l, h, hw => fun y hy => by
    simp only [List.mem_singleton] at hy
    subst hy
    exact ⟨l, h, hw⟩
  | x :: y :: r, l, h, hw => fun z hz => by
    unfold altsOf at h
    split at h
    · rename_i a b h1 h2
      simp only [Option.some.injEq] at h
      subst h
      simp only [WPdraw] at hw
      rcases List.mem_cons.1 hz with rfl | hz
      · exact ⟨a, h1, hw.1⟩
      · exact altsOf_sound (y :: r) b h2 hw.2 z hz
    · cases h

theorem Rel.set {listed : Array Bool} {m i : Nat} (h : Rel ops listed m) (hi : i < ops.size) : Rel ops (listed.setIfInBounds i true) (Nat.lor m (bitm i)) := by
  refine ⟨by simp [h.size], fun j => ?_⟩
  have e : Nat.lor m (bitm i) = m ||| bitm i := rfl
  rw [e, Nat.testBit_or, tb_bitm]
  by_cases hij : i = j
  · subst hij
    simp [h.size, hi]
  · rw [getD_set_ne false hij, h.same]
    simp [hij]

theorem unlisted_iff {listed : Array Bool} {m j : Nat} (h : Rel ops listed m) (hj : j < ops.size) : listed.getD j true = false ↔ m.testBit j = false := by
  rw [← h.same j]
  have : j < listed.size := by rw [h.size]; exact hj
  simp [this]

theorem sub_iff {d m : Nat} : Nat.beq (Nat.land d m) d = true ↔ ∀ t, d.testBit t = true → m.testBit t = true := by
  constructor
  · intro h t ht
    have h1 : d &&& m = d := Nat.eq_of_beq_eq_true h
    rw [← h1, Nat.testBit_and] at ht
    simp only [Bool.and_eq_true] at ht
    exact ht.2
  · intro h
    have : Nat.land d m = d := by
      show d &&& m = d
      apply Nat.eq_of_testBit_eq
      intro i
      rw [Nat.testBit_and]
      cases hd : d.testBit i with
      | false => rfl
      | true => rw [h i hd]; rfl
    rw [this]
    exact Nat.beq_refl d

theorem mem_depsOf {o : Oper} {t : Nat} : t ∈ depsOf o ↔ ∃ e ∈ o.after, Region.binds .any e = true ∧ e.on = t := by
  simp only [depsOf, List.mem_map, List.mem_filter, Array.mem_toList_iff]
  constructor
  · rintro ⟨e, ⟨h1, h2⟩, h3⟩; exact ⟨e, h1, h2, h3⟩
  · rintro ⟨e, h1, h2, h3⟩; exact ⟨e, ⟨h1, h2⟩, h3⟩

theorem mem_readyL {m i : Nat} {x : OI} : ∀ {l : List OI} {k : Nat}, (i, x) ∈ readyL m k l ↔ k ≤ i ∧ l[i - k]? = some x ∧ m.testBit i = false ∧ ∀ t, x.deps.testBit t = true → m.testBit t = true
  | [], k => by simp [readyL]
  | y :: r, k => by
    have ih := mem_readyL (m := m) (i := i) (x := x) (l := r) (k := k + 1)
    have hstep : (i, x) ∈ readyL m k (y :: r) ↔ ((i = k ∧ x = y ∧ m.testBit k = false ∧ ∀ t, y.deps.testBit t = true → m.testBit t = true) ∨ (i, x) ∈ readyL m (k + 1) r) := by
      simp only [readyL]
      split
      · rename_i h1 h2
        rw [tb_eq] at h1
        rw [sub_iff] at h2
        rw [List.mem_cons, Prod.mk.injEq]
        constructor
        · rintro (⟨rfl, rfl⟩ | h)
          · exact .inl ⟨rfl, rfl, h1, h2⟩
          · exact .inr h
        · rintro (⟨rfl, rfl, _, _⟩ | h)
          · exact .inl ⟨rfl, rfl⟩
          · exact .inr h
      · rename_i hn
        constructor
        · exact .inr
        · rintro (⟨rfl, rfl, h1, h2⟩ | h)
          · exact absurd (sub_iff.2 h2) (fun h3 => hn (by rw [tb_eq]; exact h1) h3)
          · exact h
    rw [hstep, ih]
    constructor
    · rintro (⟨rfl, rfl, h1, h2⟩ | ⟨h0, h1, h2⟩)
      · exact ⟨Nat.le_refl _, by simp, h1, h2⟩
      · refine ⟨by omega, ?_, h2⟩
        rw [show i - k = (i - (k + 1)) + 1 by omega]
        simpa using h1
    · rintro ⟨h0, h1, h2⟩
      by_cases hk : i = k
      · subst hk
        simp only [Nat.sub_self, List.getElem?_cons_zero, Option.some.injEq] at h1
        subst h1
        exact .inl ⟨rfl, rfl, h2⟩
      · refine .inr ⟨by omega, ?_, h2⟩
        rw [show i - k = (i - (k + 1)) + 1 by omega] at h1
        simpa using h1

theorem ready_iff {listed : Array Bool} {m i : Nat} (h : Rel ops listed m) : i ∈ Region.ready .any ops listed ↔ ∃ x, (i, x) ∈ readyL m 0 (ops.toList.map (infoOf P ops)) := by
  rw [mem_ready]
  constructor
  · rintro ⟨h1, o, ho, h2⟩
    have hlt := (Array.getElem?_eq_some_iff.1 ho).1
    refine ⟨infoOf P ops o, mem_readyL.2 ⟨Nat.zero_le _, by simp [ho], (unlisted_iff h hlt).1 h1, ?_⟩⟩
    intro t ht
    simp only [infoOf] at ht
    rw [tb_maskOf] at ht
    obtain ⟨e, he, hb, rfl⟩ := mem_depsOf.1 (of_decide_eq_true ht)
    rw [← h.same]
    exact h2 e he hb
  · rintro ⟨x, hx⟩
    obtain ⟨_, h1, h2, h3⟩ := mem_readyL.1 hx
    simp only [Nat.sub_zero, List.getElem?_map, Array.getElem?_toList, Option.map_eq_some_iff] at h1
    obtain ⟨o, ho, rfl⟩ := h1
    have hlt := (Array.getElem?_eq_some_iff.1 ho).1
    refine ⟨(unlisted_iff h hlt).2 h2, o, ho, fun e he hb => ?_⟩
    rw [h.same]
    exact h3 _ (by simp only [infoOf]; rw [tb_maskOf]; exact decide_eq_true (mem_depsOf.2 ⟨e, he, hb, rfl⟩))

theorem and_zero {a b t : Nat} (h : Nat.beq (Nat.land a b) 0 = true) (ha : a.testBit t = true) : b.testBit t = false := by
  have h1 : a &&& b = 0 := Nat.eq_of_beq_eq_true h
  have h2 : (a &&& b).testBit t = false := by rw [h1]; simp
  rw [Nat.testBit_and, ha] at h2
  simpa using h2

theorem apartM_sound {x y : Oper} (h : apartM (infoOf P ops x) (infoOf P ops y) = true) : x.apart ops y = true := by
  simp only [apartM, Bool.and_eq_true, infoOf] at h
  obtain ⟨h1, h2⟩ := h
  unfold Oper.apart
  rw [Bool.and_eq_true]
  constructor
  · cases hx : x.dst with
    | none => rfl
    | some d =>
      have hd : (maskOf (opDst x)).testBit d = true := by rw [tb_maskOf]; simp [opDst, hx]
      have h3 := and_zero h1 hd
      have e : Nat.lor (maskOf (y.looksAt ops)) (maskOf (opDst y)) = maskOf (y.looksAt ops) ||| maskOf (opDst y) := rfl
      rw [e, Nat.testBit_or, tb_maskOf, tb_maskOf] at h3
      simp only [Bool.or_eq_false_iff, decide_eq_false_iff_not] at h3
      simp only [Bool.and_eq_true, Bool.not_eq_true', bne_iff_ne, ne_eq]
      refine ⟨by simpa using h3.1, fun hy => h3.2 (by simp [opDst, hy])⟩
  · cases hy : y.dst with
    | none => rfl
    | some d =>
      have hd : (maskOf (opDst y)).testBit d = true := by rw [tb_maskOf]; simp [opDst, hy]
      have h3 := and_zero h2 hd
      rw [tb_maskOf] at h3
      simpa using h3

theorem freeAll_spec {i : Nat} {x : OI} : ∀ {l : List OI} {k j : Nat} {y : OI}, freeAll i x k l = true → k ≤ j → l[j - k]? = some y → i = j ∨ y.deps.testBit i = true ∨ x.deps.testBit j = true ∨ apartM x y = true
  | [], k, j, y, _, _, hy => by simp at hy
  | z :: r, k, j, y, h, hk, hy => by
    simp only [freeAll, Bool.and_eq_true, Bool.or_eq_true, tb_eq] at h
    by_cases e : j = k
    · subst e
      simp only [Nat.sub_self, List.getElem?_cons_zero, Option.some.injEq] at hy
      subst hy
      rcases h.1 with ((h1 | h1) | h1) | h1
      · exact .inl (Nat.eq_of_beq_eq_true h1)
      · exact .inr (.inl h1)
      · exact .inr (.inr (.inl h1))
      · exact .inr (.inr (.inr h1))
    · refine freeAll_spec h.2 (by omega) ?_
      rw [show j - k = (j - (k + 1)) + 1 by omega] at hy
      simpa using hy

theorem freeTab_spec {l : List OI} : ∀ {r : List OI} {k i : Nat} {x : OI}, freeTab l k r = true → k ≤ i → r[i - k]? = some x → x.kind ≠ 2 → freeAll i x 0 l = true
  | [], k, i, x, _, _, hx, _ => by simp at hx
  | z :: r, k, i, x, h, hk, hx, hn => by
    simp only [freeTab, Bool.and_eq_true, Bool.or_eq_true] at h
    by_cases e : i = k
    · subst e
      simp only [Nat.sub_self, List.getElem?_cons_zero, Option.some.injEq] at hx
      subst hx
      rcases h.1 with h1 | h1
      · exact absurd (Nat.eq_of_beq_eq_true h1) hn
      · exact h1
    · refine freeTab_spec h.2 (by omega) ?_ hn
      rw [show i - k = (i - (k + 1)) + 1 by omega] at hx
      simpa using hx

theorem tb_upOf {T : List Nat} {i : Nat} : ∀ {l : List Nat}, (upOf T l).testBit i = true → ∃ t ∈ l, i = t ∨ (T.getD t 0).testBit i = true
  | [], h => by simp [upOf] at h
  | t :: r, h => by
    have e : upOf T (t :: r) = (bitm t ||| T.getD t 0) ||| upOf T r := rfl
    rw [e, Nat.testBit_or, Nat.testBit_or, tb_bitm] at h
    simp only [Bool.or_eq_true, decide_eq_true_eq] at h
    rcases h with (h | h) | h
    · exact ⟨t, by simp, .inl h.symm⟩
    · exact ⟨t, by simp, .inr h⟩
    · obtain ⟨u, hu, h⟩ := tb_upOf h
      exact ⟨u, by simp [hu], h⟩

theorem ancOk_spec {T : List Nat} : ∀ {r : List Oper} {k j : Nat} {o : Oper}, ancOk T k r = true → k ≤ j → r[j - k]? = some o → (∀ t ∈ depsOf o, t < j) ∧ T.getD j 0 = upOf T (depsOf o)
  | [], k, j, o, _, _, ho => by simp at ho
  | z :: r, k, j, o, h, hk, ho => by
    simp only [ancOk, Bool.and_eq_true] at h
    by_cases e : j = k
    · subst e
      simp only [Nat.sub_self, List.getElem?_cons_zero, Option.some.injEq] at ho
      subst ho
      refine ⟨fun t ht => ?_, Nat.eq_of_beq_eq_true h.1.2⟩
      exact Nat.le_of_ble_eq_true (List.all_eq_true.1 h.1.1 t ht)
    · refine ancOk_spec h.2 (by omega) ?_
      rw [show j - k = (j - (k + 1)) + 1 by omega] at ho
      simpa using ho

theorem anc_tab {T : List Nat} (h : ancOk T 0 ops.toList = true) (hl : T.length = ops.size) (i : Nat) : ∀ m j, j < m → (T.getD j 0).testBit i = true → ∃ n, ancB ops n j i = true
  | 0, _, h0, _ => absurd h0 (Nat.not_lt_zero _)
  | m + 1, j, hj, h' => by
    rcases Nat.lt_or_ge j ops.size with hlt | hge
    · have ho : ops[j]? = some ops[j] := Array.getElem?_eq_getElem hlt
      obtain ⟨h1, h2⟩ := ancOk_spec h (Nat.zero_le j) (o := ops[j]) (by simp [ho])
      rw [h2] at h'
      obtain ⟨t, ht, hi⟩ := tb_upOf h'
      obtain ⟨e, he, hb, rfl⟩ := mem_depsOf.1 ht
      rcases hi with rfl | hi
      · refine ⟨1, ?_⟩
        unfold ancB
        simp only [ho, List.any_eq_true, Bool.and_eq_true, Bool.or_eq_true]
        exact ⟨e, by simpa using he, hb, .inl (Nat.beq_refl _)⟩
      · obtain ⟨n, hn⟩ := anc_tab h hl i m e.on (by have := h1 _ ht; omega) hi
        refine ⟨n + 1, ?_⟩
        unfold ancB
        simp only [ho, List.any_eq_true, Bool.and_eq_true, Bool.or_eq_true]
        exact ⟨e, by simpa using he, hb, .inr hn⟩
    · rw [List.getD_eq_getElem?_getD, List.getElem?_eq_none (by omega)] at h'
      simp at h'

theorem holds_sound {l : List Nat} {H : Heap} {X : Prop} : ∀ {F : List (Nat × (Heap → Prop))}, holds F l H X → (∀ x ∈ F, x.1 ∈ l → x.2 H) ∧ X
  | [], h => ⟨by simp, h⟩
  | (i, φ) :: F, h => by
    simp only [holds] at h
    split at h
    · obtain ⟨h1, h2⟩ := h
      obtain ⟨h3, h4⟩ := holds_sound h2
      refine ⟨fun x hx hl => ?_, h4⟩
      rcases List.mem_cons.1 hx with rfl | hx
      · exact h1
      · exact h3 x hx hl
    · rename_i hc
      obtain ⟨h3, h4⟩ := holds_sound h
      refine ⟨fun x hx hl => ?_, h4⟩
      rcases List.mem_cons.1 hx with rfl | hx
      · simp only at hl
        exact absurd (by simpa using hl) (by simpa using hc)
      · exact h3 x hx hl

def effOf (P : Program) (ops : Array Oper) (i : Nat) : Bool := !isFloat P ops i

theorem kind_float {o : Oper} {i : Nat} (ho : ops[i]? = some o) : kindOf P o.op ≠ 2 ↔ isFloat P ops i = true := by
  simp only [isFloat, ho, kindOf]
  cases compP P o.op <;> cases compR P o.op <;> simp

theorem sched_sound [Fits P C X] (hsel : Region.noSelect ops = true) (hft : freeTab (ops.toList.map (infoOf P ops)) 0 (ops.toList.map (infoOf P ops)) = true) {T : List Nat} (hT : ancOk T 0 ops.toList = true) (hTl : T.length = ops.size) (hQ : ∀ c a a' w, a'.defers = a.defers → Q (.panic c) a w → Q (.panic c) a' w) :
    ∀ (fuel : Nat) (listed : Array Bool) (m : Nat) (reads : List Nat) (l : STree) (S : Sym) (a : Act) (w : World) (F F' : List (Nat × (Heap → Prop))) (K : Sym → Heap → Prop) (ds : List Nat),
      sched P N ops (ops.toList.map (infoOf P ops)) T fuel m reads = some l → Rel ops listed m → Closed ops listed → Ag N S a → WPdraw P C X l S w.heap F K → (∀ x ∈ F, x.1 ∈ reads) → (∀ x ∈ F', x ∈ F ∨ ∀ H, x.2 H) → Good ops (effOf P ops) F' listed w →
      (∀ (j : Nat) (o : Oper), ops[j]? = some o → ∀ d, o.dst = some d → d ∈ ds) →
      (∀ S a' w', Ag N S a' → Sim w w' → Fr ds a a' → K S w'.heap → Q .normal a' w') → (∀ p a' w', a'.defers = [] → Sim w w' → X p w'.heap → Q (.panic [{ v := p, recovered := false }]) a' w') → wpAnyF P ops Q (effOf P ops) F' fuel listed a w := by
  have hsel' := Region.noSelect_spec hsel
  intro fuel
  induction fuel with
  | zero =>
    intro listed m reads l S a w F F' K ds hs hrel hc ha h hF hF' hG hds hn hp
    have hnil : readyL m 0 (ops.toList.map (infoOf P ops)) = [] → Region.ready .any ops listed = [] := fun hr => by
      rw [List.eq_nil_iff_forall_not_mem]
      intro i hi
      obtain ⟨x, hx⟩ := (ready_iff (P := P) hrel).1 hi
      rw [hr] at hx; cases hx
    unfold sched at hs
    split at hs
    · rename_i hr
      simp only [Option.some.injEq] at hs; subst hs
      exact ⟨hnil hr, hn S a w ha (Sim.refl w) (Fr.refl _ a) h⟩
    · cases hs
    · rename_i e _; cases e
  | succ fuel ih =>
    intro listed m reads l S a w F F' K ds hs hrel hc ha h hF hF' hG hds hn hp
    have hnil : readyL m 0 (ops.toList.map (infoOf P ops)) = [] → Region.ready .any ops listed = [] := fun hr => by
      rw [List.eq_nil_iff_forall_not_mem]
      intro i hi
      obtain ⟨x, hx⟩ := (ready_iff (P := P) hrel).1 hi
      rw [hr] at hx; cases hx
    unfold sched at hs
    split at hs
    · rename_i hr
      simp only [Option.some.injEq] at hs; subst hs
      refine ⟨fun _ => hn S a w ha (Sim.refl w) (Fr.refl _ a) h, by rw [hnil hr]; simp⟩
    · rename_i e _; cases e
    · rename_i f e hne
      obtain rfl : fuel = f := by simpa using e
      split at hs
      · -- what only looks
        rename_i i x hfind
        have hmemx := List.mem_of_find?_eq_some hfind
        have hkind : x.kind ≤ 1 := Nat.le_of_ble_eq_true (by have := List.find?_some hfind; simpa using this)
        have hmem : i ∈ Region.ready .any ops listed := (ready_iff (P := P) hrel).2 ⟨x, hmemx⟩
        split at hs
        · rename_i o ho
          split at hs
          · rename_i s l' h1 h2
            simp only [Option.some.injEq] at hs; subst hs
            obtain ⟨e1, e2, e3, e4, e5, _⟩ := compOper_spec h1
            obtain ⟨_, hx1, _, hx3⟩ := mem_readyL.1 hmemx
            have hxo : x = infoOf P ops o := by
              simp only [Nat.sub_zero, List.getElem?_map, Array.getElem?_toList, ho, Option.map_some, Option.some.injEq] at hx1
              exact hx1.symm
            have hk2 : kindOf P o.op ≠ 2 := by
              have : x.kind = kindOf P o.op := by rw [hxo]; rfl
              omega
            have hfl : isFloat P ops i = true := (kind_float ho).1 hk2
            have hfa := freeTab_spec hft (Nat.zero_le i) (x := x) (by simpa using hx1) (by rw [hxo]; exact hk2)
            have hfree : ∀ j oj, ops[j]? = some oj → j ≠ i → listed.getD j true = false → (∀ e ∈ oj.after, Region.binds .any e = true → e.on ≠ i) → o.apart ops oj = true := by
              intro j oj hoj hji hun hno
              have hjlt := (Array.getElem?_eq_some_iff.1 hoj).1
              rcases freeAll_spec hfa (Nat.zero_le j) (y := infoOf P ops oj) (by simp [hoj]) with h3 | h3 | h3 | h3
              · exact absurd h3.symm hji
              · simp only [infoOf] at h3
                rw [tb_maskOf] at h3
                obtain ⟨e, he, hb, heq⟩ := mem_depsOf.1 (of_decide_eq_true h3)
                exact absurd heq (hno e he hb)
              · have h4 := hx3 j h3
                rw [(unlisted_iff hrel hjlt).1 hun] at h4
                cases h4
              · rw [hxo] at h3
                exact apartM_sound h3
            have hei : effOf P ops i = false := by simp [effOf, hfl]
            have hc' := hc.set hmem
            have hrel' := hrel.set (Array.getElem?_eq_some_iff.1 ho).1
            have next : ∀ (S' : Sym) (v : SV) (F2 F2' : List (Nat × (Heap → Prop))) (φ : Heap → Prop) (K2 : Sym → Heap → Prop), Ag N (S'.put o.dst v) (a.put o.dst v.toV) → YieldsIf P ops (fun w => φ w.heap) o v.toV a → φ w.heap → F2' = (i, φ) :: F' →
                (∀ y ∈ F2, y.1 ∈ (match Nat.beq x.kind 1 with | true => i :: reads | false => reads)) → (∀ x ∈ F2', x ∈ F2 ∨ ∀ H, x.2 H) → K2 = K → WPdraw P C X l' (S'.put o.dst v) w.heap F2 K2 → wpAnyF P ops Q (effOf P ops) F' (fuel + 1) listed a w := by
              intro S' v F2 F2' φ K2 ha2 hy hφ hF2' hF2 hF22 hK2 hw2
              subst hF2'; subst hK2
              refine wpAnyF_take ho hsel' hQ hei fuel listed a w hc hfree hmem hy hφ hG ?_
              refine ih _ _ _ l' _ _ w F2 _ _ ds h2 hrel' hc' ha2 hw2 hF2 hF22 ?_ hds ?_ hp
              · intro x hx hl
                rcases List.mem_cons.1 hx with rfl | hx
                · exact hφ
                · exact hG x hx hl.of_set
              · intro S3 a3 w3 ha3 hs3 hf3 hk3
                refine hn S3 a3 w3 ha3 hs3 ?_ hk3
                refine ((Fr.put a o v.toV).trans hf3).mono ?_
                intro t ht
                rcases List.mem_append.1 ht with ht | ht
                · unfold opDst at ht
                  cases hd : o.dst with
                  | none => rw [hd] at ht; cases ht
                  | some d => rw [hd] at ht; simp only [List.mem_singleton] at ht; subst ht; exact hds i o ho _ hd
                · exact ht
            simp only [WPdraw] at h
            rcases guarded_sound e2 ha h with ⟨hw, S', ha', hy⟩ | ⟨hw, S', ha', hy⟩
            · unfold compS at e3
              split at e3
              · rename_i p hpp
                simp only [Option.some.injEq] at e3
                rw [← e3, e1] at hy
                simp only at hy
                obtain ⟨v, hk, hr⟩ := pure_sound (P := P) hpp ha'.agree hy
                have hir : Nat.beq x.kind 1 = false := by rw [hxo]; simp only [infoOf, kindOf, hpp]; rfl
                refine next S' v F _ (fun _ => True) K (ha'.put e4 v) (.inl ⟨hw, fun w _ => hr w⟩) trivial rfl (by rw [hir]; exact hF) ?_ rfl hk
                intro x hx
                rcases List.mem_cons.1 hx with rfl | hx
                · exact .inr fun _ => trivial
                · exact hF' x hx
              · rename_i hpp
                split at e3
                · rename_i r hrr
                  simp only [Option.some.injEq] at e3
                  rw [← e3, e1, e5] at hy
                  simp only at hy
                  obtain ⟨v, φ, hk, hφ, hr⟩ := read_sound (P := P) hrr ha'.agree hy
                  have hir : Nat.beq x.kind 1 = true := by rw [hxo]; simp only [infoOf, kindOf, hpp, hrr]; rfl
                  refine next S' v _ _ φ K (ha'.put e4 v) (.inl ⟨hw, fun w hw => hr w hw⟩) hφ rfl (by
                    rw [hir]
                    intro x hx
                    rcases List.mem_cons.1 hx with rfl | hx
                    · exact List.mem_cons_self
                    · exact List.mem_cons_of_mem _ (hF x hx)) ?_ rfl hk
                  intro x hx
                  rcases List.mem_cons.1 hx with rfl | hx
                  · exact .inl List.mem_cons_self
                  · rcases hF' x hx with h | h
                    · exact .inl (List.mem_cons_of_mem _ h)
                    · exact .inr h
                · rename_i hrr
                  exfalso
                  simp [isFloat, ho, hpp, hrr] at hfl
            · rw [e1] at hy
              refine next S' (.v undef) F _ (fun _ => True) K (ha'.put e4 _) (.inr ⟨hw, rfl⟩) trivial rfl ?_ ?_ rfl hy
              · intro x hx
                split
                · exact List.mem_cons_of_mem _ (hF x hx)
                · exact hF x hx
              · intro x hx
                rcases List.mem_cons.1 hx with rfl | hx
                · exact .inr fun _ => trivial
                · exact hF' x hx
          · cases hs
        · cases hs
      · -- what acts
        rename_i hfind
        have act : ∀ (j : Nat) (xj : OI) (lj : STree), (j, xj) ∈ readyL m 0 (ops.toList.map (infoOf P ops)) →
            (match ops[j]? with
              | some o => match compOper P N ops o j (reads.filter fun i => !tb (T.getD j 0) i), sched P N ops (ops.toList.map (infoOf P ops)) T fuel (Nat.lor m (bitm j)) reads with
                | some s, some l => some (STree.op s l)
                | _, _ => none
              | none => none) = some lj → WPdraw P C X lj S w.heap F K →
            wpOp P ops Q j (fun a' w' => Good ops (effOf P ops) F' (listed.setIfInBounds j true) w' ∧ wpAnyF P ops Q (effOf P ops) F' fuel (listed.setIfInBounds j true) a' w') a w := by
          intro j' xj lj hmemx hs h
          split at hs
          · rename_i o ho
            split at hs
            · rename_i s l' h1 h2
              simp only [Option.some.injEq] at hs; subst hs
              obtain ⟨e1, e2, e3, e4, e5, e6⟩ := compOper_spec h1
              have hmem : j' ∈ Region.ready .any ops listed := (ready_iff (P := P) hrel).2 ⟨xj, hmemx⟩
              obtain ⟨_, hx1, _, _⟩ := mem_readyL.1 hmemx
              have hxo : xj = infoOf P ops o := by
                simp only [Nat.sub_zero, List.getElem?_map, Array.getElem?_toList, ho, Option.map_some, Option.some.injEq] at hx1
                exact hx1.symm
              have hfl : isFloat P ops j' = false := by
                cases hb : isFloat P ops j' with
                | false => rfl
                | true =>
                  have h3 := (kind_float (P := P) ho).2 hb
                  have h4 := List.find?_eq_none.1 hfind (j', xj) hmemx
                  have h5 : xj.kind = kindOf P o.op := by rw [hxo]; rfl
                  have h6 : kindOf P o.op ≤ 2 := by
                    unfold kindOf
                    split
                    · omega
                    · split <;> omega
                  exfalso
                  apply h4
                  show Nat.ble xj.kind 1 = true
                  exact (Nat.ble_eq).mpr (by omega)
              have hc' := hc.set hmem
              have hrel' := hrel.set (Array.getElem?_eq_some_iff.1 ho).1
              have hej : effOf P ops j' = true := by simp [effOf, hfl]
              have frput : ∀ (v : Value) (a3 : Act), Fr ds (a.put o.dst v) a3 → Fr ds a a3 := by
                intro v a3 hf3
                refine ((Fr.put a o v).trans hf3).mono ?_
                intro t ht
                rcases List.mem_append.1 ht with ht | ht
                · unfold opDst at ht
                  cases hd : o.dst with
                  | none => rw [hd] at ht; cases ht
                  | some d => rw [hd] at ht; simp only [List.mem_singleton] at ht; subst ht; exact hds j' o ho _ hd
                · exact ht
              simp only [WPdraw] at h
              unfold wpOp
              simp only [ho]
              rcases guarded_sound e2 ha h with ⟨hw, S', ha', hy⟩ | ⟨hw, S', ha', hy⟩
              · rw [if_pos hw]
                refine .inl ?_
                unfold compS at e3
                split at e3
                · rename_i p hpp
                  simp [isFloat, ho, hpp] at hfl
                · split at e3
                  · rename_i r hrr
                    simp [isFloat, ho, hrr] at hfl
                  · split at e3
                    · rename_i q hq
                      simp only [Option.some.injEq] at e3
                      rw [← e3, e1, e6] at hy
                      simp only at hy
                      refine eff_sound (P := P) hq ha'.agree hy _ _ ?_ (fun p w' hs hx => hp p a w' ha.defers hs hx)
                      intro sv w' hs' hk
                      obtain ⟨hk1, hk2⟩ := holds_sound hk
                      have hG' : Good ops (effOf P ops) F' (listed.setIfInBounds j' true) w' := by
                        intro x hx hl
                        rcases hF' x hx with h | h
                        · refine hk1 x h ?_
                          rw [List.mem_filter]
                          refine ⟨hF x h, ?_⟩
                          have hjl : (listed.setIfInBounds j' true).getD j' false = true := by
                            have := (mem_ready.1 hmem).1
                            have hlt : j' < listed.size := by
                              rcases Nat.lt_or_ge j' listed.size with h' | h'
                              · exact h'
                              · simp [Array.getElem?_eq_none h'] at this
                            simp [hlt]
                          rw [tb_eq]
                          cases hb : (T.getD j' 0).testBit x.1 with
                          | false => rfl
                          | true => exact absurd hb (by
                              obtain ⟨n, hn⟩ := anc_tab hT hTl x.1 (j' + 1) j' (Nat.lt_succ_self _) hb
                              rw [hl j' hjl hej n] at hn
                              cases hn)
                        · exact h _
                      refine ⟨hG', ih _ _ reads l' _ _ w' F F' K ds h2 hrel' hc' (ha'.put e4 _) hk2 hF hF' hG' hds ?_ (fun p a2 w2 hd hs2 hx => hp p a2 w2 hd (hs'.trans hs2) hx)⟩
                      intro S3 a3 w3 ha3 hs3 hf3 hk3
                      exact hn S3 a3 w3 ha3 (hs'.trans hs3) (frput _ _ hf3) hk3
                    · cases e3
              · rw [hw, if_neg (by simp)]
                rw [e1] at hy
                have hG' : Good ops (effOf P ops) F' (listed.setIfInBounds j' true) w := fun x hx hl => hG x hx hl.of_set
                refine ⟨hG', ih _ _ reads l' _ _ w F F' K ds h2 hrel' hc' (ha'.put e4 _) hy hF hF' hG' hds ?_ hp⟩
                intro S3 a3 w3 ha3 hs3 hf3 hk3
                exact hn S3 a3 w3 ha3 hs3 (frput _ _ hf3) hk3
            · cases hs
          · cases hs
        have hne : readyL m 0 (ops.toList.map (infoOf P ops)) ≠ [] := fun h0 => by rw [h0] at hs; cases hs
        refine ⟨fun h0 => ?_, fun j' hj' => ?_⟩
        · obtain ⟨x, hx⟩ := List.exists_mem_of_ne_nil _ hne
          have hmem : x.1 ∈ Region.ready .any ops listed := (ready_iff (P := P) hrel).2 ⟨x.2, hx⟩
          rw [h0] at hmem; cases hmem
        · obtain ⟨x', hx'⟩ := (ready_iff (P := P) hrel).1 hj'
          obtain ⟨lj, h1, h2⟩ := altsOf_sound _ _ hs h _ hx'
          exact act j' x' lj hx' h1 h2

theorem schedule_sound [Fits P C X] (hQ : ∀ c a a' w, a'.defers = a.defers → Q (.panic c) a w → Q (.panic c) a' w) {l : STree} (hs : schedule P N ops = some l) {S : Sym} {a : Act} {w : World} {K : Sym → Heap → Prop} (ds : List Nat)
    (ha : Ag N S a) (h : WPdraw P C X l S w.heap [] K) (hds : ∀ (j : Nat) (o : Oper), ops[j]? = some o → ∀ d, o.dst = some d → d ∈ ds)
    (hn : ∀ S a' w', Ag N S a' → Sim w w' → Fr ds a a' → K S w'.heap → Q .normal a' w') (hp : ∀ p a' w', a'.defers = [] → Sim w w' → X p w'.heap → Q (.panic [{ v := p, recovered := false }]) a' w') : wpAnyF P ops Q (effOf P ops) [] ops.size (Array.replicate ops.size false) a w := by
  unfold schedule at hs
  simp only at hs
  split at hs
  · rename_i hb
    simp only [Bool.and_eq_true] at hb
    obtain ⟨⟨h1, h2⟩, h3, h4⟩ := hb
    have hz : ∀ j, (Array.replicate ops.size false).getD j false = false := fun j => by
      rw [Array.getD_eq_getD_getElem?, Array.getElem?_replicate]
      split <;> rfl
    refine sched_sound h1 h2 h3 (Nat.eq_of_beq_eq_true h4) hQ ops.size _ 0 [] l S a w [] [] K ds hs ⟨by simp, fun j => ?_⟩ ?_ ha h (by simp) (by simp) (fun x hx => by cases hx) hds hn hp
    · rw [hz]; simp
    · intro j oj _ hj
      rw [hz] at hj
      cases hj
  · cases hs
end
end Go.Vc

namespace Go.Vc

def firstRegion : Code → Option Nat
  | .region id _ _ => some id
  | .seq a _ => firstRegion a
  | .block _ a => firstRegion a
  | .loop a => firstRegion a
  | _ => none

def dstsC : Code → List Nat
  | .region _ ops _ => dstsL ops.toList
  | .seq a b => dstsC a ++ dstsC b
  | .cond _ a b => dstsC a ++ dstsC b
  | .block _ a => dstsC a
  | .loop a => dstsC a
  | .scope a => dstsC a
  | _ => []

def dedup : List Nat → List Nat
  | [] => []
  | x :: r => match r.contains x with
    | true => dedup r
    | false => x :: dedup r

def without (l ex : List Nat) : List Nat := l.filter fun x => !ex.contains x

def annOf (ann : List (Nat × List (Nat × Value))) (r : Option Nat) : Option (List (Nat × Value)) :=
  match r with
  | none => none
  | some r => match ann with
    | [] => none
    | (k, v) :: l => match Nat.beq k r with
      | true => some v
      | false => annOf l (some r)

def compC (P : Program) (N : Nat) (ex : List Nat) (ann : List (Nat × List (Nat × Value))) : Code → Option SCode
  | .skip => some .skip
  | .region _ ops false => match compOps P N ops ops.toList with
    | some l => some (.region l)
    | none => none
  | .region _ ops true => match schedule P N ops with
    | some l => some (.draw l)
    | none => none
  | .seq a b => match compC P N ex ann a, compC P N ex ann b with
    | some x, some y => match annOf ann (firstRegion b) with
      | some vars => some (.cut vars (dedup (dstsC a)) x y)
      | none => some (.seq x y)
    | _, _ => none
  | .cond c a b => match compC P N ex ann a, compC P N ex ann b with
    | some x, some y => some (.cond (src c) x y)
    | _, _ => none
  | .block id a => match compC P N ex ann a with
    | some x => some (.block id x)
    | none => none
  | .loop a => match compC P N ex ann a with
    | some x => some (.loop (dedup (dstsC a)) (without (dedup (dstsC a)) ex) x)
    | none => none
  | .exit id => some (.exit id)
  | .ret => some .ret
  | _ => none

/-! ### Parts of values -/

def val1 (T : Type) (z : Value) (f : Fun1 z T) (v : Value) : Option T :=
  match z, f, v with
  | .int k _, f, .int k' n => if k = k' then some (f n) else none
  | .bool _, f, .bool n => some (f n)
  | .string _, f, .string n => some (f n)
  | .float k _, f, .float k' n => if k = k' then some (f n) else none
  | .pointer _, f, .pointer n => some (f n)
  | .slice _ _ _, f, .slice a n m => some (f a n m)
  | .map _, f, .map n => some (f n)
  | .complex _ _ _, f, v => some (f v)
  | .chan _, f, v => some (f v)
  | .func _ _ _, f, v => some (f v)
  | .nilFunc, f, v => some (f v)
  | .iface _ _, f, v => some (f v)
  | .nilIface, f, v => some (f v)
  | .agg _, f, v => some (f v)
  | .tuple _, f, v => some (f v)
  | _, _, _ => none

def valA (T : Type) : (zs : List Value) → FunA zs T → List Value → Option T
  | [], f, [] => some f
  | z :: r, f, v :: vs => (val1 (FunA r T) z f v).bind fun g => valA T r g vs
  | _, _, _ => none

def valV (T : Type) (z : Value) (f : FunV z T) (v : Value) : Option T :=
  match z, f, v with
  | .agg cs, f, .agg vs => valA T cs.toList f vs.toList
  | .agg _, _, _ => none
  | .int k n, f, v => val1 T (.int k n) f v
  | .bool n, f, v => val1 T (.bool n) f v
  | .string n, f, v => val1 T (.string n) f v
  | .float k n, f, v => val1 T (.float k n) f v
  | .pointer n, f, v => val1 T (.pointer n) f v
  | .slice a n m, f, v => val1 T (.slice a n m) f v
  | .map n, f, v => val1 T (.map n) f v
  | .complex a b c, f, v => val1 T (.complex a b c) f v
  | .chan a, f, v => val1 T (.chan a) f v
  | .func a b c, f, v => val1 T (.func a b c) f v
  | .nilFunc, f, v => val1 T .nilFunc f v
  | .iface a b, f, v => val1 T (.iface a b) f v
  | .nilIface, f, v => val1 T .nilIface f v
  | .tuple a, f, v => val1 T (.tuple a) f v

def valL (T : Type) : (zs : List Value) → FunL zs T → List Value → Option T
  | [], f, [] => some f
  | z :: r, f, v :: vs => (valV (FunL r T) z f v).bind fun g => valL T r g vs
  | _, _, _ => none

section
variable {T U : Type}

theorem app1_val {z v : Value} {f : Fun1 z T} {g : Fun1 z U} {K : T → U → Prop} (h : app1 z T U f g v K) : ∃ x y, val1 T z f v = some x ∧ val1 U z g v = some y ∧ K x y := by
  cases z <;> cases v <;> simp only [app1] at h <;> first
    | exact h.elim
    | exact ⟨_, _, rfl, rfl, h⟩
    | (split at h
       · rename_i hk
         obtain rfl := of_decide_eq_true hk
         exact ⟨_, _, if_pos rfl, if_pos rfl, h⟩
       · exact h.elim)

theorem all1_val {z v : Value} {f : Fun1 z T} {g : Fun1 z U} {K : Value → T → U → Prop} {x : T} {y : U} (h : all1 z T U f g K) (hx : val1 T z f v = some x) (hy : val1 U z g v = some y) : K v x y := by
  cases z <;> cases v <;> simp only [val1] at hx hy <;> simp only [all1] at h <;> first
    | (cases hx; done)
    | (simp only [Option.some.injEq] at hx hy; subst hx; subst hy; first | exact h _ | exact h _ _ _)
    | (split at hx
       · rename_i hk
         subst hk
         simp only [if_true, Option.some.injEq] at hx hy
         subst hx; subst hy
         exact h _
       · cases hx)

theorem appA_val : ∀ {zs vs : List Value} {f : FunA zs T} {g : FunA zs U} {K : T → U → Prop}, appA zs T U f g vs K → ∃ x y, valA T zs f vs = some x ∧ valA U zs g vs = some y ∧ K x y
  | [], [], f, g, K, h => ⟨f, g, rfl, rfl, h⟩
  | [], _ :: _, f, g, K, h => h.elim
  | _ :: _, [], f, g, K, h => h.elim
  | z :: r, v :: vs, f, g, K, h => by
    simp only [appA] at h
    obtain ⟨x, y, h1, h2, h3⟩ := app1_val h
    obtain ⟨x', y', h4, h5, h6⟩ := appA_val h3
    exact ⟨x', y', by simp only [valA, h1, Option.bind_some, h4], by simp only [valA, h2, Option.bind_some, h5], h6⟩

theorem allA_val : ∀ {zs vs : List Value} {f : FunA zs T} {g : FunA zs U} {K : List Value → T → U → Prop} {x : T} {y : U}, allA zs T U f g K → valA T zs f vs = some x → valA U zs g vs = some y → K vs x y
  | [], [], f, g, K, x, y, h, hx, hy => by
    cases hx; cases hy; exact h
  | [], _ :: _, f, g, K, x, y, h, hx, hy => by simp [valA] at hx
  | _ :: _, [], f, g, K, x, y, h, hx, hy => by simp [valA] at hx
  | z :: r, v :: vs, f, g, K, x, y, h, hx, hy => by
    simp only [valA, Option.bind_eq_some_iff] at hx hy
    obtain ⟨x', h1, h2⟩ := hx
    obtain ⟨y', h3, h4⟩ := hy
    simp only [allA] at h
    exact allA_val (K := fun vs f g => K (v :: vs) f g) (all1_val h h1 h3) h2 h4

theorem appV_val {z v : Value} {f : FunV z T} {g : FunV z U} {K : T → U → Prop} (h : appV z T U f g v K) : ∃ x y, valV T z f v = some x ∧ valV U z g v = some y ∧ K x y := by
  cases z with
  | agg cs => cases v <;> first | exact appA_val h | exact h.elim
  | int k n => exact app1_val (z := .int k n) h
  | bool n => exact app1_val (z := .bool n) h
  | string n => exact app1_val (z := .string n) h
  | float k n => exact app1_val (z := .float k n) h
  | pointer n => exact app1_val (z := .pointer n) h
  | slice a n m => exact app1_val (z := .slice a n m) h
  | map n => exact app1_val (z := .map n) h
  | complex a b c => exact app1_val (z := .complex a b c) h
  | chan a => exact app1_val (z := .chan a) h
  | func a b c => exact app1_val (z := .func a b c) h
  | nilFunc  => exact app1_val (z := .nilFunc ) h
  | iface a b => exact app1_val (z := .iface a b) h
  | nilIface  => exact app1_val (z := .nilIface ) h
  | tuple a => exact app1_val (z := .tuple a) h

theorem allV_val {z v : Value} {f : FunV z T} {g : FunV z U} {K : Value → T → U → Prop} {x : T} {y : U} (h : allV z T U f g K) (hx : valV T z f v = some x) (hy : valV U z g v = some y) : K v x y := by
  cases z with
  | agg cs =>
    cases v with
    | agg vs =>
      have := allA_val (K := fun vs f g => K (.agg vs.toArray) f g) h hx hy
      simpa using this
    | _ => simp [valV] at hx
  | int k n => exact all1_val (z := .int k n) h hx hy
  | bool n => exact all1_val (z := .bool n) h hx hy
  | string n => exact all1_val (z := .string n) h hx hy
  | float k n => exact all1_val (z := .float k n) h hx hy
  | pointer n => exact all1_val (z := .pointer n) h hx hy
  | slice a n m => exact all1_val (z := .slice a n m) h hx hy
  | map n => exact all1_val (z := .map n) h hx hy
  | complex a b c => exact all1_val (z := .complex a b c) h hx hy
  | chan a => exact all1_val (z := .chan a) h hx hy
  | func a b c => exact all1_val (z := .func a b c) h hx hy
  | nilFunc  => exact all1_val (z := .nilFunc ) h hx hy
  | iface a b => exact all1_val (z := .iface a b) h hx hy
  | nilIface  => exact all1_val (z := .nilIface ) h hx hy
  | tuple a => exact all1_val (z := .tuple a) h hx hy

theorem appL_val : ∀ {zs vs : List Value} {f : FunL zs T} {g : FunL zs U} {K : T → U → Prop}, appL zs T U f g vs K → ∃ x y, valL T zs f vs = some x ∧ valL U zs g vs = some y ∧ K x y
  | [], [], f, g, K, h => ⟨f, g, rfl, rfl, h⟩
  | [], _ :: _, f, g, K, h => h.elim
  | _ :: _, [], f, g, K, h => h.elim
  | z :: r, v :: vs, f, g, K, h => by
    simp only [appL] at h
    obtain ⟨x, y, h1, h2, h3⟩ := appV_val h
    obtain ⟨x', y', h4, h5, h6⟩ := appL_val h3
    exact ⟨x', y', by simp only [valL, h1, Option.bind_some, h4], by simp only [valL, h2, Option.bind_some, h5], h6⟩

theorem allL_val : ∀ {zs vs : List Value} {f : FunL zs T} {g : FunL zs U} {K : List Value → T → U → Prop} {x : T} {y : U}, allL zs T U f g K → valL T zs f vs = some x → valL U zs g vs = some y → K vs x y
  | [], [], f, g, K, x, y, h, hx, hy => by
    cases hx; cases hy; exact h
  | [], _ :: _, f, g, K, x, y, h, hx, hy => by simp [valL] at hx
  | _ :: _, [], f, g, K, x, y, h, hx, hy => by simp [valL] at hx
  | z :: r, v :: vs, f, g, K, x, y, h, hx, hy => by
    simp only [valL, Option.bind_eq_some_iff] at hx hy
    obtain ⟨x', h1, h2⟩ := hx
    obtain ⟨y', h3, h4⟩ := hy
    simp only [allL] at h
    exact allL_val (K := fun vs f g => K (v :: vs) f g) (allV_val h h1 h3) h2 h4
end
end Go.Vc

namespace Go.Vc

section
variable {P : Program} {N : Nat}

theorem get_put_del {S : Sym} {mods : List Nat} {t : Nat} {s : SV} (h : (S.del mods).get t = some s) : t ∉ mods ∧ S.get t = some s := by
  induction S with
  | nil => cases h
  | cons x r ih =>
    obtain ⟨i, u⟩ := x
    unfold Sym.del at h
    rw [get_cons]
    split at h
    · rename_i hm
      obtain ⟨h1, h2⟩ := ih h
      refine ⟨h1, ?_⟩
      rw [if_neg]
      · exact h2
      · rintro rfl
        exact h1 (by simpa using hm)
    · rename_i hm
      rw [get_cons] at h
      split at h
      · rename_i e
        subst e
        rw [if_pos rfl]
        exact ⟨by simpa using hm, h⟩
      · rename_i e
        obtain ⟨h1, h2⟩ := ih h
        rw [if_neg e]
        exact ⟨h1, h2⟩

theorem get_syms {S : Sym} {a : Act} : ∀ (ts : List Nat), Agree S a → Agree (syms ts (ts.map fun t => a.tmps.getD t undef) S) a
  | [], h => h
  | t :: ts, h => by
    intro t' s' h'
    simp only [List.map_cons, syms, get_cons] at h'
    split at h'
    · rename_i e; subst e
      simp only [Option.some.injEq] at h'; subst h'; rfl
    · exact get_syms ts h t' s' h'

theorem Ag.del {S : Sym} {a a' : Act} {mods : List Nat} (h : Ag N S a) (hf : Fr mods a a') (hs : a'.tmps.size = N) (hd : a'.defers = []) : Ag N (S.del mods) a' := by
  refine ⟨hs, hd, fun t s ht => ?_⟩
  obtain ⟨h1, h2⟩ := get_put_del ht
  rw [hf t h1]
  exact h.agree t s h2

theorem getAll_spec {S : Sym} {a : Act} (h : Agree S a) : ∀ {ts : List Nat} {ss : List SV}, getAll S ts = some ss → ss.map SV.toV = ts.map fun t => a.tmps.getD t undef
  | [], ss, hg => by simp only [getAll, Option.some.injEq] at hg; subst hg; rfl
  | t :: ts, ss, hg => by
    simp only [getAll] at hg
    split at hg
    · rename_i s l h1 h2
      simp only [Option.some.injEq] at hg; subst hg
      simp only [List.map_cons]
      rw [h t s h1, getAll_spec h h2]
    · cases hg

theorem lives_get {S : Sym} : ∀ {ts : List Nat} {x : Nat × SV}, x ∈ lives S ts → S.get x.1 = some x.2
  | [], x, h => by cases h
  | t :: ts, x, h => by
    simp only [lives] at h
    split at h
    · rename_i s hs
      rcases List.mem_cons.1 h with rfl | h
      · exact hs
      · exact lives_get h
    · exact lives_get h

/-- What is known where the code is left. -/
def QF (X : Value → Heap → Prop) (K : Kont) (N : Nat) (w : World) (a : Act) (l : List Nat) : Exit → Act → World → Prop := fun e a' w' =>
  match e with
  | .normal => Fr l a a' ∧ Sim w w' ∧ ∃ S, Ag N S a' ∧ K.norm S w'.heap
  | .exit id => Fr l a a' ∧ Sim w w' ∧ ∃ S, Ag N S a' ∧ K.exit id S w'.heap
  | .ret => Fr l a a' ∧ Sim w w' ∧ ∃ S, Ag N S a' ∧ K.ret S w'.heap
  | .panic ch => a'.defers = [] ∧ Sim w w' ∧ ∃ p, ch = [{ v := p, recovered := false }] ∧ X p w'.heap
  | _ => False

theorem dedup_mem {l : List Nat} {t : Nat} : t ∈ dedup l ↔ t ∈ l := by
  induction l with
  | nil => rfl
  | cons x r ih =>
    unfold dedup
    split
    · rename_i h
      rw [ih, List.mem_cons]
      constructor
      · exact .inr
      · rintro (rfl | h')
        · simpa using h
        · exact h'
    · rw [List.mem_cons, List.mem_cons, ih]

theorem mem_dstsL {ops : Array Oper} {j : Nat} {o : Oper} {d : Nat} (ho : ops[j]? = some o) (hd : o.dst = some d) : d ∈ dstsL ops.toList := by
  unfold dstsL
  rw [List.mem_flatMap]
  refine ⟨o, ?_, by simp [opDst, hd]⟩
  have := Array.mem_of_getElem? ho
  simpa using this

theorem getD_replicate_false' (m j : Nat) : (Array.replicate m false).getD j false = false := by
  rcases Nat.lt_or_ge j m with h | h
  · simp [h]
  · simp [h]

theorem code_sound {C : CallP} {X : Value → Heap → Prop} [Fits P C X] {ex : List Nat} {ann : List (Nat × List (Nat × Value))} (hm : P.follows .mixedOrders = true) : ∀ (c : Code) (sc : SCode), compC P N ex ann c = some sc → ∀ (K : Kont) (S : Sym) (a : Act) (w : World),
    Ag N S a → WP P C X sc K S w.heap → c.wp P (QF X K N w a (dstsC c)) a w := by
  intro c
  induction c with
  | skip =>
    intro sc hc K S a w ha h
    simp only [compC, Option.some.injEq] at hc; subst hc
    exact wp_skip ⟨Fr.refl _ a, Sim.refl w, S, ha, h⟩
  | region id ops d =>
    intro sc hc K S a w ha h
    cases d with
    | false =>
      simp only [compC] at hc
      split at hc
      · rename_i l hl
        simp only [Option.some.injEq] at hc; subst hc
        refine wp_region_list (ops_sound ops.toList l hl S a w K.norm ha h ?_ (fun p a' w' hd hs hx => ⟨hd, hs, p, rfl, hx⟩))
        intro S' a' w' ha' hs hf hk
        exact ⟨hf, hs, S', ha', hk⟩
      · cases hc
    | true =>
      simp only [compC] at hc
      split at hc
      · rename_i l hl
        simp only [Option.some.injEq] at hc; subst hc
        refine wp_region_any hm (wpAny_of_F (eff := effOf P ops) (F := []) _ _ _ _ (schedule_sound (C := C) (X := X) (fun c a a' w hd h => ⟨hd.trans h.1, h.2⟩) hl (dstsL ops.toList) (w := { w with drawn := w.drawn + 1 }) ha h ?_ ?_ (fun p a' w' hd hs hx => ⟨hd, ⟨hs.os, hs.tape, hs.output⟩, p, rfl, hx⟩)))
        · intro j o ho d hd
          exact mem_dstsL ho hd
        · intro S' a' w' ha' hs hf hk
          exact ⟨hf, ⟨hs.os, hs.tape, hs.output⟩, S', ha', hk⟩
      · cases hc
  | seq x y ihx ihy =>
    intro sc hc K S a w ha h
    simp only [compC] at hc
    split at hc
    · rename_i sx sy h1 h2
      split at hc
      · -- a cut
        rename_i vars _
        simp only [Option.some.injEq] at hc; subst hc
        simp only [WP] at h
        obtain ⟨I, hx, hy⟩ := h
        refine wp_seq (wp_mono (ihx sx h1 _ S a w ha hx) ?_)
        intro e a' w' hq
        cases e with
        | normal =>
          obtain ⟨hf, hs, S', ha', hk⟩ := hq
          simp only at hk
          split at hk
          · rename_i ss hss
            obtain ⟨X, Y, hX, hY, hXH⟩ := appL_val hk
            rw [getAll_spec ha'.agree hss] at hX hY
            have hall := allL_val hy hX hY
            have hmods : Fr (dedup (dstsC x)) a a' := hf.mono fun t ht => dedup_mem.2 ht
            have hd := ha.del hmods ha'.size ha'.defers
            have hag : Ag N (syms (vars.map (·.1)) ((vars.map (·.1)).map fun t => a'.tmps.getD t undef) (S.del (dedup (dstsC x)))) a' := ⟨ha'.size, ha'.defers, get_syms _ hd.agree⟩
            refine wp_mono (ihy sy h2 K _ a' w' hag (hall w'.heap hXH)) ?_
            intro e2 a2 w2 hq2
            cases e2 with
            | normal => exact ⟨hf.trans hq2.1, hs.trans hq2.2.1, hq2.2.2⟩
            | exit id => exact ⟨hf.trans hq2.1, hs.trans hq2.2.1, hq2.2.2⟩
            | ret => exact ⟨hf.trans hq2.1, hs.trans hq2.2.1, hq2.2.2⟩
            | panic ch => exact ⟨hq2.1, hs.trans hq2.2.1, hq2.2.2⟩
            | _ => exact hq2.elim
          · exact hk.elim
        | exit id => exact ⟨hq.1.mono fun t ht => List.mem_append_left _ ht, hq.2⟩
        | ret => exact ⟨hq.1.mono fun t ht => List.mem_append_left _ ht, hq.2⟩
        | panic ch => exact hq
        | _ => exact hq.elim
      · simp only [Option.some.injEq] at hc; subst hc
        simp only [WP] at h
        refine wp_seq (wp_mono (ihx sx h1 _ S a w ha h) ?_)
        intro e a' w' hq
        cases e with
        | normal =>
          obtain ⟨hf, hs, S', ha', hk⟩ := hq
          refine wp_mono (ihy sy h2 K S' a' w' ha' hk) ?_
          intro e2 a2 w2 hq2
          cases e2 with
          | normal => exact ⟨hf.trans hq2.1, hs.trans hq2.2.1, hq2.2.2⟩
          | exit id => exact ⟨hf.trans hq2.1, hs.trans hq2.2.1, hq2.2.2⟩
          | ret => exact ⟨hf.trans hq2.1, hs.trans hq2.2.1, hq2.2.2⟩
          | panic ch => exact ⟨hq2.1, hs.trans hq2.2.1, hq2.2.2⟩
          | _ => exact hq2.elim
        | exit id => exact ⟨hq.1.mono fun t ht => List.mem_append_left _ ht, hq.2⟩
        | ret => exact ⟨hq.1.mono fun t ht => List.mem_append_left _ ht, hq.2⟩
        | panic ch => exact hq
        | _ => exact hq.elim
    · cases hc
  | cond c x y ihx ihy =>
    intro sc hc K S a w ha h
    simp only [compC] at hc
    split at hc
    · rename_i sx sy h1 h2
      simp only [Option.some.injEq] at hc; subst hc
      simp only [WP] at h
      split at h
      · rename_i s hs
        obtain ⟨b, h3, h4⟩ := branch_sound h
        have hb : a.eval c = .bool b := by rw [ev_sound ha.agree hs, h3]
        cases b
        · refine wp_cond_false hb (wp_mono (ihy sy h2 K S a w ha h4) ?_)
          intro e a' w' hq
          cases e with
          | normal => exact ⟨hq.1.mono fun t ht => List.mem_append_right _ ht, hq.2⟩
          | exit id => exact ⟨hq.1.mono fun t ht => List.mem_append_right _ ht, hq.2⟩
          | ret => exact ⟨hq.1.mono fun t ht => List.mem_append_right _ ht, hq.2⟩
          | panic ch => exact hq
          | _ => exact hq.elim
        · refine wp_cond_true hb (wp_mono (ihx sx h1 K S a w ha h4) ?_)
          intro e a' w' hq
          cases e with
          | normal => exact ⟨hq.1.mono fun t ht => List.mem_append_left _ ht, hq.2⟩
          | exit id => exact ⟨hq.1.mono fun t ht => List.mem_append_left _ ht, hq.2⟩
          | ret => exact ⟨hq.1.mono fun t ht => List.mem_append_left _ ht, hq.2⟩
          | panic ch => exact hq
          | _ => exact hq.elim
      · exact h.elim
    · cases hc
  | block id x ih =>
    intro sc hc K S a w ha h
    simp only [compC] at hc
    split at hc
    · rename_i sx h1
      simp only [Option.some.injEq] at hc; subst hc
      simp only [WP] at h
      refine wp_block (wp_mono (ih sx h1 _ S a w ha h) ?_)
      intro e a' w' hq
      cases e with
      | normal => exact hq
      | exit i =>
        obtain ⟨hf, hs, S', ha', hk⟩ := hq
        simp only [Exit.inBlock]
        simp only at hk
        split at hk
        · rename_i hb
          rw [if_pos (Nat.eq_of_beq_eq_true hb)]
          exact ⟨hf, hs, S', ha', hk⟩
        · rename_i hb
          rw [if_neg]
          · exact ⟨hf, hs, S', ha', hk⟩
          · rintro rfl
            simp at hb
      | ret => exact hq
      | panic ch => exact hq
      | _ => exact hq.elim
    · cases hc
  | loop x ih =>
    intro sc hc K S a w ha h
    simp only [compC] at hc
    split at hc
    · rename_i sx h1
      simp only [Option.some.injEq] at hc; subst hc
      simp only [WP] at h
      generalize hlv : lives S (without (dedup (dstsC x)) ex) = lv at h
      obtain ⟨I, μ, hin, hst⟩ := h
      have hslots : lv.map (·.2.toV) = (lv.map (·.1)).map fun t => a.tmps.getD t undef := by
        rw [List.map_map]
        apply List.map_congr_left
        intro y hy
        rw [← hlv] at hy
        exact (ha.agree y.1 y.2 (lives_get hy)).symm
      refine wp_loop
        (fun a' w' => Fr (dstsC x) a a' ∧ Sim w w' ∧ a'.tmps.size = N ∧ a'.defers = [] ∧ ∃ X m, valL (Heap → Prop) _ I ((lv.map (·.1)).map fun t => a'.tmps.getD t undef) = some X ∧ valL (Heap → Nat) _ μ ((lv.map (·.1)).map fun t => a'.tmps.getD t undef) = some m ∧ X w'.heap)
        (fun a' w' => ((valL (Heap → Nat) _ μ ((lv.map (·.1)).map fun t => a'.tmps.getD t undef)).map (· w'.heap)).getD 0) ?_ ?_
      · obtain ⟨X, m, hX, hm', hXH⟩ := appL_val hin
        rw [hslots] at hX hm'
        exact ⟨Fr.refl _ a, Sim.refl w, ha.size, ha.defers, X, m, hX, hm', hXH⟩
      · rintro a1 w1 ⟨hf1, hs1, hz1, hd1, X, m, hX, hm', hXH⟩
        have hall := allL_val hst hX hm' w1.heap hXH
        have hmods : Fr (dedup (dstsC x)) a a1 := hf1.mono fun t ht => dedup_mem.2 ht
        have hd := ha.del hmods hz1 hd1
        have hag : Ag N (syms (lv.map (·.1)) ((lv.map (·.1)).map fun t => a1.tmps.getD t undef) (S.del (dedup (dstsC x)))) a1 := ⟨hz1, hd1, get_syms _ hd.agree⟩
        have hself : ∀ {b : Act}, Fr (dstsC x) a1 b → Fr (dstsC x) a b := fun hb => (hf1.trans hb).mono fun t ht => by simpa using ht
        refine wp_mono (ih sx h1 _ _ a1 w1 hag hall) ?_
        intro e a2 w2 hq
        cases e with
        | normal =>
          obtain ⟨hf2, hs2, S2, ha2, hk⟩ := hq
          simp only at hk
          split at hk
          · rename_i ss hss
            obtain ⟨X2, m2, hX2, hm2, hx2, hlt⟩ := appL_val hk
            rw [getAll_spec ha2.agree hss] at hX2 hm2
            refine ⟨⟨hself hf2, hs1.trans hs2, ha2.size, ha2.defers, X2, m2, hX2, hm2, hx2⟩, ?_⟩
            rw [hm2, hm']
            exact hlt
          · exact hk.elim
        | exit id => exact ⟨hself hq.1, hs1.trans hq.2.1, hq.2.2⟩
        | ret => exact ⟨hself hq.1, hs1.trans hq.2.1, hq.2.2⟩
        | panic ch => exact ⟨hq.1, hs1.trans hq.2.1, hq.2.2⟩
        | _ => exact hq.elim
    · cases hc
  | exit id =>
    intro sc hc K S a w ha h
    simp only [compC, Option.some.injEq] at hc; subst hc
    exact wp_exit ⟨Fr.refl _ a, Sim.refl w, S, ha, h⟩
  | ret =>
    intro sc hc K S a w ha h
    simp only [compC, Option.some.injEq] at hc; subst hc
    exact wp_ret ⟨Fr.refl _ a, Sim.refl w, S, ha, h⟩
  | _ =>
    intro sc hc
    simp [compC] at hc

def compRes (P : Program) : List ResultVar → Option (List RV)
  | [] => some []
  | .tmp t :: r => match compRes P r with
    | some l => some (.tmp t :: l)
    | none => none
  | .cell a t :: r => match compR P (.load t (.tmp a)), compRes P r with
    | some (.load z ag (.t a')), some l => match Nat.beq a a' with
      | true => some (.cell z ag a' :: l)
      | false => none
    | _, _ => none

def resOf (tmps : Array Value) : ResultVar → Sem Value
  | .tmp t => pure (tmps.getD t undef)
  | .cell a t => do loadVar t (← asAddr (tmps.getD a undef))

theorem results_eq (fn : Func) (tmps : Array Value) : results fn tmps = (do
    let vs ← fn.results.mapM (resOf tmps)
    pure (if h : vs.size = 1 then vs[0] else .tuple vs)) := by
  unfold results
  congr 1

theorem res_sound {S : Sym} {a : Act} {w : World} (ha : Agree S a) : ∀ (rs : List ResultVar) (l : List RV) (K : List Value → Prop), compRes P rs = some l → resK w.heap l S K →
    ∃ vs, (rs.mapM (resOf a.tmps)).run P w = .ok vs w ∧ K vs
  | [], l, K, hc, h => by
    simp only [compRes, Option.some.injEq] at hc; subst hc
    exact ⟨[], by simp, h⟩
  | .tmp t :: r, l, K, hc, h => by
    simp only [compRes] at hc
    split at hc
    · rename_i l' hl
      simp only [Option.some.injEq] at hc; subst hc
      simp only [resK] at h
      split at h
      · rename_i s hs
        obtain ⟨vs, h1, h2⟩ := res_sound ha r l' _ hl h
        refine ⟨_, ?_, h2⟩
        rw [List.mapM_cons]
        simp only [resOf, Sem.run_bind, Sem.run_pure, Result.andThen_ok, h1, ha t s hs]
      · exact h.elim
    · cases hc
  | .cell x t :: r, l, K, hc, h => by
    simp only [compRes] at hc
    split at hc
    · rename_i z ag a' l' hl0 hl
      split at hc
      · rename_i hb
        obtain rfl := Nat.eq_of_beq_eq_true hb
        simp only [Option.some.injEq] at hc; subst hc
        simp only [resK] at h
        obtain ⟨s, φ, h1, hφ, h2⟩ := read_sound (P := P) (o := ⟨none, .load t (.tmp x), 0, "", #[], none⟩) hl0 ha h
        obtain ⟨vs, h3, h4⟩ := res_sound ha r l' _ hl h1
        refine ⟨_, ?_, h4⟩
        have h5 := h2 w hφ
        simp only [execOp, Sem.run_bind] at h5
        have h6 : ((asAddr (a.tmps.getD x undef)).run P w).andThen (fun ad w => (loadVar t ad).run P w) = .ok s.toV w := by
          cases hx : a.tmps.getD x undef with
          | pointer p =>
            cases p with
            | none => simp [Act.eval, hx, Instr.loadAt, Instr.sureAddr] at h5
            | some ad =>
              simp only [Act.eval, hx, Instr.loadAt, Instr.sureAddr, pure_bind] at h5
              cases hr : (loadVar t ad).run P w with
              | ok v w' =>
                rw [hr] at h5
                simp only [Result.andThen_ok, Sem.run_pure, Result.ok.injEq, Next.value.injEq] at h5
                obtain ⟨rfl, rfl⟩ := h5
                simpa [asAddr] using hr
              | halt q w' => rw [hr] at h5; simp at h5
          | _ => simp [Act.eval, hx, Instr.loadAt, Instr.sureAddr] at h5
        rw [List.mapM_cons]
        simp only [resOf, Sem.run_bind] at h6 ⊢
        rw [h6]
        simp only [Result.andThen_ok, h3, Sem.run_pure]
      · cases hc
    · cases hc

theorem start_get : ∀ (args : List Value) (i t : Nat) (s : SV), (start i args).get t = some s → ∃ v, args[t - i]? = some v ∧ i ≤ t ∧ s = .v v
  | [], _, _, _, h => by cases h
  | v :: r, i, t, s, h => by
    simp only [start, get_cons] at h
    split at h
    · rename_i e; subst e
      simp only [Option.some.injEq] at h
      exact ⟨v, by simp, Nat.le_refl _, h.symm⟩
    · obtain ⟨u, h1, h2, h3⟩ := start_get r (i + 1) t s h
      refine ⟨u, ?_, by omega, h3⟩
      rw [show t - i = (t - (i + 1)) + 1 by omega]
      simpa using h1

theorem start_agree (args : List Value) (n : Nat) : Agree (start 0 args) { tmps := args.toArray ++ Array.replicate n undef, defers := [] } := by
  intro t s h
  obtain ⟨v, h1, _, rfl⟩ := start_get args 0 t s h
  simp only [Nat.sub_zero] at h1
  have hlt : t < args.length := (List.getElem?_eq_some_iff.1 h1).1
  simp only [Array.getD_eq_getD_getElem?]
  rw [Array.getElem?_append_left (by simpa using hlt)]
  simp [h1, SV.toV]

/-- **THE CONTRACT OUT OF THE WALK.** -/
theorem FnX_of_WP {C : CallP} {X : Value → Heap → Prop} [Fits P C X] {f : FuncId} {fn : Func} {c : Code} {sc : SCode} {rs : List RV} {ex : List Nat} {ann : List (Nat × List (Nat × Value))} {args : List Value} {H : Heap} {R : Value → Heap → Prop} (hm : P.follows .mixedOrders = true)
    (hf : P.funcs[f]? = some fn) (hb : fn.body = some c) (hc : compC P fn.ntmps ex ann c = some sc) (hr : compRes P fn.results.toList = some rs) (hn : args.length ≤ fn.ntmps) {S0 : Sym}
    (hS : Agree S0 { tmps := args.toArray ++ Array.replicate (fn.ntmps - args.toArray.size) undef, defers := [] }) (h : WP P C X sc ⟨fun S H => retK rs R S H, fun _ _ _ => False, fun S H => retK rs R S H⟩ S0 H) : DoesX P f args H R X := by
  intro w hw
  subst hw
  refine calls_of_wp hf hb ?_
  have hag : Ag fn.ntmps S0 { tmps := args.toArray ++ Array.replicate (fn.ntmps - args.toArray.size) undef, defers := [] } := ⟨by simp; omega, rfl, hS⟩
  refine wp_mono (code_sound hm c sc hc _ _ _ w hag h) ?_
  intro e a' w' hq
  have fin : Sim w w' → (∃ S, Ag fn.ntmps S a' ∧ retK rs R S w'.heap) → a'.defers = [] ∧ ∃ v, (results fn a'.tmps).run P w' = .ok v w' ∧ ((∃ u, Ending.returned v = .returned u ∧ Sim w w' ∧ R u w'.heap) ∨ ∃ p, Ending.returned v = .panicked [{ v := p, recovered := false }] ∧ Sim w w' ∧ X p w'.heap) := by
    rintro hs ⟨S, ha, hk⟩
    obtain ⟨vs, h1, h2⟩ := res_sound (P := P) ha.agree fn.results.toList rs _ hr hk
    refine ⟨ha.defers, (if h : vs.toArray.size = 1 then vs.toArray[0] else .tuple vs.toArray), ?_, .inl ⟨_, rfl, hs, ?_⟩⟩
    · rw [results_eq]
      have e : fn.results = fn.results.toList.toArray := by simp
      rw [e, List.mapM_toArray]
      simp only [Sem.run_bind, Sem.run_map, h1, Result.andThen_ok, Sem.run_pure]
    · match vs, h2 with
      | [], h2 => exact h2
      | [v], h2 => exact h2
      | _ :: _ :: _, h2 => exact h2
  cases e with
  | normal => exact fin hq.2.1 hq.2.2
  | ret => exact fin hq.2.1 hq.2.2
  | panic ch => obtain ⟨hd, hs, p, rfl, hx⟩ := hq; exact ⟨hd, .inr ⟨p, rfl, hs, hx⟩⟩
  | exit id => obtain ⟨_, _, _, _, h⟩ := hq; exact h.elim
  | _ => exact hq.elim


theorem Does.x {f : FuncId} {args : List Value} {H : Heap} {R X : Value → Heap → Prop} (h : Does P f args H R) : DoesX P f args H R fun p H => X p H := fun w hw => (h w hw).mono fun _ _ h => .inl h
theorem DoesX.plain {f : FuncId} {args : List Value} {H : Heap} {R X : Value → Heap → Prop} (h : DoesX P f args H R X) (hx : ∀ p H, ¬ X p H) : Does P f args H R := fun w hw => (h w hw).mono fun _ _ h => h.elim id fun ⟨p, _, _, h⟩ => absurd h (hx p _)
theorem DoesX.mono {f : FuncId} {args : List Value} {H : Heap} {R R' X X' : Value → Heap → Prop} (h : DoesX P f args H R X) (hr : ∀ v H, R v H → R' v H) (hx : ∀ p H, X p H → X' p H) : DoesX P f args H R' X' := fun w hw => (h w hw).mono fun _ _ h => h.elim (fun ⟨v, h1, h2, h3⟩ => .inl ⟨v, h1, h2, hr _ _ h3⟩) fun ⟨p, h1, h2, h3⟩ => .inr ⟨p, h1, h2, hx _ _ h3⟩
theorem Fn_of_WP {f : FuncId} {fn : Func} {c : Code} {sc : SCode} {rs : List RV} {ex : List Nat} {ann : List (Nat × List (Nat × Value))} {args : List Value} {H : Heap} {R : Value → Heap → Prop} (hm : P.follows .mixedOrders = true)
    (hf : P.funcs[f]? = some fn) (hb : fn.body = some c) (hc : compC P fn.ntmps ex ann c = some sc) (hr : compRes P fn.results.toList = some rs) (hn : args.length ≤ fn.ntmps) {S0 : Sym}
    (hS : Agree S0 { tmps := args.toArray ++ Array.replicate (fn.ntmps - args.toArray.size) undef, defers := [] }) (h : WP P (Does P) (fun _ _ => False) sc ⟨fun S H => retK rs R S H, fun _ _ _ => False, fun S H => retK rs R S H⟩ S0 H) : Does P f args H R :=
  (FnX_of_WP (C := Does P) (X := fun _ _ => False) hm hf hb hc hr hn hS h).plain fun _ _ h => h

end
end Go.Vc

namespace Go.Vc

def resSlots : List ResultVar → List Nat
  | [] => []
  | .tmp t :: r => t :: resSlots r
  | .cell _ _ :: r => resSlots r

def isWide : List (Nat × List (Nat × Value)) → Bool
  | [] => false
  | (k, _) :: r => match Nat.beq k 999999 with | true => true | false => isWide r

def startW (wide : Bool) (args : List Value) : Sym :=
  match wide with
  | true => (wideKey, .v undef) :: start 0 args
  | false => start 0 args

/-- What is to be shown of a function, for its contract. -/
def Walk (P : Program) (f : FuncId) (ann : List (Nat × List (Nat × Value))) (args : List Value) (H : Heap) (R : Value → Heap → Prop) : Prop :=
  match P.funcs[f]? with
  | none => False
  | some fn => match fn.body with
    | none => False
    | some c => match compC P fn.ntmps (resSlots fn.results.toList) ann c, compRes P fn.results.toList with
      | some sc, some rs => match Nat.ble args.length fn.ntmps && Nat.ble fn.ntmps wideKey with
        | true => WP P (Does P) (fun _ _ => False) sc ⟨fun S H => retK rs R S H, fun _ _ _ => False, fun S H => retK rs R S H⟩ (startW (isWide ann) args) H
        | false => False
      | _, _ => False

theorem Fn_of_Walk {P : Program} {f : FuncId} {ann : List (Nat × List (Nat × Value))} {args : List Value} {H : Heap} {R : Value → Heap → Prop} (hm : P.follows .mixedOrders = true) (h : Walk P f ann args H R) : Does P f args H R := by
  unfold Walk at h
  split at h
  · exact h.elim
  · rename_i fn hf
    split at h
    · exact h.elim
    · rename_i c hb
      split at h
      · rename_i sc rs hc hr
        split at h
        · rename_i hn
          rw [Bool.and_eq_true] at hn
          have hn1 := Nat.le_of_ble_eq_true hn.1
          have hn2 := Nat.le_of_ble_eq_true hn.2
          refine Fn_of_WP hm hf hb hc hr hn1 (S0 := startW (isWide ann) args) ?_ h
          unfold startW
          split
          · intro t s hs
            rw [get_cons] at hs
            split at hs
            · rename_i e
              subst e
              simp only [Option.some.injEq] at hs
              subst hs
              have : ({ tmps := args.toArray ++ Array.replicate (fn.ntmps - args.toArray.size) undef, defers := [] } : Act).tmps.size ≤ wideKey := by simp; omega
              rw [Array.getD_eq_getD_getElem?, Array.getElem?_eq_none this]
              rfl
            · exact start_agree args _ t s hs
          · exact start_agree args _
        · exact h.elim
      · exact h.elim

/-- The contract out of what is to be shown. -/
theorem Fn_of_vc {P : Program} {f : FuncId} {ann : List (Nat × List (Nat × Value))} {args : List Value} {H : Heap} {R : Value → Heap → Prop} {V : Prop} (hm : P.follows .mixedOrders = true) (e : Walk P f ann args H R = V) (h : V) : Does P f args H R :=
  Fn_of_Walk hm (e ▸ h)

/-- The same, where it may panic. -/
def WalkX (P : Program) (f : FuncId) (ann : List (Nat × List (Nat × Value))) (args : List Value) (H : Heap) (R X : Value → Heap → Prop) : Prop :=
  match P.funcs[f]? with
  | none => False
  | some fn => match fn.body with
    | none => False
    | some c => match compC P fn.ntmps (resSlots fn.results.toList) ann c, compRes P fn.results.toList with
      | some sc, some rs => match Nat.ble args.length fn.ntmps && Nat.ble fn.ntmps wideKey with
        | true => WP P (fun f args H R => DoesX P f args H R X) X sc ⟨fun S H => retK rs R S H, fun _ _ _ => False, fun S H => retK rs R S H⟩ (startW (isWide ann) args) H
        | false => False
      | _, _ => False

theorem FnX_of_Walk {P : Program} {f : FuncId} {ann : List (Nat × List (Nat × Value))} {args : List Value} {H : Heap} {R X : Value → Heap → Prop} (hm : P.follows .mixedOrders = true) (h : WalkX P f ann args H R X) : DoesX P f args H R X := by
  unfold WalkX at h
  split at h
  · exact h.elim
  · rename_i fn hf
    split at h
    · exact h.elim
    · rename_i c hb
      split at h
      · rename_i sc rs hc hr
        split at h
        · rename_i hn
          rw [Bool.and_eq_true] at hn
          have hn1 := Nat.le_of_ble_eq_true hn.1
          have hn2 := Nat.le_of_ble_eq_true hn.2
          refine FnX_of_WP hm hf hb hc hr hn1 (S0 := startW (isWide ann) args) ?_ h
          unfold startW
          split
          · intro t s hs
            rw [get_cons] at hs
            split at hs
            · rename_i e
              subst e
              simp only [Option.some.injEq] at hs
              subst hs
              have : ({ tmps := args.toArray ++ Array.replicate (fn.ntmps - args.toArray.size) undef, defers := [] } : Act).tmps.size ≤ wideKey := by simp; omega
              rw [Array.getD_eq_getD_getElem?, Array.getElem?_eq_none this]
              rfl
            · exact start_agree args _ t s hs
          · exact start_agree args _
        · exact h.elim
      · exact h.elim


theorem FnX_of_vc {P : Program} {f : FuncId} {ann : List (Nat × List (Nat × Value))} {args : List Value} {H : Heap} {R X : Value → Heap → Prop} {V : Prop} (hm : P.follows .mixedOrders = true) (e : WalkX P f ann args H R X = V) (h : V) : DoesX P f args H R X :=
  FnX_of_Walk hm (e ▸ h)

end Go.Vc

/-! Words for heaps, as a proof of a contract uses them. -/
namespace Go.Vc

/-- Block b is a row of just these cells, none of them frozen. -/
def Blk (H : Heap) (b : Nat) (cs : List Value) : Prop := ∃ e, H[b]? = some (.cells cs.toArray e)

/-- What was there is as it was, but for the blocks of M. -/
structure Ext (M : List Nat) (H H' : Heap) : Prop where
  size : H.size ≤ H'.size
  keep : ∀ k, k < H.size → k ∉ M → H'[k]? = H[k]?

theorem Ext.refl (M : List Nat) (H : Heap) : Ext M H H := ⟨Nat.le_refl _, fun _ _ _ => rfl⟩
theorem Ext.trans {M : List Nat} {A B C : Heap} (h : Ext M A B) (k : Ext M B C) : Ext M A C :=
  ⟨Nat.le_trans h.size k.size, fun i hi hm => (k.keep i (Nat.lt_of_lt_of_le hi h.size) hm).trans (h.keep i hi hm)⟩
theorem Ext.mono {M M' : List Nat} {A B : Heap} (h : Ext M A B) (hs : ∀ k, k < A.size → k ∈ M → k ∈ M') : Ext M' A B :=
  ⟨h.size, fun i hi hm => h.keep i hi (fun hx => hm (hs i hi hx))⟩
theorem Ext.any {M : List Nat} {A B : Heap} (h : Ext [] A B) : Ext M A B := h.mono fun _ _ hk => by cases hk
/-- What is written beyond what was there is not told. -/
theorem Ext.trans' {M N : List Nat} {A B C : Heap} (h : Ext M A B) (k : Ext N B C) (hn : ∀ i, i ∈ N → A.size ≤ i ∨ i ∈ M) : Ext M A C :=
  ⟨Nat.le_trans h.size k.size, fun i hi hm => (k.keep i (Nat.lt_of_lt_of_le hi h.size) (fun hx => by
    rcases hn i hx with h' | h'
    · omega
    · exact hm h')).trans (h.keep i hi hm)⟩

theorem Blk.lt {H : Heap} {b : Nat} {cs : List Value} (h : Blk H b cs) : b < H.size := by
  obtain ⟨e, h⟩ := h
  exact (Array.getElem?_eq_some_iff.1 h).1

theorem Blk.ext {M : List Nat} {H H' : Heap} {b : Nat} {cs : List Value} (h : Blk H b cs) (he : Ext M H H') (hm : b ∉ M) : Blk H' b cs := by
  have hlt := h.lt
  obtain ⟨e, h⟩ := h
  exact ⟨e, (he.keep b hlt hm).trans h⟩

theorem Blk.cell {H : Heap} {b : Nat} {cs : List Value} (h : Blk H b cs) (o : Nat) : hcell H b o = cs[o]? := by
  obtain ⟨e, h⟩ := h
  simp [hcell, h]

theorem Blk.free {H : Heap} {b : Nat} {cs : List Value} (h : Blk H b cs) (o : Nat) : hfrozen H b o = false := by
  obtain ⟨e, h⟩ := h
  simp [hfrozen, h]

theorem Blk.cells {H : Heap} {b : Nat} {cs : List Value} (h : Blk H b cs) : ∀ (n o : Nat), o + n ≤ cs.length → Cells H b o n
  | 0, _, _ => trivial
  | n + 1, o, hn => ⟨⟨⟨_, by rw [h.cell, List.getElem?_eq_getElem (by omega)]⟩, h.free o⟩, h.cells n (o + 1) (by omega)⟩

theorem New.blk {H H' : Heap} {b : Nat} {vs : List Value} {e : TypeId} (h : New H b vs e H') : Blk H' b vs := by
  obtain ⟨rfl, rfl⟩ := h
  exact ⟨e, by simp⟩
theorem New.ext {H H' : Heap} {b : Nat} {vs : List Value} {e : TypeId} (h : New H b vs e H') : Ext [] H H' := by
  obtain ⟨rfl, rfl⟩ := h
  refine ⟨by simp, fun k hk _ => ?_⟩
  rw [Array.getElem?_push, if_neg (by omega)]
theorem New.eq {H H' : Heap} {b : Nat} {vs : List Value} {e : TypeId} (h : New H b vs e H') : b = H.size := h.1
theorem New.size {H H' : Heap} {b : Nat} {vs : List Value} {e : TypeId} (h : New H b vs e H') : H'.size = H.size + 1 := by
  obtain ⟨rfl, rfl⟩ := h
  simp

/-- Some cells of a row written. -/
def splice (cs : List Value) (o : Nat) (vs : List Value) : List Value := cs.take o ++ vs ++ cs.drop (o + vs.length)

theorem splice_length (cs : List Value) (o : Nat) (vs : List Value) (h : o + vs.length ≤ cs.length) : (splice cs o vs).length = cs.length := by
  simp [splice]; omega

theorem splice_one (cs : List Value) (o : Nat) (v : Value) (h : o < cs.length) : splice cs o [v] = cs.set o v := by
  simp [splice, List.set_eq_take_append_cons_drop, h]

theorem splice_cons (cs : List Value) (o : Nat) (v : Value) (vs : List Value) (h : o + (v :: vs).length ≤ cs.length) : splice (cs.set o v) (o + 1) vs = splice cs o (v :: vs) := by
  simp only [List.length_cons] at h
  have h1 : o < cs.length := by omega
  simp only [splice, List.set_eq_take_append_cons_drop, if_pos h1]
  rw [show List.take (o + 1) (List.take o cs ++ v :: List.drop (o + 1) cs) = List.take o cs ++ [v] by
    rw [List.take_append]
    have : (List.take o cs).length = o := by simp; omega
    rw [this, List.take_of_length_le (by omega), show o + 1 - o = 1 by omega]
    simp]
  rw [show List.drop (o + 1 + vs.length) (List.take o cs ++ v :: List.drop (o + 1) cs) = List.drop (o + (v :: vs).length) cs by
    rw [List.drop_append]
    have : (List.take o cs).length = o := by simp; omega
    rw [this, List.drop_of_length_le (by omega), show o + 1 + vs.length - o = vs.length + 1 by omega]
    simp only [List.nil_append, List.drop_succ_cons, List.drop_drop, List.length_cons]
    congr 1
    omega]
  simp

theorem hset_blk {H : Heap} {b : Nat} {cs : List Value} (h : Blk H b cs) (o : Nat) (v : Value) : Blk (hset H b o v) b (cs.set o v) := by
  obtain ⟨e, h⟩ := h
  refine ⟨e, ?_⟩
  simp only [hset, Array.getElem?_modify, if_pos, h, Option.map_some]
  simp

theorem hset_other {H : Heap} {b o k : Nat} {v : Value} (h : k ≠ b) : (hset H b o v)[k]? = H[k]? := by
  simp only [hset, Array.getElem?_modify]
  rw [if_neg (fun e => h e.symm)]

theorem hset_size {H : Heap} {b o : Nat} {v : Value} : (hset H b o v).size = H.size := by simp [hset]

theorem hsets_ext {H : Heap} {b : Nat} : ∀ (vs : List Value) (o : Nat), Ext [b] H (hsets H b o vs) ∧ (hsets H b o vs).size = H.size
  | [], o => ⟨Ext.refl _ _, rfl⟩
  | v :: r, o => by
    have h1 : Ext [b] H (hset H b o v) := ⟨by rw [hset_size]; exact Nat.le_refl _, fun k _ hk => hset_other (by simpa using hk)⟩
    obtain ⟨h2, h3⟩ := hsets_ext (H := hset H b o v) r (o + 1)
    exact ⟨h1.trans h2, by rw [hsets, h3, hset_size]⟩

theorem hsets_blk {b : Nat} : ∀ (vs : List Value) (o : Nat) (H : Heap) (cs : List Value), Blk H b cs → o + vs.length ≤ cs.length → Blk (hsets H b o vs) b (splice cs o vs)
  | [], o, H, cs, h, _ => by simpa [splice, hsets] using h
  | v :: r, o, H, cs, h, hl => by
    have h1 := hset_blk h o v
    have h2 := hsets_blk r (o + 1) _ _ h1 (by simp at hl ⊢; omega)
    rw [splice_cons _ _ _ _ hl] at h2
    exact h2

theorem Puts.blk {H H' : Heap} {b o : Nat} {vs cs : List Value} (h : Puts H b o vs H') (hb : Blk H b cs) (hl : o + vs.length ≤ cs.length) : Blk H' b (splice cs o vs) := by
  rw [h]; exact hsets_blk vs o H cs hb hl
theorem Puts.ext {H H' : Heap} {b o : Nat} {vs : List Value} (h : Puts H b o vs H') : Ext [b] H H' := by
  rw [h]; exact (hsets_ext vs o).1
theorem Puts.size {H H' : Heap} {b o : Nat} {vs : List Value} (h : Puts H b o vs H') : H'.size = H.size := by
  rw [h]; exact (hsets_ext vs o).2

/-! ### Slices -/

/-- The slice (a, len, cap) is nil, or stands at the head of a block of its own, whose cells are xs and some more. -/
def Own (H : Heap) (size : Nat) (a : Option Addr) (len cap : Nat) (xs : List Value) : Prop :=
  xs.length = len * size ∧ len ≤ cap ∧ cap ≤ maxLen ∧ ((a = none ∧ cap = 0) ∨ ∃ b tail, a = some ⟨b, 0, none⟩ ∧ Blk H b (xs ++ tail) ∧ (xs ++ tail).length = cap * size)

/-- The block of a slice. -/
def blkOf (a : Option Addr) : List Nat := match a with | some ad => [ad.block] | none => []

theorem Own.row {H : Heap} {size : Nat} {a : Option Addr} {len cap : Nat} {xs : List Value} (h : Own H size a len cap xs) (l c : Nat) : SRow H size len (.slice a l c) xs := by
  obtain ⟨h1, h2, h3, h4⟩ := h
  refine ⟨h1, ?_⟩
  rcases h4 with ⟨rfl, rfl⟩ | ⟨b, tail, rfl, hb, _⟩
  · have : len = 0 := by omega
    subst this
    simpa using h1
  · refine ⟨.inr rfl, fun j u hj => ?_⟩
    have hlt : j < xs.length := (List.getElem?_eq_some_iff.1 hj).1
    show hcell H b (0 + j) = some u
    rw [Nat.zero_add, hb.cell, List.getElem?_append_left hlt]
    exact hj

theorem Own.ext {M : List Nat} {H H' : Heap} {size : Nat} {a : Option Addr} {len cap : Nat} {xs : List Value} (h : Own H size a len cap xs) (he : Ext M H H') (hm : ∀ k, k ∈ blkOf a → k ∉ M) : Own H' size a len cap xs := by
  obtain ⟨h1, h2, h3, h4⟩ := h
  refine ⟨h1, h2, h3, ?_⟩
  rcases h4 with h4 | ⟨b, tail, rfl, hb, hl⟩
  · exact .inl h4
  · exact .inr ⟨b, tail, rfl, hb.ext he (hm b (by simp [blkOf])), hl⟩

theorem Own.lt {H : Heap} {size : Nat} {a : Option Addr} {len cap : Nat} {xs : List Value} (h : Own H size a len cap xs) : ∀ k, k ∈ blkOf a → k < H.size := by
  obtain ⟨h1, h2, h3, h4⟩ := h
  rcases h4 with ⟨rfl, _⟩ | ⟨b, tail, rfl, hb, hl⟩
  · intro k hk; cases hk
  · intro k hk
    simp only [blkOf, List.mem_singleton] at hk
    subst hk
    exact hb.lt

theorem Own.nil (H : Heap) (size : Nat) : Own H size none 0 0 [] := ⟨by simp, Nat.le_refl _, by unfold maxLen; omega, .inl ⟨rfl, rfl⟩⟩

theorem Own.of_new {H : Heap} {size len cap b : Nat} {cs : List Value} (hb : Blk H b cs) (hc : cs.length = cap * size) (hl : len ≤ cap) (hm : cap ≤ maxLen) : Own H size (some ⟨b, 0, none⟩) len cap (cs.take (len * size)) := by
  refine ⟨?_, hl, hm, .inr ⟨b, cs.drop (len * size), rfl, by simpa using hb, by simpa using hc⟩⟩
  rw [List.length_take, hc]
  exact Nat.min_eq_left (Nat.mul_le_mul_right _ hl)

theorem hcell_lt {H : Heap} {b o : Nat} {v : Value} (h : hcell H b o = some v) : b < H.size := by
  unfold hcell at h
  cases hb : H[b]? with
  | none => rw [hb] at h; cases h
  | some x => exact (Array.getElem?_eq_some_iff.1 hb).1

theorem hcell_ext {M : List Nat} {H H' : Heap} {b o : Nat} {v : Value} (h : hcell H b o = some v) (he : Ext M H H') (hm : b ∉ M) : hcell H' b o = some v := by
  have hlt := hcell_lt h
  unfold hcell at h ⊢
  rw [he.keep b hlt hm]
  exact h

theorem SRow.ext {M : List Nat} {H H' : Heap} {size n : Nat} {a : Option Addr} {l c : Nat} {xs : List Value} (h : SRow H size n (.slice a l c) xs) (he : Ext M H H') (hm : ∀ k, k ∈ blkOf a → k ∉ M) : SRow H' size n (.slice a l c) xs := by
  obtain ⟨h1, h2⟩ := h
  refine ⟨h1, ?_⟩
  cases a with
  | none => exact h2
  | some ad =>
    obtain ⟨h3, h4⟩ := h2
    refine ⟨h3, fun j u hj => ?_⟩
    exact hcell_ext (h4 j u hj) he (hm _ (by simp [blkOf]))

theorem SRow.cap {H : Heap} {size n : Nat} {a : Option Addr} {l c l' c' : Nat} {xs : List Value} (h : SRow H size n (.slice a l c) xs) : SRow H size n (.slice a l' c') xs := by
  obtain ⟨h1, h2⟩ := h
  refine ⟨h1, ?_⟩
  cases a <;> exact h2

/-- An element of a row of elements of one cell. -/
theorem SRow.get {H : Heap} {n : Nat} {a : Option Addr} {l c : Nat} {xs : List Value} (h : SRow H 1 n (.slice a l c) xs) {j : Nat} {u : Value} (hj : xs[j]? = some u) : ∃ b o, a = some ⟨b, o, none⟩ ∧ hcell H b (o + j) = some u := by
  obtain ⟨h1, h2⟩ := h
  cases a with
  | none => simp only at h2; subst h2; simp at hj
  | some ad =>
    obtain ⟨b, o, sp⟩ := ad
    obtain ⟨h3, h4⟩ := h2
    simp only at h3 h4
    rcases h3 with rfl | rfl
    · simp at hj
    · exact ⟨b, o, rfl, h4 j u hj⟩

/-- **append to a slice of one's own.** -/
theorem App.own {H H' : Heap} {size : Nat} {e : TypeId} {z : List Value} {a : Option Addr} {len cap : Nat} {old news xs : List Value} {n : Nat} {a' : Option Addr} {cap' : Nat} (h : App H size e z a len cap old news n a' cap' H') (ho : Own H size a len cap xs)
    (hro : SRow H size len (.slice a len cap) old) (hn : news.length = n * size) (hz : z.length = size) :
    Own H' size a' (len + n) cap' (xs ++ news) ∧ Ext (blkOf a) H H' ∧ (∀ k, k ∈ blkOf a' → k ∈ blkOf a ∨ H.size ≤ k) := by
  have hxs : old = xs := by
    have h2 := ho.row len cap
    apply List.ext_getElem?
    intro j
    have e1 : old.length = xs.length := by rw [hro.1, h2.1]
    by_cases hj : j < xs.length
    · obtain ⟨_, h3⟩ := hro
      obtain ⟨_, h4⟩ := h2
      cases a with
      | none => simp only at h3 h4; rw [h3, h4]
      | some ad =>
        have h5 := h3.2 j _ (List.getElem?_eq_getElem (by omega))
        have h6 := h4.2 j _ (List.getElem?_eq_getElem hj)
        rw [h6] at h5
        rw [List.getElem?_eq_getElem (by omega), List.getElem?_eq_getElem hj]
        exact h5.symm
    · rw [List.getElem?_eq_none (by omega), List.getElem?_eq_none (by omega)]
  subst hxs
  obtain ⟨o1, o2, o3, o4⟩ := ho
  rcases h with ⟨hle, rfl, rfl, hH⟩ | ⟨hlt, rfl, hge, hm, rfl⟩
  · rcases o4 with ⟨rfl, rfl⟩ | ⟨b, tail, rfl, hb, hl⟩
    · simp only at hH
      subst hH
      have e1 : len = 0 := by omega
      have e2 : n = 0 := by omega
      subst e1; subst e2
      have e3 : old = [] := by simpa using o1
      have e4 : news = [] := by simpa using hn
      subst e3; subst e4
      exact ⟨Own.nil _ _, Ext.refl _ _, fun k hk => .inl hk⟩
    · simp only at hH
      subst hH
      have hfit : len * size + news.length ≤ (old ++ tail).length := by
        rw [hl, hn, ← Nat.add_mul]
        exact Nat.mul_le_mul_right _ hle
      have hb' := hsets_blk news (0 + len * size) H _ hb (by omega)
      have hs : splice (old ++ tail) (0 + len * size) news = (old ++ news) ++ tail.drop news.length := by
        unfold splice
        rw [Nat.zero_add, ← o1, List.take_left', List.drop_append]
        · simp
        · rfl
      rw [hs] at hb'
      refine ⟨⟨by rw [List.length_append, o1, hn, Nat.add_mul], hle, o3, .inr ⟨b, _, rfl, hb', ?_⟩⟩, (hsets_ext news _).1, fun k hk => .inl hk⟩
      rw [← hl]
      rw [List.length_append] at hfit
      simp only [List.length_append, List.length_drop]
      omega
  · have hsz : (List.replicate (cap' - (len + n)) z).flatten.length = (cap' - (len + n)) * size := by simp [hz]
    have hblk : Blk (H.push (.cells (old ++ news ++ (List.replicate (cap' - (len + n)) z).flatten).toArray e)) H.size (old ++ news ++ (List.replicate (cap' - (len + n)) z).flatten) := ⟨e, by simp⟩
    refine ⟨⟨by rw [List.length_append, o1, hn, Nat.add_mul], hge, hm, .inr ⟨H.size, _, rfl, hblk, ?_⟩⟩, ⟨by simp, fun k hk _ => by rw [Array.getElem?_push, if_neg (by omega)]⟩, fun k hk => .inr (by
      simp only [blkOf, List.mem_singleton] at hk
      omega)⟩
    rw [List.length_append, List.length_append, hsz, o1, hn, ← Nat.add_mul, ← Nat.add_mul]
    congr 1
    omega

/-- The cells behind the length of a slice of one's own may be written. -/
theorem Own.room {H : Heap} {size : Nat} {a : Option Addr} {len cap n : Nat} {xs : List Value} (h : Own H size a len cap xs) (hle : len + n ≤ cap) : roomOf H a (len * size) (n * size) := by
  obtain ⟨o1, o2, o3, o4⟩ := h
  rcases o4 with ⟨rfl, _⟩ | ⟨b, tail, rfl, hb, hl⟩
  · trivial
  · refine ⟨rfl, hb.cells _ _ ?_⟩
    rw [hl, Nat.zero_add, ← Nat.add_mul]
    exact Nat.mul_le_mul_right _ hle

theorem wrap_tdiv {x c : Int} (h0 : 0 ≤ x) (hc : 0 < c) (h1 : x ≤ 9223372036854775807) : IntKind.wrap .i64 (Int.tdiv x c) = x / c := by
  rw [Int.tdiv_eq_ediv_of_nonneg h0]
  have h2 : 0 ≤ x / c := Int.ediv_nonneg h0 (Int.le_of_lt hc)
  have h3 : x / c ≤ x := Int.ediv_le_self _ h0
  exact wrap_of_in64 ⟨by omega, by omega⟩

theorem tmod_pos {x c : Int} (h0 : 0 ≤ x) : Int.tmod x c = x % c := Int.tmod_eq_emod_of_nonneg h0

/-- Does, with another word of the end. -/
theorem Does.mono {P : Program} {f : FuncId} {args : List Value} {H : Heap} {R R' : Value → Heap → Prop} (h : Does P f args H R) (hr : ∀ v H', R v H' → R' v H') : Does P f args H R' :=
  fun w hw => (h w hw).mono fun _ _ ⟨v, he, hs, hv⟩ => ⟨v, he, hs, hr v _ hv⟩

def bytesV (xs : List UInt8) : List Value := xs.map fun b => .int .u8 b.toNat

theorem bytesV_length (xs : List UInt8) : (bytesV xs).length = xs.length := by simp [bytesV]
theorem bytesV_get (xs : List UInt8) (j : Nat) (h : j < xs.length) : (bytesV xs)[j]? = some (.int .u8 (xs.getD j 0).toNat) := by
  simp [bytesV, h]
theorem bytesV_set (xs : List UInt8) (j : Nat) (b : UInt8) : bytesV (xs.set j b) = (bytesV xs).set j (.int .u8 b.toNat) := by
  simp [bytesV, List.map_set]
theorem bytesV_one (xs : List UInt8) : ∀ u ∈ bytesV xs, Value.oneCell' u = true := by
  intro u hu
  simp only [bytesV, List.mem_map] at hu
  obtain ⟨b, _, rfl⟩ := hu
  rfl

theorem dec_eq {p q : Prop} {i : Decidable p} {j : Decidable q} (h : p ↔ q) : @decide p i = @decide q j := by
  rw [Bool.eq_iff_iff, decide_eq_true_iff, decide_eq_true_iff]
  exact h

theorem dec_bool {p : Prop} {i : Decidable p} {b : Bool} (h : p ↔ b = true) : @decide p i = b := by
  rw [Bool.eq_iff_iff, decide_eq_true_iff]
  exact h

theorem yes {p : Prop} {i : Decidable p} (h : p) : Value.bool (@decide p i) = .bool true := congrArg Value.bool (@decide_eq_true p i h)

/-- A cell of a row. -/
theorem SRow.at {H : Heap} {size n : Nat} {a : Option Addr} {l c : Nat} {xs : List Value} (h : SRow H size n (.slice a l c) xs) {j : Nat} {u : Value} (hj : xs[j]? = some u) : ∃ b o, a = some ⟨b, o, none⟩ ∧ hcell H b (o + j) = some u := by
  obtain ⟨h1, h2⟩ := h
  cases a with
  | none => simp only at h2; subst h2; simp at hj
  | some ad =>
    obtain ⟨b, o, sp⟩ := ad
    obtain ⟨h3, h4⟩ := h2
    simp only at h3 h4
    rcases h3 with rfl | rfl
    · simp at hj
    · exact ⟨b, o, rfl, h4 j u hj⟩

theorem flatten_at {c : Nat} : ∀ {rows : List (List Value)} {i j : Nat} {r : List Value}, (∀ r ∈ rows, r.length = c) → rows[i]? = some r → j < c → rows.flatten[i * c + j]? = r[j]?
  | [], i, j, r, _, h, _ => by simp at h
  | s :: rows, 0, j, r, hl, h, hj => by
    simp only [List.getElem?_cons_zero, Option.some.injEq] at h
    subst h
    have := hl s (by simp)
    rw [List.flatten_cons, Nat.zero_mul, Nat.zero_add, List.getElem?_append_left (by omega)]
  | s :: rows, i + 1, j, r, hl, h, hj => by
    have := hl s (by simp)
    rw [List.flatten_cons, Nat.add_mul, List.getElem?_append_right (by omega)]
    rw [show i * c + 1 * c + j - s.length = i * c + j by omega]
    exact flatten_at (fun r hr => hl r (by simp [hr])) (by simpa using h) hj

end Go.Vc

section
open Go.RowKit
namespace Go.Vc

theorem Does.below {P : Program} {f : FuncId} {args : List Value} {w : World} (h : Does P f args w.heap fun v H' => v = .bool true ∧ Ext [] w.heap H') :
    Calls P f args.toArray w fun e w' => e = .returned (.bool true) ∧ Below w.heap.size w w' :=
  (h w rfl).mono fun _ w' ⟨_, he, hs, hv, hx⟩ => ⟨by rw [he, hv], ⟨hs.os, hs.tape, hs.output, hx.size, fun k hk => hx.keep k hk (by simp)⟩⟩

end Go.Vc
end

namespace Go.Vc

theorem cell_hcell (w : World) (b o : Nat) : w.cell? ⟨b, o, none⟩ = hcell w.heap b o := by
  unfold World.cell? hcell
  cases w.heap[b]? with
  | none => rfl
  | some x => cases x <;> rfl

theorem add_none (b o n : Nat) : Addr.add ⟨b, o, none⟩ n = ⟨b, o + n, none⟩ := by
  unfold Addr.add
  split
  · subst_vars; rfl
  · rfl

theorem okWide_spot {P : Program} {w : World} {r : Reach} {base : Nat} {t e : TypeId} {a : Option Addr} {len cap : Nat} (ht : P.underlying t = some (.slice e)) (h : Value.okWide P w r base t (.slice a len cap)) : ∀ x, a = some x → x.spot = none := by
  rintro x rfl
  simp only [Value.okWide, ht, Cell.okWide, Cell.ok, World.has] at h
  exact h.2.2.2.1

theorem flat_at {H : Heap} {b o c : Nat} : ∀ (rows : List (List Value)) (k : Nat), (∀ i r, rows[i]? = some r → r.length = c ∧ ∀ j u, r[j]? = some u → hcell H b (o + ((k + i) * c + j)) = some u) →
    rows.flatten.length = rows.length * c ∧ ∀ j u, rows.flatten[j]? = some u → hcell H b (o + (k * c + j)) = some u
  | [], k, _ => by simp
  | r :: rows, k, h => by
    obtain ⟨h1, h2⟩ := h 0 r rfl
    obtain ⟨h3, h4⟩ := flat_at rows (k + 1) (fun i r' hr => by
      have := h (i + 1) r' (by simpa using hr)
      rw [show k + 1 + i = k + (i + 1) by omega]
      exact this)
    refine ⟨by simp only [List.flatten_cons, List.length_append, h1, h3, List.length_cons]; rw [Nat.add_mul]; omega, fun j u hj => ?_⟩
    rw [List.flatten_cons] at hj
    rcases Nat.lt_or_ge j r.length with hl | hl
    · rw [List.getElem?_append_left hl] at hj
      have := h2 j u hj
      simpa using this
    · rw [List.getElem?_append_right hl] at hj
      have := h4 _ u hj
      rw [Nat.add_mul, h1] at this
      rw [h1] at hl
      rw [show k * c + j = k * c + 1 * c + (j - c) by omega]
      exact this

section
variable {H : Type} {enc : TypeId × Value → H} {P : Program} {w : World} {base : Nat} {spare : Nat → Bool} {held : Bool}

theorem trod_rows {t e : TypeId} {c fuel len cap : Nat} {a : Option Addr} {x : DataW H × List MemPlace} (ht : P.underlying t = some (.slice e)) (hc : P.cellsOf e = c) (hsp : ∀ x, a = some x → x.spot = none)
    (h : DataW.trod enc P w base spare held fuel t [.slice a len cap] = some x) :
    ∃ rows : List (List Value), rows.length = len ∧ len ≤ maxLen ∧ (∀ r ∈ rows, ∃ n y, DataW.trod enc P w base spare held n e r = some y) ∧ (∀ r ∈ rows, r.length = c) ∧ SRow w.heap c len (.slice a len cap) rows.flatten := by
  rcases DataW.trod_slice ht h with ⟨h0, _⟩ | ⟨ad, len', cap', elems, rest, n, _, h0, _, hb, hl, hm, hlen, hel, _, _⟩
  · simp only [List.cons.injEq, Value.slice.injEq, and_true] at h0
    obtain ⟨rfl, rfl, rfl⟩ := h0
    exact ⟨[], rfl, Nat.zero_le _, by simp, by simp, by simp, rfl⟩
  · simp only [List.cons.injEq, Value.slice.injEq, and_true] at h0
    obtain ⟨rfl, rfl, rfl⟩ := h0
    obtain ⟨b, o, sp⟩ := ad
    have hs := hsp _ rfl
    simp only at hs
    subst hs
    rw [hc] at hel
    have each : ∀ i, i < len → ∃ r, w.cells? base (Addr.add ⟨b, o, none⟩ (i * c)) c = some r ∧ ∃ y, DataW.trod enc P w base spare held n e r = some y := by
      intro i hi
      have h1 := hel i hi
      rw [List.getElem?_eq_getElem (by omega)] at h1
      cases h2 : w.cells? base (Addr.add ⟨b, o, none⟩ (i * c)) c with
      | none => rw [h2] at h1; cases h1
      | some r => rw [h2] at h1; exact ⟨r, rfl, _, h1⟩
    have row : ∀ i r, w.cells? base (Addr.add ⟨b, o, none⟩ (i * c)) c = some r → r.length = c ∧ ∀ j u, r[j]? = some u → hcell w.heap b (o + (i * c + j)) = some u := by
      intro i r hr
      unfold World.cells? at hr
      split at hr
      · have h2 := Go.mapM_some_length hr
        simp only [List.length_range] at h2
        refine ⟨h2, fun j u hj => ?_⟩
        have hjc : j < c := by have := (List.getElem?_eq_some_iff.1 hj).1; omega
        have h3 := Go.mapM_some_get hr j j (by simp [hjc])
        rw [hj] at h3
        rw [add_none, add_none, cell_hcell, Nat.add_assoc] at h3
        exact h3
      · cases hr
    refine ⟨(List.range len).map fun i => (w.cells? base (Addr.add ⟨b, o, none⟩ (i * c)) c).getD [], by simp, by omega, ?_, ?_, ?_⟩
    · intro r hr
      obtain ⟨i, hi, rfl⟩ := List.mem_map.1 hr
      obtain ⟨r, hr, y, hy⟩ := each i (by simpa using hi)
      rw [hr]
      exact ⟨n, y, hy⟩
    · intro r hr
      obtain ⟨i, hi, rfl⟩ := List.mem_map.1 hr
      obtain ⟨r, hr, y, hy⟩ := each i (by simpa using hi)
      rw [hr]
      exact (row i r hr).1
    · have := flat_at (H := w.heap) (b := b) (o := o) (c := c) ((List.range len).map fun i => (w.cells? base (Addr.add ⟨b, o, none⟩ (i * c)) c).getD []) 0 (by
        intro i r hr
        simp only [List.getElem?_map, Option.map_eq_some_iff] at hr
        obtain ⟨i', hi, rfl⟩ := hr
        have hi2 := List.getElem?_eq_some_iff.1 hi
        obtain ⟨hlt, he⟩ := hi2
        simp only [List.getElem_range] at he
        subst he
        obtain ⟨r, hr, y, hy⟩ := each i (by simpa using hlt)
        rw [hr]
        simpa using row i r hr)
      refine ⟨by simpa using this.1, .inr rfl, fun j u hj => ?_⟩
      have := this.2 j u hj
      simpa using this

theorem rows_map {α : Type} {f : α → List Value} {good : α → Prop} : ∀ (rows : List (List Value)), (∀ r ∈ rows, ∃ x, r = f x ∧ good x) → ∃ xs : List α, rows = xs.map f ∧ ∀ x ∈ xs, good x
  | [], _ => ⟨[], rfl, by simp⟩
  | r :: rows, h => by
    obtain ⟨x, hx, hg⟩ := h r (by simp)
    obtain ⟨xs, h1, h2⟩ := rows_map rows (fun r hr => h r (by simp [hr]))
    exact ⟨x :: xs, by rw [hx, h1]; rfl, by intro y hy; rcases List.mem_cons.1 hy with rfl | hy; exact hg; exact h2 y hy⟩

theorem flatten_single {α : Type} (f : α → Value) : ∀ xs : List α, (xs.map fun x => [f x]).flatten = xs.map f
  | [] => rfl
  | x :: xs => by simp [flatten_single f xs]

theorem arg_ints {t e : TypeId} {k : IntKind} {len cap : Nat} {a : Option Addr} {d : DataW H} {ps : List MemPlace} (ht : P.underlying t = some (.slice e)) (he : P.underlying e = some (.int k)) (hc : P.cellsOf e = 1) (hsp : ∀ x, a = some x → x.spot = none)
    (h : DataW.Trod enc P w base spare held t (.slice a len cap) d ps) :
    ∃ xs : List Int, xs.length = len ∧ len ≤ maxLen ∧ SRow w.heap 1 len (.slice a len cap) (xs.map fun n => .int k n) ∧ ∀ n ∈ xs, (Lit.int k n).wf = true := by
  obtain ⟨fuel, hf⟩ := h
  obtain ⟨rows, h1, h2, h3, _, h5⟩ := trod_rows ht hc hsp hf
  obtain ⟨xs, rfl, h7⟩ := rows_map (f := fun n : Int => [.int k n]) (good := fun n => (Lit.int k n).wf = true) rows (by
    intro r hr
    obtain ⟨n, y, hy⟩ := h3 r hr
    obtain ⟨z, hz, _, hw⟩ := DataW.trod_int he hy
    exact ⟨z, hz, hw⟩)
  rw [flatten_single] at h5
  exact ⟨xs, by simpa using h1, h2, h5, h7⟩

theorem arg_bytes {t e : TypeId} {len cap : Nat} {a : Option Addr} {d : DataW H} {ps : List MemPlace} (ht : P.underlying t = some (.slice e)) (he : P.underlying e = some (.int .u8)) (hc : P.cellsOf e = 1) (hsp : ∀ x, a = some x → x.spot = none)
    (h : DataW.Trod enc P w base spare held t (.slice a len cap) d ps) :
    ∃ xs : List UInt8, xs.length = len ∧ len ≤ maxLen ∧ SRow w.heap 1 len (.slice a len cap) (bytesV xs) := by
  obtain ⟨xs, h1, h2, h3, h4⟩ := arg_ints ht he hc hsp h
  refine ⟨xs.map fun n => UInt8.ofNat n.toNat, by simpa using h1, h2, ?_⟩
  have : bytesV (xs.map fun n => UInt8.ofNat n.toNat) = xs.map fun n => .int .u8 n := by
    unfold bytesV
    rw [List.map_map]
    refine List.map_congr_left fun n hn => ?_
    have := h4 n hn
    simp only [Lit.wf, IntKind.min, IntKind.max, IntKind.signed, IntKind.bits] at this
    simp only [Function.comp, Value.int.injEq, true_and]
    rw [UInt8.toNat_ofNat']
    simp at this
    omega
  rw [this]
  exact h3

theorem wf_i64 {n : Int} (h : (Lit.int .i64 n).wf = true) : -9223372036854775808 ≤ n ∧ n ≤ 9223372036854775807 := by
  simpa [Lit.wf, IntKind.min, IntKind.max, IntKind.signed, IntKind.bits] using h


inductive CK where
  | i (k : IntKind)
  | b
  | s

def CK.ok : CK → Value → Prop
  | .i k, .int k' n => k' = k ∧ (Lit.int k n).wf = true
  | .b, .bool _ => True
  | .s, .string x => x.size ≤ maxLen
  | _, _ => False

def CellsAre : List CK → List Value → Prop
  | [], [] => True
  | c :: cs, v :: vs => c.ok v ∧ CellsAre cs vs
  | _, _ => False

def fieldsK (P : Program) (f : TypeId → Option (List CK)) : Nat → List Field → Option (List CK)
  | _, [] => some []
  | off, fd :: r => match Nat.beq fd.offset off, f fd.type with
    | true, some ks => match Nat.beq ks.length (P.cellsOf fd.type), fieldsK P f (off + P.cellsOf fd.type) r with
      | true, some rs => some (ks ++ rs)
      | _, _ => none
    | _, _ => none

def kindsOf (P : Program) : Nat → TypeId → Option (List CK)
  | 0, _ => none
  | n + 1, t => match P.underlying t with
    | some .bool => some [.b]
    | some (.int k) => some [.i k]
    | some .string => some [.s]
    | some (.struct fs) => match fieldsK P (kindsOf P n) 0 fs.toList with
      | some ks => match Nat.beq ks.length (P.cellsOf t) with
        | true => some ks
        | false => none
      | none => none
    | _ => none

theorem CellsAre.append : ∀ {ks rs : List CK} {a b : List Value}, CellsAre ks a → CellsAre rs b → CellsAre (ks ++ rs) (a ++ b)
  | [], _, [], _, _, h => h
  | _ :: _, _, _ :: _, _, h, h' => ⟨h.1, h.2.append h'⟩

theorem CellsAre.length : ∀ {ks : List CK} {a : List Value}, CellsAre ks a → a.length = ks.length
  | [], [], _ => rfl
  | _ :: _, _ :: _, h => by simp [h.2.length]

theorem fieldsK_sound {f : TypeId → Option (List CK)} {g : TypeId → List Value → Option (DataW H × List MemPlace)} (hf : ∀ t ks cs y, f t = some ks → g t cs = some y → CellsAre ks cs) (cs : List Value) :
    ∀ (fs : List Field) (off : Nat) (ks : List CK), fieldsK P f off fs = some ks → (∀ fd ∈ fs, ∃ y, g fd.type ((cs.drop fd.offset).take (P.cellsOf fd.type)) = some y) → CellsAre ks ((cs.drop off).take ks.length)
  | [], off, ks, h, _ => by
    simp only [fieldsK, Option.some.injEq] at h
    subst h
    simp [CellsAre]
  | fd :: r, off, ks, h, hm => by
    simp only [fieldsK] at h
    split at h
    · rename_i k1 h1 h2
      split at h
      · rename_i rs h3 h4
        simp only [Option.some.injEq] at h
        subst h
        obtain ⟨y, hy⟩ := hm fd (by simp)
        have e1 : fd.offset = off := Nat.eq_of_beq_eq_true h1
        have e3 : k1.length = P.cellsOf fd.type := Nat.eq_of_beq_eq_true h3
        rw [e1] at hy
        have h5 := hf _ _ _ _ h2 hy
        have h6 := fieldsK_sound hf cs r _ rs h4 (fun fd h => hm fd (by simp [h]))
        have e : (cs.drop off).take (k1 ++ rs).length = (cs.drop off).take (P.cellsOf fd.type) ++ (cs.drop (off + P.cellsOf fd.type)).take rs.length := by
          rw [List.length_append, e3, List.take_add, List.drop_drop]
        rw [e]
        exact h5.append h6
      · cases h
    · cases h

theorem kindsOf_sound : ∀ (n : Nat) (t : TypeId) (ks : List CK) (fuel : Nat) (cs : List Value) (y : DataW H × List MemPlace), kindsOf P n t = some ks → DataW.trod enc P w base spare held fuel t cs = some y → CellsAre ks cs
  | 0, _, _, _, _, _, h, _ => by cases h
  | n + 1, t, ks, fuel, cs, y, h, hy => by
    unfold kindsOf at h
    split at h
    · rename_i hu
      simp only [Option.some.injEq] at h; subst h
      obtain ⟨b, rfl, _⟩ := DataW.trod_bool hu hy
      exact ⟨trivial, trivial⟩
    · rename_i k hu
      simp only [Option.some.injEq] at h; subst h
      obtain ⟨z, rfl, _, hw⟩ := DataW.trod_int hu hy
      exact ⟨⟨rfl, hw⟩, trivial⟩
    · rename_i hu
      simp only [Option.some.injEq] at h; subst h
      obtain ⟨z, rfl, _, hw⟩ := DataW.trod_string hu hy
      exact ⟨hw, trivial⟩
    · rename_i fs hu
      split at h
      · rename_i ks' hk
        split at h
        · rename_i hl
          simp only [Option.some.injEq] at h; subst h
          have hl' := Nat.eq_of_beq_eq_true hl
          obtain ⟨xs, m, _, _, hlen, hl2, hm⟩ := DataW.trod_struct hu hy
          have := fieldsK_sound (P := P) (g := fun t cs => DataW.trod enc P w base spare held m t cs) (fun t ks cs y h1 h2 => kindsOf_sound n t ks m cs y h1 h2) cs fs.toList 0 ks' hk (fun fd hfd => by
            obtain ⟨i, hi, he⟩ := List.mem_iff_getElem.1 hfd
            simp only [Array.length_toList] at hi
            have := hm i fd (by rw [Array.getElem?_eq_getElem hi]; simpa using he)
            rw [List.getElem?_eq_getElem (by omega)] at this
            exact ⟨_, this⟩)
          rw [List.drop_zero, List.take_of_length_le (by omega)] at this
          exact this
        · cases h
      · cases h
    · cases h

theorem arg_rows {t e : TypeId} {c n : Nat} {ks : List CK} {len cap : Nat} {a : Option Addr} {d : DataW H} {ps : List MemPlace} (ht : P.underlying t = some (.slice e)) (hk : kindsOf P n e = some ks) (hc : P.cellsOf e = c) (hsp : ∀ x, a = some x → x.spot = none)
    (h : DataW.Trod enc P w base spare held t (.slice a len cap) d ps) :
    ∃ rows : List (List Value), rows.length = len ∧ len ≤ maxLen ∧ SRow w.heap c len (.slice a len cap) rows.flatten ∧ ∀ r ∈ rows, CellsAre ks r := by
  obtain ⟨fuel, hf⟩ := h
  obtain ⟨rows, h1, h2, h3, _, h5⟩ := trod_rows ht hc hsp hf
  exact ⟨rows, h1, h2, h5, fun r hr => by
    obtain ⟨m, y, hy⟩ := h3 r hr
    exact kindsOf_sound n e ks m r y hk hy⟩

end
end Go.Vc

/-! Regions of a heap, and rows of elements of any kind. -/
namespace Go.Vc

/-- What was there is as it was, but for the blocks of which M holds. -/
structure ExtP (M : Nat → Prop) (H H' : Heap) : Prop where
  size : H.size ≤ H'.size
  keep : ∀ k, k < H.size → ¬ M k → H'[k]? = H[k]?

section
variable {M N : Nat → Prop} {A B C H H' : Heap}

theorem Ext.toP {L : List Nat} (h : Ext L H H') : ExtP (fun k => k ∈ L) H H' := ⟨h.size, h.keep⟩
theorem ExtP.refl (M : Nat → Prop) (H : Heap) : ExtP M H H := ⟨Nat.le_refl _, fun _ _ _ => rfl⟩
theorem ExtP.mono (h : ExtP M A B) (hs : ∀ k, k < A.size → M k → N k) : ExtP N A B := ⟨h.size, fun k hk hn => h.keep k hk fun hm => hn (hs k hk hm)⟩
theorem Ext.lift {L : List Nat} (h : Ext L A B) (hs : ∀ k, k < A.size → k ∈ L → N k) : ExtP N A B := h.toP.mono hs
theorem Ext.anyP (h : Ext [] A B) : ExtP N A B := h.lift (by simp)
/-- What is written beyond what was there is not told. -/
theorem ExtP.trans' (h : ExtP M A B) (k : ExtP N B C) (hn : ∀ i, N i → A.size ≤ i ∨ M i) : ExtP M A C :=
  ⟨Nat.le_trans h.size k.size, fun i hi hm => (k.keep i (Nat.lt_of_lt_of_le hi h.size) fun hx => by
    rcases hn i hx with h' | h'
    · omega
    · exact hm h').trans (h.keep i hi hm)⟩
theorem ExtP.trans (h : ExtP M A B) (k : ExtP M B C) : ExtP M A C := h.trans' k fun _ => .inr
theorem Ext.transP (h : Ext [] A B) (k : ExtP M B C) (hn : ∀ i, M i → A.size ≤ i) : Ext [] A C :=
  ⟨Nat.le_trans h.size k.size, fun i hi _ => (k.keep i (Nat.lt_of_lt_of_le hi h.size) fun hx => by
    have := hn i hx; omega).trans (h.keep i hi (by simp))⟩

theorem Blk.extP {b : Nat} {cs : List Value} (h : Blk H b cs) (he : ExtP M H H') (hm : ¬ M b) : Blk H' b cs := by
  have hlt := h.lt
  obtain ⟨e, h⟩ := h
  exact ⟨e, (he.keep b hlt hm).trans h⟩
theorem hcell_extP {b o : Nat} {v : Value} (h : hcell H b o = some v) (he : ExtP M H H') (hm : ¬ M b) : hcell H' b o = some v := by
  have hlt := hcell_lt h
  unfold hcell at h ⊢
  rw [he.keep b hlt hm]
  exact h
theorem SRow.extP {size n : Nat} {a : Option Addr} {l c : Nat} {xs : List Value} (h : SRow H size n (.slice a l c) xs) (he : ExtP M H H') (hm : ∀ k, k ∈ blkOf a → ¬ M k) : SRow H' size n (.slice a l c) xs := by
  obtain ⟨h1, h2⟩ := h
  refine ⟨h1, ?_⟩
  cases a with
  | none => exact h2
  | some ad =>
    obtain ⟨h3, h4⟩ := h2
    refine ⟨h3, fun j u hj => ?_⟩
    exact hcell_extP (h4 j u hj) he (hm _ (by simp [blkOf]))
theorem Own.extP {size : Nat} {a : Option Addr} {len cap : Nat} {xs : List Value} (h : Own H size a len cap xs) (he : ExtP M H H') (hm : ∀ k, k ∈ blkOf a → ¬ M k) : Own H' size a len cap xs := by
  obtain ⟨h1, h2, h3, h4⟩ := h
  refine ⟨h1, h2, h3, ?_⟩
  rcases h4 with h4 | ⟨b, tail, rfl, hb, hl⟩
  · exact .inl h4
  · exact .inr ⟨b, tail, rfl, hb.extP he (hm b (by simp [blkOf])), hl⟩
end

/-- A region, and all that is new since. -/
def grow (F : Nat → Prop) (H H' : Heap) : Nat → Prop := fun k => F k ∨ (H.size ≤ k ∧ k < H'.size)

/-- A kind of elements: of so many cells; 'fp': the blocks that it stands on beside. -/
structure Elem (α : Type) where
  sz : Nat
  pos : 0 < sz
  ok : Heap → List Value → α → Prop
  fp : List Value → List Nat
  len : ∀ {H v x}, ok H v x → v.length = sz
  one : ∀ {H v x}, ok H v x → ∀ u ∈ v, Value.oneCell' u = true
  lt : ∀ {H v x}, ok H v x → ∀ k ∈ fp v, k < H.size
  ext : ∀ {M H H' v x}, ok H v x → ExtP M H H' → (∀ k ∈ fp v, ¬ M k) → ok H' v x

/-- A row of elements of one's own, whose blocks are all in G. -/
def Seq {α : Type} (E : Elem α) (H : Heap) (G : Nat → Prop) (a : Option Addr) (n c : Nat) (xs : List α) : Prop :=
  ∃ vs : List (List Value), Own H E.sz a n c vs.flatten ∧ vs.length = xs.length ∧ ∀ (i : Nat) (x : α), xs[i]? = some x → ∃ v, vs[i]? = some v ∧ E.ok H v x ∧ ∀ k ∈ E.fp v, G k

section
variable {α : Type} {E : Elem α} {H H1 H2 H' : Heap} {G G' M : Nat → Prop} {a a' : Option Addr} {n c c' : Nat} {xs : List α}

theorem flatten_len {c : Nat} : ∀ {rows : List (List Value)}, (∀ r ∈ rows, r.length = c) → rows.flatten.length = rows.length * c
  | [], _ => by simp
  | r :: rows, h => by
    rw [List.flatten_cons, List.length_append, h r (by simp), flatten_len (fun r hr => h r (by simp [hr])), List.length_cons, Nat.add_mul]
    omega

theorem Seq.rows (vs : List (List Value)) (hl : vs.length = xs.length) (h : ∀ (i : Nat) (x : α), xs[i]? = some x → ∃ v, vs[i]? = some v ∧ E.ok H v x ∧ ∀ k ∈ E.fp v, G k) : ∀ r ∈ vs, r.length = E.sz := by
  intro r hr
  obtain ⟨i, hi, rfl⟩ := List.mem_iff_getElem.1 hr
  obtain ⟨v, h1, h2, _⟩ := h i _ (List.getElem?_eq_getElem (by omega))
  rw [List.getElem?_eq_getElem hi, Option.some.injEq] at h1
  rw [h1]
  exact E.len h2

theorem Seq.num (h : Seq E H G a n c xs) : xs.length = n := by
  obtain ⟨vs, h1, h2, h3⟩ := h
  have h4 := flatten_len (Seq.rows vs h2 h3)
  have h5 := h1.1
  rw [h4, h2] at h5
  exact Nat.eq_of_mul_eq_mul_right E.pos h5

theorem Seq.nil (E : Elem α) (H : Heap) (G : Nat → Prop) : Seq E H G none 0 0 [] := ⟨[], Own.nil _ _, rfl, by simp⟩

theorem Seq.cap (h : Seq E H G a n c xs) : n ≤ c ∧ c ≤ maxLen := by
  obtain ⟨vs, h1, h2, h3⟩ := h
  exact ⟨h1.2.1, h1.2.2.1⟩

theorem Seq.lt (h : Seq E H G a n c xs) : ∀ k, k ∈ blkOf a → k < H.size := by
  obtain ⟨vs, h1, h2, h3⟩ := h
  exact h1.lt

theorem Seq.extP (h : Seq E H G a n c xs) (he : ExtP M H H') (h1 : ∀ k, k ∈ blkOf a → ¬ M k) (h2 : ∀ k, G k → ¬ M k) : Seq E H' G a n c xs := by
  obtain ⟨vs, g1, g2, g3⟩ := h
  refine ⟨vs, g1.extP he h1, g2, fun i x hx => ?_⟩
  obtain ⟨v, q1, q2, q3⟩ := g3 i x hx
  exact ⟨v, q1, E.ext q2 he (fun k hk => h2 k (q3 k hk)), q3⟩

theorem Seq.mono (h : Seq E H G a n c xs) (hg : ∀ k, k < H.size → G k → G' k) : Seq E H G' a n c xs := by
  obtain ⟨vs, g1, g2, g3⟩ := h
  refine ⟨vs, g1, g2, fun i x hx => ?_⟩
  obtain ⟨v, q1, q2, q3⟩ := g3 i x hx
  exact ⟨v, q1, q2, fun k hk => hg k (E.lt q2 k hk) (q3 k hk)⟩

/-- An element. -/
theorem Seq.get (h : Seq E H G a n c xs) {i : Nat} {x : α} (hx : xs[i]? = some x) :
    ∃ b o v, a = some ⟨b, o, none⟩ ∧ (∀ j u, v[j]? = some u → hcell H b (o + i * E.sz + j) = some u) ∧ E.ok H v x ∧ ∀ k ∈ E.fp v, G k := by
  obtain ⟨vs, g1, g2, g3⟩ := h
  obtain ⟨v, q1, q2, q3⟩ := g3 i x hx
  have hrows := Seq.rows vs g2 g3
  have hv := E.len q2
  have hpos := E.pos
  have hcell : ∀ j u, v[j]? = some u → ∃ b o, a = some ⟨b, o, none⟩ ∧ hcell H b (o + (i * E.sz + j)) = some u := fun j u hj => by
    have hlt := (List.getElem?_eq_some_iff.1 hj).1
    have := flatten_at hrows q1 (j := j) (by omega)
    rw [hj] at this
    exact (g1.row n c).at this
  obtain ⟨b, o, rfl, _⟩ := hcell 0 _ (List.getElem?_eq_getElem (by omega))
  refine ⟨b, o, v, rfl, fun j u hj => ?_, q2, q3⟩
  obtain ⟨b', o', e, hc⟩ := hcell j u hj
  cases e
  rw [Nat.add_assoc]
  exact hc

/-- An element of one cell. -/
theorem Seq.get1 (h : Seq E H G a n c xs) (h1 : E.sz = 1) {i : Nat} {x : α} (hx : xs[i]? = some x) :
    ∃ b o u, a = some ⟨b, o, none⟩ ∧ hcell H b (o + i) = some u ∧ E.ok H [u] x ∧ ∀ k ∈ E.fp [u], G k := by
  obtain ⟨b, o, v, e, hc, q2, q3⟩ := h.get hx
  have hv := E.len q2
  match v, hv with
  | [u], _ =>
    have := hc 0 u rfl
    rw [h1, Nat.mul_one, Nat.add_zero] at this
    exact ⟨b, o, u, e, this, q2, q3⟩
  | [], hv => simp at hv; omega
  | _ :: _ :: _, hv => simp at hv; omega

theorem flatten_set {c : Nat} : ∀ {rows : List (List Value)} {i : Nat} {r : List Value}, (∀ r ∈ rows, r.length = c) → r.length = c → i < rows.length → splice rows.flatten (i * c) r = (rows.set i r).flatten
  | [], i, r, _, _, h => by simp at h
  | s :: rows, 0, r, hl, hr, _ => by
    have := hl s (by simp)
    rw [List.set_cons_zero, List.flatten_cons, List.flatten_cons, Nat.zero_mul]
    unfold splice
    rw [List.take_zero, List.nil_append, Nat.zero_add, hr, ← this, List.drop_left']
    rfl
  | s :: rows, i + 1, r, hl, hr, h => by
    have hs := hl s (by simp)
    have ih := flatten_set (rows := rows) (i := i) (fun r hr => hl r (by simp [hr])) hr (by simpa using h)
    rw [List.set_cons_succ, List.flatten_cons, List.flatten_cons, ← ih]
    unfold splice
    rw [Nat.add_mul, Nat.one_mul, List.take_append, List.take_of_length_le (by omega), show i * c + c - s.length = i * c by omega, List.drop_append, List.drop_of_length_le (by omega), show i * c + c + r.length - s.length = i * c + r.length by omega]
    simp

theorem splice_append_left {xs ys vs : List Value} {o : Nat} (h : o + vs.length ≤ xs.length) : splice (xs ++ ys) o vs = splice xs o vs ++ ys := by
  unfold splice
  rw [List.take_append_of_le_length (by omega), List.drop_append_of_le_length (by omega), List.append_assoc, List.append_assoc, List.append_assoc]

/-- An element may be written whole. -/
theorem Seq.put (h : Seq E H G a n c xs) {i : Nat} (hi : i < n) (hG : ∀ k, G k → k ∉ blkOf a) :
    ∃ b, a = some ⟨b, 0, none⟩ ∧ Cells H b (0 + i * E.sz) E.sz ∧ ∀ v x H', E.ok H v x → (∀ k ∈ E.fp v, G k) → Puts H b (0 + i * E.sz) v H' → Seq E H' G a n c (xs.set i x) ∧ Ext (blkOf a) H H' := by
  have hnum := h.num
  obtain ⟨vs, g1, g2, g3⟩ := h
  have hrows := Seq.rows vs g2 g3
  have hfl := flatten_len hrows
  obtain ⟨o1, o2, o3, o4⟩ := g1
  have hmul : i * E.sz + E.sz ≤ n * E.sz := by
    have : (i + 1) * E.sz ≤ n * E.sz := Nat.mul_le_mul_right _ hi
    rw [Nat.add_mul] at this
    omega
  have hpos := E.pos
  rcases o4 with ⟨rfl, rfl⟩ | ⟨b, tail, rfl, hb, hbl⟩
  · omega
  · have hin : 0 + i * E.sz + E.sz ≤ (vs.flatten ++ tail).length := by rw [List.length_append]; omega
    refine ⟨b, rfl, hb.cells _ _ hin, fun v x H' hv hf hp => ?_⟩
    have hvl := E.len hv
    have hb2 := hp.blk hb (by omega)
    have he : Ext (blkOf (some ⟨b, 0, none⟩)) H H' := hp.ext
    rw [Nat.zero_add, splice_append_left (by omega), flatten_set hrows hvl (by omega)] at hb2
    have hlen2 : (vs.set i v).flatten.length = vs.flatten.length := by
      rw [flatten_len (c := E.sz), hfl, List.length_set]
      intro r hr
      rcases List.mem_or_eq_of_mem_set hr with hr | rfl
      · exact hrows r hr
      · exact hvl
    refine ⟨⟨vs.set i v, ⟨by rw [hlen2]; exact o1, o2, o3, .inr ⟨b, tail, rfl, hb2, by rw [List.length_append, hlen2, ← hbl, List.length_append]⟩⟩, by simp [g2], fun j y hy => ?_⟩, he⟩
    by_cases e : i = j
    · subst e
      rw [List.getElem?_set_self (by omega), Option.some.injEq] at hy
      subst hy
      exact ⟨v, by rw [List.getElem?_set_self (by omega)], E.ext hv he.toP (fun k hk hk' => hG k (hf k hk) hk'), hf⟩
    · rw [List.getElem?_set_ne e] at hy
      obtain ⟨w, q1, q2, q3⟩ := g3 j y hy
      exact ⟨w, by rw [List.getElem?_set_ne e]; exact q1, E.ext q2 he.toP (fun k hk hk' => hG k (q3 k hk) hk'), q3⟩

theorem Seq.put1 (h : Seq E H G a n c xs) (h1 : E.sz = 1) {i : Nat} (hi : i < n) (hG : ∀ k, G k → k ∉ blkOf a) :
    ∃ b, a = some ⟨b, 0, none⟩ ∧ Cells H b (0 + i) 1 ∧ ∀ u x H', E.ok H [u] x → (∀ k ∈ E.fp [u], G k) → Puts H b (0 + i) [u] H' → Seq E H' G a n c (xs.set i x) ∧ Ext (blkOf a) H H' := by
  obtain ⟨b, e, hc, hp⟩ := h.put hi hG
  rw [h1, Nat.mul_one] at hc hp
  exact ⟨b, e, hc, fun u x H' => hp [u] x H'⟩

/-- One element appended. -/
theorem Seq.push (h : Seq E H G a n c xs) (hG : ∀ k, G k → k ∉ blkOf a) {w : Nat} {e e' : TypeId} {z v : List Value} {x : α} (hv : E.ok H v x) (hf : ∀ k ∈ E.fp v, G k) (hz : z.length = E.sz) (hw : (n + 1) * w ≤ 140737488355328)
    {R : Option Addr → Nat → Heap → Prop} (k : ∀ a' c' H', Seq E H' G a' (n + 1) c' (xs ++ [x]) → Ext (blkOf a) H H' → (∀ k, k ∈ blkOf a' → k ∈ blkOf a ∨ H.size ≤ k) → R a' c' H') (b : Nat) (H2 : Heap) (hn : New H b v e H2) :
    ∃ old news : List Value, SRow H2 E.sz n (.slice a n c) old ∧ SRow H2 E.sz 1 (.slice (some ⟨b, 0, none⟩) 1 1) news ∧ (∀ u ∈ news, Value.oneCell' u = true) ∧ (n + 1) * w ≤ 140737488355328 ∧
      (n + 1 ≤ c → roomOf H2 a (n * E.sz) (1 * E.sz)) ∧ ∀ a' c' H', App H2 E.sz e' z a n c old news 1 a' c' H' → R a' c' H' := by
  obtain ⟨vs, g1, g2, g3⟩ := h
  have hx := hn.ext
  have ho2 := g1.ext hx (by simp)
  have hb := hn.blk
  have hvl := E.len hv
  refine ⟨vs.flatten, v, ho2.row n c, ⟨by omega, .inr rfl, fun j u hj => ?_⟩, E.one hv, hw, fun hle => ho2.room hle, fun a' c' H' happ => ?_⟩
  · show hcell H2 b (0 + j) = some u
    rw [Nat.zero_add, hb.cell]
    exact hj
  · obtain ⟨q1, q2, q3⟩ := happ.own ho2 (ho2.row n c) (by omega) hz
    have hs := hn.size
    have hxx : Ext (blkOf a) H H' := hx.any.trans q2
    refine k a' c' H' ⟨vs ++ [v], by rw [List.flatten_append]; simpa using q1, by simp [g2], fun i y hy => ?_⟩ hxx (fun i hi => by
      rcases q3 i hi with h | h
      · exact .inl h
      · exact .inr (by omega))
    have keep : ∀ {w y}, E.ok H w y → (∀ k ∈ E.fp w, G k) → E.ok H' w y := fun h1 h2 => E.ext h1 hxx.toP (fun k hk hk' => hG k (h2 k hk) hk')
    by_cases hlt : i < xs.length
    · rw [List.getElem?_append_left hlt] at hy
      obtain ⟨w, r1, r2, r3⟩ := g3 i y hy
      exact ⟨w, by rw [List.getElem?_append_left (by omega)]; exact r1, keep r2 r3, r3⟩
    · rw [List.getElem?_append_right (by omega)] at hy
      have e : i - xs.length = 0 := by
        have := (List.getElem?_eq_some_iff.1 hy).1
        simp at this; omega
      rw [e] at hy
      simp only [List.getElem?_cons_zero, Option.some.injEq] at hy
      subst hy
      exact ⟨v, by rw [List.getElem?_append_right (by omega), g2, e]; rfl, keep hv hf, hf⟩

/-- The cells, to be laid somewhere else. -/
theorem Seq.copy (h : Seq E H G a n c xs) : ∃ flat, Own H E.sz a n c flat ∧ (∀ u ∈ flat, Value.oneCell' u = true) ∧
    ∀ {M H2 a' c'}, Own H2 E.sz a' n c' flat → ExtP M H H2 → (∀ k, G k → ¬ M k) → Seq E H2 G a' n c' xs := by
  obtain ⟨vs, g1, g2, g3⟩ := h
  refine ⟨vs.flatten, g1, fun u hu => ?_, fun ho hx hm => ⟨vs, ho, g2, fun i x hi => ?_⟩⟩
  · obtain ⟨r, hr, hu⟩ := List.mem_flatten.1 hu
    obtain ⟨i, hi, rfl⟩ := List.mem_iff_getElem.1 hr
    obtain ⟨v, q1, q2, _⟩ := g3 i _ (List.getElem?_eq_getElem (by omega))
    rw [List.getElem?_eq_getElem hi, Option.some.injEq] at q1
    rw [q1] at hu
    exact E.one q2 u hu
  · obtain ⟨v, q1, q2, q3⟩ := g3 i x hi
    exact ⟨v, q1, E.ext q2 hx (fun k hk => hm k (q3 k hk)), q3⟩

end
end Go.Vc

/-! Rows with slices of bytes within. -/
namespace Go.Vc

inductive CY where
  | c (k : CK)
  | y

def CY.ok (H : Heap) : CY → Value → Prop
  | .c k, v => k.ok v
  | .y, v => ∃ a len cap xs, v = .slice a len cap ∧ xs.length = len ∧ len ≤ maxLen ∧ SRow H 1 len (.slice a len cap) (bytesV xs)

def CellsIn (H : Heap) : List CY → List Value → Prop
  | [], [] => True
  | c :: cs, v :: vs => c.ok H v ∧ CellsIn H cs vs
  | _, _ => False

theorem CellsIn.append {H : Heap} : ∀ {ks rs : List CY} {a b : List Value}, CellsIn H ks a → CellsIn H rs b → CellsIn H (ks ++ rs) (a ++ b)
  | [], _, [], _, _, h => h
  | _ :: _, _, _ :: _, _, h, h' => ⟨h.1, h.2.append h'⟩

theorem CellsIn.length {H : Heap} : ∀ {ks : List CY} {a : List Value}, CellsIn H ks a → a.length = ks.length
  | [], [], _ => rfl
  | _ :: _, _ :: _, h => by simp [h.2.length]

theorem CellsIn.of {H : Heap} : ∀ {ks : List CK} {a : List Value}, CellsAre ks a → CellsIn H (ks.map .c) a
  | [], [], _ => trivial
  | _ :: _, _ :: _, h => ⟨h.1, CellsIn.of h.2⟩

def fieldsY (P : Program) (f : TypeId → Option (List CY)) : Nat → List Field → Option (List CY)
  | _, [] => some []
  | off, fd :: r => match Nat.beq fd.offset off, f fd.type with
    | true, some ks => match Nat.beq ks.length (P.cellsOf fd.type), fieldsY P f (off + P.cellsOf fd.type) r with
      | true, some rs => some (ks ++ rs)
      | _, _ => none
    | _, _ => none

def kindsY (P : Program) : Nat → TypeId → Option (List CY)
  | 0, _ => none
  | n + 1, t => match P.underlying t with
    | some (.struct fs) => match fieldsY P (kindsY P n) 0 fs.toList with
      | some ks => match Nat.beq ks.length (P.cellsOf t) with
        | true => some ks
        | false => none
      | none => none
    | some (.slice e) => match P.underlying e, Nat.beq (P.cellsOf e) 1 with
      | some (.int .u8), true => some [.y]
      | _, _ => none
    | _ => (kindsOf P 1 t).map fun l => l.map .c

section
variable {H : Type} {enc : TypeId × Value → H} {P : Program} {w : World} {base : Nat} {spare : Nat → Bool} {held : Bool}

theorem inner_bytes {t e : TypeId} {fuel : Nat} {cs : List Value} {y : DataW H × List MemPlace} (ht : P.underlying t = some (.slice e)) (he : P.underlying e = some (.int .u8)) (hc : P.cellsOf e = 1)
    (h : DataW.trod enc P w base spare held fuel t cs = some y) : CellsIn w.heap [.y] cs := by
  have h' := h
  rcases DataW.trod_slice ht h with ⟨rfl, _⟩ | ⟨ad, len, cap, elems, rest, n, _, rfl, _, hb, hl, hm, hlen, hel, _, _⟩
  · exact ⟨⟨none, 0, 0, [], rfl, rfl, Nat.zero_le _, rfl, rfl⟩, trivial⟩
  · by_cases h0 : len = 0
    · subst h0
      exact ⟨⟨some ad, 0, cap, [], rfl, rfl, Nat.zero_le _, rfl, .inl rfl, fun j u hj => by simp [bytesV] at hj⟩, trivial⟩
    · have hsp : ∀ x, some ad = some x → x.spot = none := by
        rintro x ⟨rfl⟩
        have h1 := hel 0 (by omega)
        rw [List.getElem?_eq_getElem (by omega), hc] at h1
        cases h2 : w.cells? base (ad.add (0 * 1)) 1 with
        | none => rw [h2] at h1; cases h1
        | some r =>
          unfold World.cells? at h2
          split at h2
          · have h3 := Go.mapM_some_length h2
            simp only [List.length_range] at h3
            have h4 := Go.mapM_some_get h2 0 0 (by simp)
            rw [List.getElem?_eq_getElem (by omega)] at h4
            have e0 : (ad.add (0 * 1)).add 0 = ad := by simp [Addr.add]
            rw [e0] at h4
            unfold World.cell? at h4
            split at h4
            · split at h4
              · cases h4
              · rename_i hs
                simpa using hs
            · cases h4
          · cases h2
      obtain ⟨xs, q1, q2, q3⟩ := arg_bytes ht he hc hsp ⟨fuel, h'⟩
      exact ⟨⟨some ad, len, cap, xs, rfl, q1, q2, q3⟩, trivial⟩

theorem fieldsY_sound {f : TypeId → Option (List CY)} {g : TypeId → List Value → Option (DataW H × List MemPlace)} {M : Heap} (hf : ∀ t ks cs y, f t = some ks → g t cs = some y → CellsIn M ks cs) (cs : List Value) :
    ∀ (fs : List Field) (off : Nat) (ks : List CY), fieldsY P f off fs = some ks → (∀ fd ∈ fs, ∃ y, g fd.type ((cs.drop fd.offset).take (P.cellsOf fd.type)) = some y) → CellsIn M ks ((cs.drop off).take ks.length)
  | [], off, ks, h, _ => by
    simp only [fieldsY, Option.some.injEq] at h
    subst h
    simp [CellsIn]
  | fd :: r, off, ks, h, hm => by
    simp only [fieldsY] at h
    split at h
    · rename_i k1 h1 h2
      split at h
      · rename_i rs h3 h4
        simp only [Option.some.injEq] at h
        subst h
        obtain ⟨y, hy⟩ := hm fd (by simp)
        have e1 : fd.offset = off := Nat.eq_of_beq_eq_true h1
        have e3 : k1.length = P.cellsOf fd.type := Nat.eq_of_beq_eq_true h3
        rw [e1] at hy
        have h5 := hf _ _ _ _ h2 hy
        have h6 := fieldsY_sound hf cs r _ rs h4 (fun fd h => hm fd (by simp [h]))
        have e : (cs.drop off).take (k1 ++ rs).length = (cs.drop off).take (P.cellsOf fd.type) ++ (cs.drop (off + P.cellsOf fd.type)).take rs.length := by
          rw [List.length_append, e3, List.take_add, List.drop_drop]
        rw [e]
        exact h5.append h6
      · cases h
    · cases h

theorem kindsY_sound : ∀ (n : Nat) (t : TypeId) (ks : List CY) (fuel : Nat) (cs : List Value) (y : DataW H × List MemPlace), kindsY P n t = some ks → DataW.trod enc P w base spare held fuel t cs = some y → CellsIn w.heap ks cs
  | 0, _, _, _, _, _, h, _ => by cases h
  | n + 1, t, ks, fuel, cs, y, h, hy => by
    unfold kindsY at h
    split at h
    · rename_i fs hu
      split at h
      · rename_i ks' hk
        split at h
        · rename_i hl
          simp only [Option.some.injEq] at h; subst h
          have hl' := Nat.eq_of_beq_eq_true hl
          obtain ⟨xs, m, _, _, hlen, hl2, hm⟩ := DataW.trod_struct hu hy
          have := fieldsY_sound (P := P) (g := fun t cs => DataW.trod enc P w base spare held m t cs) (fun t ks cs y h1 h2 => kindsY_sound n t ks m cs y h1 h2) cs fs.toList 0 ks' hk (fun fd hfd => by
            obtain ⟨i, hi, he⟩ := List.mem_iff_getElem.1 hfd
            simp only [Array.length_toList] at hi
            have := hm i fd (by rw [Array.getElem?_eq_getElem hi]; simpa using he)
            rw [List.getElem?_eq_getElem (by omega)] at this
            exact ⟨_, this⟩)
          rw [List.drop_zero, List.take_of_length_le (by omega)] at this
          exact this
        · cases h
      · cases h
    · rename_i e hu
      split at h
      · rename_i hue hc
        simp only [Option.some.injEq] at h; subst h
        exact inner_bytes hu hue (Nat.eq_of_beq_eq_true hc) hy
      · cases h
    · simp only [Option.map_eq_some_iff] at h
      obtain ⟨l, hl, rfl⟩ := h
      exact CellsIn.of (kindsOf_sound 1 t l fuel cs y hl hy)

theorem arg_rowsY {t e : TypeId} {c n : Nat} {ks : List CY} {len cap : Nat} {a : Option Addr} {d : DataW H} {ps : List MemPlace} (ht : P.underlying t = some (.slice e)) (hk : kindsY P n e = some ks) (hc : P.cellsOf e = c) (hsp : ∀ x, a = some x → x.spot = none)
    (h : DataW.Trod enc P w base spare held t (.slice a len cap) d ps) :
    ∃ rows : List (List Value), rows.length = len ∧ len ≤ maxLen ∧ SRow w.heap c len (.slice a len cap) rows.flatten ∧ ∀ r ∈ rows, CellsIn w.heap ks r := by
  obtain ⟨fuel, hf⟩ := h
  obtain ⟨rows, h1, h2, h3, _, h5⟩ := trod_rows ht hc hsp hf
  exact ⟨rows, h1, h2, h5, fun r hr => by
    obtain ⟨m, y, hy⟩ := h3 r hr
    exact kindsY_sound n e ks m r y hk hy⟩
end
end Go.Vc

namespace Go.Vc
open Go.ChangeShapes Go.WideShapes

section
variable {H : Type} {enc : TypeId × Value → H} {P : Program} {w : World} {base : Nat} {spare : Nat → Bool} {held : Bool}

theorem trod_float {t : TypeId} {k : FloatKind} {fuel : Nat} {cs : List Value} {x : DataW H × List MemPlace} (ht : P.underlying t = some (.float k)) (h : DataW.trod enc P w base spare held fuel t cs = some x) : ∃ n, cs = [.float k n] ∧ x = (.lit (.float k n), []) ∧ (Lit.float k n).wf = true := by
  cases fuel with
  | zero => simp [DataW.trod] at h
  | succ n =>
    unfold DataW.trod at h
    rw [ht] at h
    split at h <;> simp_all

theorem arg_floats {t e : TypeId} {k : FloatKind} {len cap : Nat} {a : Option Addr} {d : DataW H} {ps : List MemPlace} (ht : P.underlying t = some (.slice e)) (he : P.underlying e = some (.float k)) (hc : P.cellsOf e = 1) (hsp : ∀ x, a = some x → x.spot = none)
    (h : DataW.Trod enc P w base spare held t (.slice a len cap) d ps) :
    ∃ xs : List Nat, xs.length = len ∧ len ≤ maxLen ∧ SRow w.heap 1 len (.slice a len cap) (xs.map fun n => .float k n) ∧ ∀ n ∈ xs, (Lit.float k n).wf = true := by
  obtain ⟨fuel, hf⟩ := h
  obtain ⟨rows, h1, h2, h3, _, h5⟩ := trod_rows ht hc hsp hf
  obtain ⟨xs, rfl, h7⟩ := rows_map (f := fun n : Nat => [.float k n]) (good := fun n => (Lit.float k n).wf = true) rows (by
    intro r hr
    obtain ⟨n, y, hy⟩ := h3 r hr
    obtain ⟨z, hz, _, hw⟩ := trod_float he hy
    exact ⟨z, hz, hw⟩)
  rw [flatten_single] at h5
  exact ⟨xs, by simpa using h1, h2, h5, h7⟩
end
end Go.Vc

section
/-! A slice's length, out of the form's reach. -/
namespace Go.Vc
open Go

section
variable {H : Type} {enc : TypeId × Value → H} {P : Program} {w : World} {base : Nat} {spare : Nat → Bool} {held : Bool}

theorem arg_size {t e : TypeId} {len cap : Nat} {a : Option Addr} {d : DataW H} {ps : List MemPlace} (ht : P.underlying t = some (.slice e)) (h : DataW.Trod enc P w base spare held t (.slice a len cap) d ps)
    (hz : ∀ n ∈ d.weights P t, n ≤ reachBytes) : len ≤ cap ∧ len * P.bytesOf e ≤ reachBytes := by
  obtain ⟨fuel, hf⟩ := h
  rcases DataW.trod_slice ht hf with ⟨h0, _⟩ | ⟨ad, len', cap', elems, rest, n, _, h0, hx, _, hl, _, hlen, _⟩
  · have h0 : [Value.slice a len cap] = [.slice none 0 0] := h0
    simp only [List.cons.injEq, Value.slice.injEq, and_true] at h0
    obtain ⟨_, rfl, rfl⟩ := h0
    exact ⟨Nat.le_refl _, by simp⟩
  · have h0 : [Value.slice a len cap] = [.slice (some ad) len' cap'] := h0
    simp only [List.cons.injEq, Value.slice.injEq, and_true] at h0
    obtain ⟨_, rfl, rfl⟩ := h0
    refine ⟨hl, ?_⟩
    simp only [Prod.mk.injEq] at hx
    have := hz ((elems.length + rest.length) * P.bytesOf e) (by rw [hx.1]; simp [DataW.weights, ht])
    rw [hlen] at this
    exact Nat.le_trans (Nat.mul_le_mul_right _ (Nat.le_add_right _ _)) this
end
end Go.Vc
end

section
/-! Readings of arguments, of any depth: a reading of a type's cells is a property of a heap and of the cells. -/
namespace Go.Vc
open Go Go.ChangeShapes Go.WideShapes

abbrev Rd := Heap → List Value → Prop

def KInt (k : IntKind) : Rd := fun _ cs => ∃ n, cs = [.int k n] ∧ (Lit.int k n).wf = true
def KBool : Rd := fun _ cs => ∃ b, cs = [.bool b]
def KStr : Rd := fun _ cs => ∃ s, cs = [.string s] ∧ s.size ≤ maxLen
def KFlo (k : FloatKind) : Rd := fun _ cs => ∃ n, cs = [.float k n] ∧ (Lit.float k n).wf = true
def KAll : List (Nat × Rd) → Rd
  | [], _, cs => cs = []
  | (c, R) :: r, H, cs => (cs.take c).length = c ∧ R H (cs.take c) ∧ KAll r H (cs.drop c)
def KSlice (c : Nat) (R : Rd) : Rd := fun H cs => ∃ (a : Option Addr) (len cap : Nat) (rows : List (List Value)), cs = [.slice a len cap] ∧ rows.length = len ∧ len ≤ maxLen ∧ (∀ r ∈ rows, r.length = c) ∧ SRow H c len (.slice a len cap) rows.flatten ∧ ∀ r ∈ rows, R H r
def KBytes : Rd := fun H cs => ∃ (a : Option Addr) (len cap : Nat) (xs : List UInt8), cs = [.slice a len cap] ∧ xs.length = len ∧ len ≤ maxLen ∧ SRow H 1 len (.slice a len cap) (bytesV xs)
def KInts (k : IntKind) : Rd := fun H cs => ∃ (a : Option Addr) (len cap : Nat) (xs : List Int), cs = [.slice a len cap] ∧ xs.length = len ∧ len ≤ maxLen ∧ SRow H 1 len (.slice a len cap) (xs.map fun n => .int k n) ∧ ∀ n ∈ xs, (Lit.int k n).wf = true

/-- What a reading of the form gives. -/
def Sound (P : Program) (t : TypeId) (R : Rd) : Prop :=
  ∀ (H : Type) (enc : TypeId × Value → H) (w : World) (base : Nat) (spare : Nat → Bool) (held : Bool) (fuel : Nat) (cs : List Value) (y : DataW H × List MemPlace), DataW.trod enc P w base spare held fuel t cs = some y → R w.heap cs

theorem sound_int {P : Program} {t : TypeId} {k : IntKind} (ht : P.underlying t = some (.int k)) : Sound P t (KInt k) := by
  intro H enc w base spare held fuel cs y h
  obtain ⟨z, hz, _, hw⟩ := DataW.trod_int ht h
  exact ⟨z, hz, hw⟩
theorem sound_bool {P : Program} {t : TypeId} (ht : P.underlying t = some .bool) : Sound P t KBool := by
  intro H enc w base spare held fuel cs y h
  obtain ⟨b, hb, _⟩ := DataW.trod_bool ht h
  exact ⟨b, hb⟩
theorem sound_str {P : Program} {t : TypeId} (ht : P.underlying t = some .string) : Sound P t KStr := by
  intro H enc w base spare held fuel cs y h
  obtain ⟨z, hz, _, hw⟩ := DataW.trod_string ht h
  exact ⟨z, hz, hw⟩
theorem sound_flo {P : Program} {t : TypeId} {k : FloatKind} (ht : P.underlying t = some (.float k)) : Sound P t (KFlo k) := by
  intro H enc w base spare held fuel cs y h
  obtain ⟨z, hz, _, hw⟩ := trod_float ht h
  exact ⟨z, hz, hw⟩

/-- Fields that are read so. -/
def FieldsS (P : Program) : Nat → List Field → List (Nat × Rd) → Prop
  | _, [], [] => True
  | off, fd :: fs, (c, R) :: l => fd.offset = off ∧ P.cellsOf fd.type = c ∧ Sound P fd.type R ∧ FieldsS P (off + c) fs l
  | _, _, _ => False
theorem FieldsS.nil {P : Program} {off : Nat} : FieldsS P off [] [] := trivial
theorem FieldsS.cons {P : Program} {off : Nat} {fd : Field} {fs : List Field} {c : Nat} {R : Rd} {l : List (Nat × Rd)} (h1 : fd.offset = off) (h2 : P.cellsOf fd.type = c) (h3 : Sound P fd.type R) (h4 : FieldsS P (off + c) fs l) : FieldsS P off (fd :: fs) ((c, R) :: l) := ⟨h1, h2, h3, h4⟩
def total : List (Nat × Rd) → Nat
  | [] => 0
  | p :: l => p.1 + total l
theorem fields_sound {P : Program} {M : Heap} {g : TypeId → List Value → Prop} (cs : List Value) : ∀ (fs : List Field) (off : Nat) (l : List (Nat × Rd)), FieldsS P off fs l → (∀ fd ∈ fs, ∀ R : Rd, Sound P fd.type R → R M ((cs.drop fd.offset).take (P.cellsOf fd.type))) → off + total l = cs.length → KAll l M (cs.drop off)
  | [], off, [], _, _, hl => by simp only [total] at hl; exact List.drop_eq_nil_of_le (by omega)
  | fd :: fs, off, (c, R) :: l, h, hm, hl => by
    obtain ⟨h1, h2, h3, h4⟩ := h
    simp only [total] at hl
    have := hm fd (by simp) R h3
    rw [h1, h2] at this
    refine ⟨by rw [List.length_take, List.length_drop]; omega, this, ?_⟩
    rw [List.drop_drop]
    exact fields_sound (g := g) cs fs (off + c) l h4 (fun fd hfd => hm fd (by simp [hfd])) (by omega)
  | [], _, _ :: _, h, _, _ => h.elim
  | _ :: _, _, [], h, _, _ => h.elim
theorem sound_struct {P : Program} {t : TypeId} {fs : Array Field} {l : List (Nat × Rd)} (ht : P.underlying t = some (.struct fs)) (hc : P.cellsOf t = total l) (hf : FieldsS P 0 fs.toList l) : Sound P t (KAll l) := by
  intro H enc w base spare held fuel cs y h
  obtain ⟨xs, m, _, _, hlen, hl2, hm⟩ := DataW.trod_struct ht h
  have := fields_sound (P := P) (M := w.heap) (g := fun _ _ => True) cs fs.toList 0 l hf (fun fd hfd R hR => by
    obtain ⟨i, hi, he⟩ := List.mem_iff_getElem.1 hfd
    simp only [Array.length_toList] at hi
    have := hm i fd (by rw [Array.getElem?_eq_getElem hi]; simpa using he)
    rw [List.getElem?_eq_getElem (by omega)] at this
    exact hR H enc w base spare held m _ _ this) (by omega)
  rw [List.drop_zero] at this
  exact this

theorem slice_spot {H : Type} {enc : TypeId × Value → H} {P : Program} {w : World} {base : Nat} {spare : Nat → Bool} {held : Bool} {t e : TypeId} {fuel : Nat} {cs : List Value} {y : DataW H × List MemPlace} {c : Nat} (ht : P.underlying t = some (.slice e)) (hc : P.cellsOf e = c) (hc0 : 0 < c)
    (h : DataW.trod enc P w base spare held fuel t cs = some y) : ∃ a len cap, cs = [.slice a len cap] ∧ (len = 0 ∨ ∀ x, a = some x → x.spot = none) := by
  rcases DataW.trod_slice ht h with ⟨rfl, _⟩ | ⟨ad, len, cap, elems, rest, n, _, rfl, _, hb, hl, hm, hlen, hel, _, _⟩
  · exact ⟨none, 0, 0, rfl, .inl rfl⟩
  · refine ⟨some ad, len, cap, rfl, ?_⟩
    by_cases h0 : len = 0
    · exact .inl h0
    · right
      rintro x ⟨rfl⟩
      have h1 := hel 0 (by omega)
      rw [List.getElem?_eq_getElem (by omega), hc] at h1
      cases h2 : w.cells? base (ad.add (0 * c)) c with
      | none => rw [h2] at h1; cases h1
      | some r =>
        unfold World.cells? at h2
        split at h2
        · have h3 := Go.mapM_some_length h2
          simp only [List.length_range] at h3
          have h4 := Go.mapM_some_get h2 0 0 (by simp [hc0])
          rw [List.getElem?_eq_getElem (by omega)] at h4
          have e0 : (ad.add (0 * c)).add 0 = ad := by simp [Addr.add]
          rw [e0] at h4
          unfold World.cell? at h4
          split at h4
          · split at h4
            · cases h4
            · rename_i hs
              simpa using hs
          · cases h4
        · cases h2

theorem sound_slice {P : Program} {t e : TypeId} {c : Nat} {R : Rd} (ht : P.underlying t = some (.slice e)) (hc : P.cellsOf e = c) (hc0 : 0 < c) (hs : Sound P e R) : Sound P t (KSlice c R) := by
  intro H enc w base spare held fuel cs y h
  obtain ⟨a, len, cap, rfl, h0 | hsp⟩ := slice_spot ht hc hc0 h
  · subst h0
    refine ⟨a, 0, cap, [], rfl, rfl, Nat.zero_le _, by simp, ⟨by simp, ?_⟩, by simp⟩
    cases a with
    | none => rfl
    | some x => exact ⟨.inl rfl, fun j u hj => by simp at hj⟩
  · obtain ⟨rows, h1, h2, h3, h4, h5⟩ := trod_rows ht hc hsp h
    refine ⟨a, len, cap, rows, rfl, h1, h2, h4, h5, fun r hr => ?_⟩
    obtain ⟨n, y', hy⟩ := h3 r hr
    exact hs H enc w base spare held n r y' hy

theorem sound_ints {P : Program} {t e : TypeId} {k : IntKind} (ht : P.underlying t = some (.slice e)) (he : P.underlying e = some (.int k)) (hc : P.cellsOf e = 1) : Sound P t (KInts k) := by
  intro H enc w base spare held fuel cs y h
  obtain ⟨a, len, cap, rows, rfl, h1, h2, h3, h4, h5⟩ := sound_slice ht hc (by decide) (sound_int he) H enc w base spare held fuel cs y h
  obtain ⟨xs, rfl, h7⟩ := rows_map (f := fun n : Int => [.int k n]) (good := fun n => (Lit.int k n).wf = true) rows h5
  rw [flatten_single] at h4
  exact ⟨a, len, cap, xs, rfl, by simpa using h1, h2, h4, h7⟩
theorem sound_bytes {P : Program} {t e : TypeId} (ht : P.underlying t = some (.slice e)) (he : P.underlying e = some (.int .u8)) (hc : P.cellsOf e = 1) : Sound P t KBytes := by
  intro H enc w base spare held fuel cs y h
  obtain ⟨a, len, cap, xs, rfl, h1, h2, h3, h4⟩ := sound_ints ht he hc H enc w base spare held fuel cs y h
  refine ⟨a, len, cap, xs.map fun n => UInt8.ofNat n.toNat, rfl, by simpa using h1, h2, ?_⟩
  have : bytesV (xs.map fun n => UInt8.ofNat n.toNat) = xs.map fun n => .int .u8 n := by
    unfold bytesV
    rw [List.map_map]
    refine List.map_congr_left fun n hn => ?_
    have := h4 n hn
    simp only [Lit.wf, IntKind.min, IntKind.max, IntKind.signed, IntKind.bits] at this
    simp only [Function.comp, Value.int.injEq, true_and]
    rw [UInt8.toNat_ofNat']
    simp at this
    omega
  rw [this]
  exact h3

theorem Sound.of {P : Program} {t : TypeId} {R : Rd} (h : Sound P t R) {H : Type} {enc : TypeId × Value → H} {w : World} {base : Nat} {spare : Nat → Bool} {held : Bool} {v : Value} {d : DataW H} {ps : List MemPlace} (hd : DataW.Trod enc P w base spare held t v d ps) : R w.heap v.cells.toList := by
  obtain ⟨fuel, hf⟩ := hd
  exact h H enc w base spare held fuel _ _ hf

/-- A row of a slice that is read. -/
theorem kslice_at {H : Heap} {c : Nat} {rows : List (List Value)} {a : Option Addr} {len cap : Nat} (h3 : ∀ r ∈ rows, r.length = c) (h4 : SRow H c len (.slice a len cap) rows.flatten) (hc : 0 < c) {i : Nat} {r : List Value} (hi : rows[i]? = some r) : ∃ b o, a = some ⟨b, o, none⟩ ∧ ∀ j u, r[j]? = some u → hcell H b (o + i * c + j) = some u := by
  have hr := h3 r (List.mem_of_getElem? hi)
  have hcell : ∀ j u, r[j]? = some u → ∃ b o, a = some ⟨b, o, none⟩ ∧ hcell H b (o + (i * c + j)) = some u := fun j u hj => by
    have hlt := (List.getElem?_eq_some_iff.1 hj).1
    have := flatten_at h3 hi (j := j) (by omega)
    rw [hj] at this
    exact h4.at this
  obtain ⟨b, o, rfl, _⟩ := hcell 0 _ (List.getElem?_eq_getElem (by omega))
  refine ⟨b, o, rfl, fun j u hj => ?_⟩
  obtain ⟨b', o', e, hc⟩ := hcell j u hj
  cases e
  rw [Nat.add_assoc]
  exact hc
end Go.Vc
end

section
/-! Readings of arguments whose bulk is bounded: each length is at most the bulk. -/
namespace Go.Vc
open Go Go.ChangeShapes Go.WideShapes

section
variable {H : Type} {enc : TypeId × Value → H} {P : Program}

/-- What is asked of a measure of what is read. -/
structure BulkOk (bk : DataW H → Nat) : Prop where
  str : ∀ l, l.length ≤ bk (.lit (.string l))
  elems : ∀ es rs, es.length ≤ bk (.slice es rs)
  elem : ∀ es rs x, x ∈ es → bk x ≤ bk (.slice es rs)
  part : ∀ ps x, x ∈ ps → bk x ≤ bk (.agg ps)

def KStrB (B : Nat) : Rd := fun _ cs => ∃ s, cs = [.string s] ∧ s.size ≤ B
def KSliceB (B c : Nat) (R : Rd) : Rd := fun H cs => ∃ (a : Option Addr) (len cap : Nat) (rows : List (List Value)), cs = [.slice a len cap] ∧ rows.length = len ∧ len ≤ B ∧ len ≤ cap ∧ (∀ r ∈ rows, r.length = c) ∧ SRow H c len (.slice a len cap) rows.flatten ∧ ∀ r ∈ rows, R H r
def KBytesB (B : Nat) : Rd := fun H cs => ∃ (a : Option Addr) (len cap : Nat) (xs : List UInt8), cs = [.slice a len cap] ∧ xs.length = len ∧ len ≤ B ∧ len ≤ cap ∧ SRow H 1 len (.slice a len cap) (bytesV xs)

/-- What a reading of the form gives, where its bulk is bounded. -/
def SoundB (enc : TypeId × Value → H) (P : Program) (bk : DataW H → Nat) (B : Nat) (t : TypeId) (R : Rd) : Prop :=
  ∀ (w : World) (base : Nat) (spare : Nat → Bool) (held : Bool) (fuel : Nat) (cs : List Value) (y : DataW H × List MemPlace), DataW.trod enc P w base spare held fuel t cs = some y → bk y.1 ≤ B → R w.heap cs

variable {bk : DataW H → Nat} {B : Nat}

theorem SoundB.of {t : TypeId} {R : Rd} (h : Sound P t R) : SoundB enc P bk B t R := fun w base spare held fuel cs y hy _ => h H enc w base spare held fuel cs y hy
theorem soundB_str (hk : BulkOk bk) {t : TypeId} (ht : P.underlying t = some .string) : SoundB enc P bk B t (KStrB B) := by
  intro w base spare held fuel cs y h hb
  obtain ⟨z, hz, rfl, hw⟩ := DataW.trod_string ht h
  have h1 := hk.str z.data.toList
  have h2 : z.data.toList.length = z.size := Array.length_toList
  exact ⟨z, hz, by simp only at hb; omega⟩

/-- Fields that are read so. -/
def FieldsB (enc : TypeId × Value → H) (P : Program) (bk : DataW H → Nat) (B : Nat) : Nat → List Field → List (Nat × Rd) → Prop
  | _, [], [] => True
  | off, fd :: fs, (c, R) :: l => fd.offset = off ∧ P.cellsOf fd.type = c ∧ SoundB enc P bk B fd.type R ∧ FieldsB enc P bk B (off + c) fs l
  | _, _, _ => False
theorem FieldsB.nil {off : Nat} : FieldsB enc P bk B off [] [] := trivial
theorem FieldsB.cons {off : Nat} {fd : Field} {fs : List Field} {c : Nat} {R : Rd} {l : List (Nat × Rd)} (h1 : fd.offset = off) (h2 : P.cellsOf fd.type = c) (h3 : SoundB enc P bk B fd.type R) (h4 : FieldsB enc P bk B (off + c) fs l) : FieldsB enc P bk B off (fd :: fs) ((c, R) :: l) := ⟨h1, h2, h3, h4⟩
theorem fields_soundB {M : Heap} (cs : List Value) : ∀ (fs : List Field) (off : Nat) (l : List (Nat × Rd)), FieldsB enc P bk B off fs l → (∀ fd ∈ fs, ∀ R : Rd, SoundB enc P bk B fd.type R → R M ((cs.drop fd.offset).take (P.cellsOf fd.type))) → off + total l = cs.length → KAll l M (cs.drop off)
  | [], off, [], _, _, hl => by simp only [total] at hl; exact List.drop_eq_nil_of_le (by omega)
  | fd :: fs, off, (c, R) :: l, h, hm, hl => by
    obtain ⟨h1, h2, h3, h4⟩ := h
    simp only [total] at hl
    have := hm fd (by simp) R h3
    rw [h1, h2] at this
    refine ⟨by rw [List.length_take, List.length_drop]; omega, this, ?_⟩
    rw [List.drop_drop]
    exact fields_soundB cs fs (off + c) l h4 (fun fd hfd => hm fd (by simp [hfd])) (by omega)
  | [], _, _ :: _, h, _, _ => h.elim
  | _ :: _, _, [], h, _, _ => h.elim
theorem soundB_struct (hk : BulkOk bk) {t : TypeId} {fs : Array Field} {l : List (Nat × Rd)} (ht : P.underlying t = some (.struct fs)) (hc : P.cellsOf t = total l) (hf : FieldsB enc P bk B 0 fs.toList l) : SoundB enc P bk B t (KAll l) := by
  intro w base spare held fuel cs y h hb
  obtain ⟨xs, m, _, rfl, hlen, hl2, hm⟩ := DataW.trod_struct ht h
  have := fields_soundB (M := w.heap) cs fs.toList 0 l hf (fun fd hfd R hR => by
    obtain ⟨i, hi, he⟩ := List.mem_iff_getElem.1 hfd
    simp only [Array.length_toList] at hi
    have := hm i fd (by rw [Array.getElem?_eq_getElem hi]; simpa using he)
    rw [List.getElem?_eq_getElem (by omega)] at this
    refine hR w base spare held m _ _ this ?_
    have h2 := hk.part (xs.map (·.1)) (xs[i]'(by omega)).1 (List.mem_map.2 ⟨_, List.getElem_mem _, rfl⟩)
    simp only at hb
    omega) (by omega)
  rw [List.drop_zero] at this
  exact this

theorem soundB_slice (hk : BulkOk bk) {t e : TypeId} {c : Nat} {R : Rd} (ht : P.underlying t = some (.slice e)) (hc : P.cellsOf e = c) (hc0 : 0 < c) (hs : SoundB enc P bk B e R) : SoundB enc P bk B t (KSliceB B c R) := by
  intro w base spare held fuel cs y h hbB
  obtain ⟨a, len, cap, rfl, hsp⟩ := slice_spot ht hc hc0 h
  rcases DataW.trod_slice ht h with ⟨h0, _⟩ | ⟨ad, len', cap', elems, rest, n, _, h0, hy, hb, hl, hm, hlen, hel, _, _⟩
  · simp only [List.cons.injEq, Value.slice.injEq, and_true] at h0
    obtain ⟨rfl, rfl, rfl⟩ := h0
    exact ⟨none, 0, 0, [], rfl, rfl, Nat.zero_le _, Nat.le_refl _, by simp, ⟨by simp, rfl⟩, by simp⟩
  · simp only [List.cons.injEq, Value.slice.injEq, and_true] at h0
    obtain ⟨rfl, rfl, rfl⟩ := h0
    subst hy
    simp only at hbB
    have hlb : len ≤ B := by
      have := hk.elems (elems.map (·.1)) (rest.map (·.1))
      rw [List.length_map] at this
      omega
    rcases hsp with hsp | hsp
    · subst hsp
      exact ⟨some ad, 0, cap, [], rfl, rfl, Nat.zero_le _, Nat.zero_le _, by simp, ⟨by simp, .inl rfl, fun j u hj => by simp at hj⟩, by simp⟩
    obtain ⟨b, o, sp⟩ := ad
    have hs0 := hsp _ rfl
    simp only at hs0
    subst hs0
    rw [hc] at hel
    have each : ∀ i, i < len → ∃ r, w.cells? base (Addr.add ⟨b, o, none⟩ (i * c)) c = some r ∧ ∃ y, DataW.trod enc P w base spare held n e r = some y ∧ bk y.1 ≤ B := by
      intro i hi
      have h1 := hel i hi
      rw [List.getElem?_eq_getElem (by omega)] at h1
      cases h2 : w.cells? base (Addr.add ⟨b, o, none⟩ (i * c)) c with
      | none => rw [h2] at h1; cases h1
      | some r =>
        rw [h2] at h1
        refine ⟨r, rfl, _, h1, ?_⟩
        have := hk.elem (elems.map (·.1)) (rest.map (·.1)) (elems[i]'(by omega)).1 (List.mem_map.2 ⟨_, List.getElem_mem _, rfl⟩)
        omega
    have row : ∀ i r, w.cells? base (Addr.add ⟨b, o, none⟩ (i * c)) c = some r → r.length = c ∧ ∀ j u, r[j]? = some u → hcell w.heap b (o + (i * c + j)) = some u := by
      intro i r hr
      unfold World.cells? at hr
      split at hr
      · have h2 := Go.mapM_some_length hr
        simp only [List.length_range] at h2
        refine ⟨h2, fun j u hj => ?_⟩
        have hjc : j < c := by have := (List.getElem?_eq_some_iff.1 hj).1; omega
        have h3 := Go.mapM_some_get hr j j (by simp [hjc])
        rw [hj] at h3
        rw [add_none, add_none, cell_hcell, Nat.add_assoc] at h3
        exact h3
      · cases hr
    have hrl : ∀ r ∈ (List.range len).map fun i => (w.cells? base (Addr.add ⟨b, o, none⟩ (i * c)) c).getD [], r.length = c := by
      intro r hr
      obtain ⟨i, hi, rfl⟩ := List.mem_map.1 hr
      obtain ⟨r, hr, _⟩ := each i (by simpa using hi)
      rw [hr]
      exact (row i r hr).1
    refine ⟨some ⟨b, o, none⟩, len, cap, (List.range len).map fun i => (w.cells? base (Addr.add ⟨b, o, none⟩ (i * c)) c).getD [], rfl, by simp, hlb, hl, hrl, ?_, ?_⟩
    · have := flat_at (H := w.heap) (b := b) (o := o) (c := c) ((List.range len).map fun i => (w.cells? base (Addr.add ⟨b, o, none⟩ (i * c)) c).getD []) 0 (by
        intro i r hr
        simp only [List.getElem?_map, Option.map_eq_some_iff] at hr
        obtain ⟨i', hi, rfl⟩ := hr
        have hi2 := List.getElem?_eq_some_iff.1 hi
        obtain ⟨hlt, he⟩ := hi2
        simp only [List.getElem_range] at he
        subst he
        obtain ⟨r, hr, y, hy, _⟩ := each i (by simpa using hlt)
        rw [hr]
        simpa using row i r hr)
      refine ⟨by simpa using this.1, .inr rfl, fun j u hj => ?_⟩
      have := this.2 j u hj
      simpa using this
    · intro r hr
      obtain ⟨i, hi, rfl⟩ := List.mem_map.1 hr
      obtain ⟨r, hr, y, hy, hyb⟩ := each i (by simpa using hi)
      rw [hr]
      exact hs w base spare held n r y hy hyb
theorem SoundB.ints {t e : TypeId} {k : IntKind} (hk : BulkOk bk) (ht : P.underlying t = some (.slice e)) (he : P.underlying e = some (.int k)) (hc : P.cellsOf e = 1) : SoundB enc P bk B t (fun H cs => ∃ (a : Option Addr) (len cap : Nat) (xs : List Int), cs = [.slice a len cap] ∧ xs.length = len ∧ len ≤ B ∧ len ≤ cap ∧ SRow H 1 len (.slice a len cap) (xs.map fun n => .int k n) ∧ ∀ n ∈ xs, (Lit.int k n).wf = true) := by
  intro w base spare held fuel cs y h hb
  obtain ⟨a, len, cap, rows, rfl, h1, h2, h2', h3, h4, h5⟩ := soundB_slice hk ht hc (by decide) (SoundB.of (sound_int he)) w base spare held fuel cs y h hb
  obtain ⟨xs, rfl, h7⟩ := rows_map (f := fun n : Int => [.int k n]) (good := fun n => (Lit.int k n).wf = true) rows h5
  rw [flatten_single] at h4
  exact ⟨a, len, cap, xs, rfl, by simpa using h1, h2, h2', h4, h7⟩
theorem soundB_bytes {t e : TypeId} (hk : BulkOk bk) (ht : P.underlying t = some (.slice e)) (he : P.underlying e = some (.int .u8)) (hc : P.cellsOf e = 1) : SoundB enc P bk B t (KBytesB B) := by
  intro w base spare held fuel cs y h hb
  obtain ⟨a, len, cap, xs, rfl, h1, h2, h2', h3, h4⟩ := SoundB.ints hk ht he hc w base spare held fuel cs y h hb
  refine ⟨a, len, cap, xs.map fun n => UInt8.ofNat n.toNat, rfl, by simpa using h1, h2, h2', ?_⟩
  have : bytesV (xs.map fun n => UInt8.ofNat n.toNat) = xs.map fun n => .int .u8 n := by
    unfold bytesV
    rw [List.map_map]
    refine List.map_congr_left fun n hn => ?_
    have := h4 n hn
    simp only [Lit.wf, IntKind.min, IntKind.max, IntKind.signed, IntKind.bits] at this
    simp only [Function.comp, Value.int.injEq, true_and]
    rw [UInt8.toNat_ofNat']
    simp at this
    omega
  rw [this]
  exact h3
theorem SoundB.at {t : TypeId} {R : Rd} (h : SoundB enc P bk B t R) {w : World} {base : Nat} {spare : Nat → Bool} {held : Bool} {v : Value} {d : DataW H} {ps : List MemPlace} (hd : DataW.Trod enc P w base spare held t v d ps) (hb : bk d ≤ B) : R w.heap v.cells.toList := by
  obtain ⟨fuel, hf⟩ := hd
  exact h w base spare held fuel _ _ hf hb
end
end Go.Vc
end

