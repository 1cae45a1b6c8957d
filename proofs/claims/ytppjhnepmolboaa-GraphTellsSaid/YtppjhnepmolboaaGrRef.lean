/-
  Laying and reading layers, and what the laws of known and of chains need. No condition.
-/
import Derived.Test.YtppjhnepmolboaaGr
import Derived.Test.YtppjhnepmolboaaProg
import Derived.Test.YtppjhnepmolboaaVd

section
open Go Go.Vc
namespace Go.Proofs

theorem raw_rows {z : List (List Value)} (w : ∀ r ∈ z, CellsAre [.i .i64, .i .i64, .i .i64, .b] r) : ∃ R : List Ly, z = R.map Ly.cells := by
  obtain ⟨xs, h, _⟩ := rows_map (f := Ly.cells) (good := fun _ => True) z (fun r hr => by
    have := w r hr
    match r, this with
    | [.int .i64 a, .int .i64 b, .int .i64 c, .bool d], _ => exact ⟨⟨a, b, c, d⟩, rfl, trivial⟩)
  exact ⟨xs, h⟩

theorem own_len {H : Heap} {a : Option Addr} {n c : Nat} {zs : List Int} (h : Own H 1 a n c (ints zs)) : zs.length = n := (Own.irow h).2

set_option maxHeartbeats 1000000 in
theorem gbases_law (H : Heap) (a : Option Addr) (len cap : Nat) (z : List (List Value)) (l : z.length = len) (m : len ≤ maxLen) (s : SRow H 4 len (.slice a len cap) z.flatten) (w : ∀ r ∈ z, CellsAre [.i .i64, .i .i64, .i .i64, .b] r)
    (x1 : Int) (_ : (Lit.int .i64 x1).wf = true) (x2 : Int) (_ : (Lit.int .i64 x2).wf = true) :
    Does Try.prog 7 [.slice a len cap, .int .i64 x1, .int .i64 x2] H fun v H' => v = .bool true ∧ Ext [] H H' := by
  obtain ⟨R, rfl⟩ := raw_rows w
  have hRl : R.length = len := by simpa using l
  subst hRl
  have hR : LRow H a R := SRow.cap s
  refine Fn_of_vc Try.mixed (vc_gbases _ _ _ _ _ _ _) ?_
  refine (list_ok 0 (by unfold maxLen at m; omega) hR).mono ?_
  rintro _ H2 ⟨L, a3, c5, rfl, hL16, ho2, hx2, hf2⟩
  refine ⟨_, _, _, rfl, (known13_ok H2).mono ?_⟩
  rintro _ H7 ⟨rfl, hx7⟩
  have ho7 := ho2.ext hx7 (by simp)
  obtain ⟨hr7, _⟩ := own_lrow ho7
  have hcap := ho7.2.1
  refine ⟨_, rfl, fun e => (by cases e), fun _ => (right_ok (by omega) hcap hr7).mono ?_⟩
  rintro _ H13 ⟨rfl, hx13⟩
  have hX13 := (hx2.trans hx7).trans hx13
  refine ⟨_, rfl, fun e => (known13_ok H13).mono ?_, fun e => ?_⟩
  · rintro _ H16 ⟨rfl, hx16⟩
    refine ⟨_, rfl, fun _ => ⟨yes ?_, hX13.trans hx16⟩, fun e => (by cases e)⟩
    cases L with
    | nil => exact absurd e (by decide)
    | cons x r => simp only [List.length_cons]; omega
  have hr : rightB L = true := by simpa using e
  obtain ⟨hasc, hfit, hl40⟩ := right_iff.1 hr
  refine ⟨fun _ => ⟨rfl, hX13⟩, fun hne => ?_⟩
  have hpos : (0 : Int) < L.length := by omega
  have hr13 := hr7.ext hx13 (by simp)
  refine (pick_ok x1 L.length H13 hpos (by omega)).mono ?_
  rintro _ _ ⟨rfl, rfl⟩
  have i0 := Int.emod_nonneg x1 (show (L.length : Int) ≠ 0 by omega)
  have i1 := Int.emod_lt_of_pos x1 hpos
  generalize x1 % (L.length : Int) = i at *
  have hLi : L[i.toNat]? = some L[i.toNat] := List.getElem?_eq_getElem (by omega)
  obtain ⟨b21, o22, ha3, g0, _⟩ := hr13.at hLi
  refine ⟨_, rfl, i0, i1, b21, o22, ha3, _, g0, (pick_ok x2 L.length H13 hpos (by omega)).mono ?_⟩
  rintro _ _ ⟨rfl, rfl⟩
  have j0 := Int.emod_nonneg x2 (show (L.length : Int) ≠ 0 by omega)
  have j1 := Int.emod_lt_of_pos x2 hpos
  generalize x2 % (L.length : Int) = j at *
  have hLj : L[j.toNat]? = some L[j.toNat] := List.getElem?_eq_getElem (by omega)
  obtain ⟨b27, o28, ha3', g1, _⟩ := hr13.at hLj
  have fa : (find L L[i.toNat].id).isSome = true := by rw [(find_iff hasc).2 ⟨List.getElem_mem _, rfl⟩]; rfl
  have fb : (find L L[j.toNat].id).isSome = true := by rw [(find_iff hasc).2 ⟨List.getElem_mem _, rfl⟩]; rfl
  refine ⟨_, rfl, j0, j1, b27, o28, ha3', _, g1, ?_⟩
  generalize L[i.toNat].id = x at *
  generalize L[j.toNat].id = y at *
  have pa := anc_asc L x
  have qa := anc_asc L y
  have hax := anc_self fa
  have hbs := base_sym pa qa
  have hcm := fun z => base_in (z := z) (p := anc L x) (q := anc L y) pa
  have hcn := base_none (p := anc L x) (q := anc L y)
  have hself : baseOf (anc L x) (anc L x) = x := by
    unfold baseOf
    rw [List.filter_eq_self.2 (fun k hk => by simpa using hk)]
    exact last_max pa hax (fun k hk => (anc_le hr hk).1)
  refine (base_ok x y (by omega) hr13).mono ?_
  rintro _ H31 ⟨rfl, hx31⟩
  have hr31 := hr13.ext hx31 (by simp)
  generalize hcd : baseOf (anc L x) (anc L y) = cc at *
  refine ⟨_, rfl, (ancestors_ok x (by omega) hr31).mono ?_⟩
  rintro _ H34 ⟨a35, c37, rfl, hp34, hpl, hx34, _⟩
  have hr34 := hr31.ext hx34 (by simp)
  refine ⟨_, _, _, rfl, (ancestors_ok y (by omega) hr34).mono ?_⟩
  rintro _ H39 ⟨a40, c42, rfl, hq39, hql, hx39, _⟩
  have hr39 := hr34.ext hx39 (by simp)
  have hp39 := hp34.ext hx39 (by simp)
  have hX39 := ((hX13.trans hx31).trans hx34).trans hx39
  refine ⟨_, _, _, rfl, (base_ok y x (by omega) hr39).mono ?_⟩
  rintro _ H44 ⟨rfl, hx44⟩
  have hr44 := hr39.ext hx44 (by simp)
  refine ⟨_, rfl, fun e => absurd hbs.symm e, fun _ => (base_ok x x (by omega) hr44).mono ?_⟩
  rintro _ H47 ⟨rfl, hx47⟩
  have hx3947 := hx44.trans hx47
  have hr47 := hr44.ext hx47 (by simp)
  have hp47 := (Own.irow (hp39.ext hx3947 (by simp))).1
  have hq47 := (Own.irow (hq39.ext hx3947 (by simp))).1
  have hX47 := hX39.trans hx3947
  refine ⟨_, rfl, fun e => absurd hself e, fun _ => (in_ok x (by omega) hp47).mono ?_⟩
  rintro _ _ ⟨rfl, rfl⟩
  refine ⟨_, rfl, fun e => absurd e (by simp [hax]), fun _ => ?_⟩
  generalize hpd : anc L x = p at *
  generalize hqd : anc L y = q at *
  refine ⟨fun H' => Ext [] H47 H', ⟨fun i H' => Ext [] H47 H' ∧ ∃ j : Nat, i = j ∧ j ≤ p.length, fun i _ => p.length - i.toNat, ⟨Ext.refl _ _, 0, rfl, by omega⟩, ?_⟩, ?_⟩
  · rintro _ H56 ⟨hx56, j, rfl, hjp⟩
    refine ⟨fun hlt => ?_, fun _ => hx56⟩
    have hpj : p[j]? = some p[j] := List.getElem?_eq_getElem (by omega)
    obtain ⟨b57, o58, ha35, hc⟩ := (hp47.ext hx56 (by simp)).at hpj
    have hzp : p[j] ∈ p := List.getElem_mem _
    generalize p[j] = z at *
    have next : ∀ {H' : Heap}, Ext [] H47 H' → In64 ((j : Int) + 1) ∧ (Ext [] H47 H' ∧ ∃ j' : Nat, (j : Int) + 1 = j' ∧ j' ≤ p.length) ∧ p.length - ((j : Int) + 1).toNat < p.length - (j : Int).toNat :=
      fun he => ⟨⟨by omega, by omega⟩, ⟨he, j + 1, by omega, by omega⟩, by omega⟩
    refine ⟨by omega, hlt, b57, o58, ha35, _, by rw [Int.toNat_natCast]; exact hc, (in_ok z (by omega) (hq47.ext hx56 (by simp))).mono ?_⟩
    rintro _ _ ⟨rfl, rfl⟩
    refine ⟨_, rfl, fun hzq => ?_, fun _ => next hx56⟩
    have hzq' : z ∈ q := by simpa using hzq
    obtain ⟨c1, c2, c3⟩ := hcm z hzp hzq'
    have c4 : 1 ≤ cc := by rw [← hpd] at c1; exact (anc_le hr c1).2
    refine ⟨fun e => absurd e (by omega), fun _ => ⟨by omega, hlt, b57, o58, ha35, _, by rw [Int.toNat_natCast]; exact hc, fun hzc => ⟨by omega, hlt, b57, o58, ha35, _, by rw [Int.toNat_natCast]; exact hc, ?_⟩, fun _ => next hx56⟩⟩
    refine (ancestors_ok z (by omega) (hr47.ext hx56 (by simp))).mono ?_
    rintro _ H70 ⟨a71, c73, rfl, hz70, hzl, hx70, _⟩
    refine ⟨_, _, _, rfl, (in_ok cc (by omega) (Own.irow hz70).1).mono ?_⟩
    rintro _ _ ⟨rfl, rfl⟩
    refine ⟨_, rfl, fun e => ?_, fun _ => next (hx56.trans hx70)⟩
    exfalso
    have : cc ∈ anc L z := by simpa using e
    have := (anc_le hr this).1
    omega
  intro H77 hx77 b78 H79 hn
  have hx79 := hx77.trans hn.ext
  have hir : IRow H79 (some ⟨b78, 0, none⟩) [x, y] := ⟨rfl, .inr rfl, fun k u hk => by
    show hcell H79 b78 (0 + k) = some u
    rw [Nat.zero_add, hn.blk.cell]; exact hk⟩
  refine (keep_ok (ids := [x, y]) (by omega) (hr47.ext hx79 (by simp)) (by simp) hir).mono ?_
  rintro _ H81 ⟨a82, c84, rfl, hk81, hx81, _⟩
  have hS := kept_closed L [x, y]
  have hSm : ∀ k, k ∈ keptOf L [x, y] ↔ k ∈ p ∨ k ∈ q := fun k => by
    rw [kept_mem, ← hpd, ← hqd]; simp
  have hrk := keepL_right hr hS
  generalize hKd : keepL L (keptOf L [x, y]) = K at *
  have hKl : K.length ≤ 16 := by
    have : K.length ≤ L.length := by rw [← hKd]; exact List.length_filter_le _ _
    omega
  have hx4781 := hx79.trans hx81
  obtain ⟨hkr, _⟩ := own_lrow hk81
  have hkcap := hk81.2.1
  refine ⟨_, _, _, rfl, fun i H' => Ext [] H81 H' ∧ ∃ j : Nat, i = j ∧ j ≤ K.length, fun i _ => K.length - i.toNat, ⟨Ext.refl _ _, 0, rfl, by omega⟩, ?_⟩
  rintro _ H88 ⟨hx88, j, rfl, hjK⟩
  have hp88 := hp47.ext (hx4781.trans hx88) (by simp)
  have hq88 := hq47.ext (hx4781.trans hx88) (by simp)
  have hX88 := (hX47.trans hx4781).trans hx88
  have hk88 := hkr.ext hx88 (by simp)
  refine ⟨fun hlt => ?_, fun _ => ?_⟩
  · have hKj : K[j]? = some K[j] := List.getElem?_eq_getElem (by omega)
    obtain ⟨b89, o90, ha82, k0, _⟩ := hk88.at hKj
    have hin : K[j].id ∈ p ∨ K[j].id ∈ q := by
      rw [← hSm]
      have : K[j] ∈ keepL L (keptOf L [x, y]) := by rw [hKd]; exact List.getElem_mem _
      exact (keepL_mem.1 this).2
    generalize K[j].id = kid at *
    refine ⟨by omega, hlt, b89, o90, ha82, _, by rw [Int.toNat_natCast]; exact k0, (in_ok kid (by omega) hp88).mono ?_⟩
    rintro _ _ ⟨rfl, rfl⟩
    refine ⟨_, rfl, fun e1 => ⟨by omega, hlt, b89, o90, ha82, _, by rw [Int.toNat_natCast]; exact k0, (in_ok kid (by omega) hq88).mono ?_⟩, fun _ => ⟨⟨by omega, by omega⟩, ⟨hx88, j + 1, by omega, by omega⟩, by simp only []; omega⟩⟩
    rintro _ _ ⟨rfl, rfl⟩
    refine ⟨_, rfl, fun e2 => ?_, fun _ => ⟨⟨by omega, by omega⟩, ⟨hx88, j + 1, by omega, by omega⟩, by simp only []; omega⟩⟩
    exfalso
    simp only [decide_eq_false_iff_not] at e1 e2
    rcases hin with h' | h'
    · exact e1 h'
    · exact e2 h'
  have hlen : p.length ≤ K.length := by
    rw [← hKd]
    refine keepL_len pa (fun k hk => ?_) (fun k hk => (hSm k).2 (.inl hk))
    rw [← hpd] at hk
    exact (anc_iff.1 hk).some
  have last : ∀ H', Ext [] H H' → LRow H' a82 K → Does Try.prog 28 [(.slice a82 K.length c84)] H' fun v110 H111 => ∃ t112 : Bool, v110 = (.bool t112) ∧
      ((t112 = true → (Value.bool (@decide (((p.length : Int) : Int) ≤ (K.length : Int)) (Classical.propDecidable _)) = .bool true ∧ Ext [] H H111)) ∧ (t112 = false → (Value.bool false = .bool true ∧ Ext [] H H111))) := by
    intro H' he hk
    refine (right_ok (by omega) hkcap hk).mono ?_
    rintro _ H111 ⟨rfl, hx111⟩
    exact ⟨_, rfl, fun _ => ⟨yes (by omega), he.trans hx111⟩, fun e => absurd e (by rw [hrk]; simp)⟩
  refine ⟨fun _ => last H88 hX88 hk88, fun hc0 => ?_⟩
  obtain ⟨d1, d2⟩ := hcn hc0
  refine (in_ok cc (by omega) hp88).mono ?_
  rintro _ _ ⟨rfl, rfl⟩
  refine ⟨_, rfl, fun _ => (in_ok cc (by omega) hq88).mono ?_, fun e => absurd e (by simp [d1])⟩
  rintro _ _ ⟨rfl, rfl⟩
  exact ⟨_, rfl, fun _ => last H88 hX88 hk88, fun e => absurd e (by simp [d2])⟩
end Go.Proofs
end

section
open Go Go.Vc
namespace Go.Proofs

theorem chain_head {L : List Ly} : ∀ (n : Nat) (id : Int), cnt L id ≤ n → (chainR L n id)[0]? = (find L id).map Ly.id
  | 0, id, h => by simp [chainR, cnt_zero (L := L) (id := id) (by omega)]
  | n + 1, id, h => by
    simp only [chainR]
    cases find L id <;> rfl

theorem chain_runs {L : List Ly} (hd : Down L) : ∀ (n : Nat) (id : Int), cnt L id ≤ n → ∀ (j : Nat) (k : Int), (chainR L n id)[j]? = some k → ∃ x, find L k = some x ∧ Up L id k ∧ (chainR L n id)[j + 1]? = (find L x.par).map Ly.id
  | 0, id, h, j, k, hj => by simp [chainR] at hj
  | n + 1, id, h, j, k, hj => by
    cases hf : find L id with
    | none => simp only [chainR, hf] at hj; simp at hj
    | some x =>
      have e : chainR L (n + 1) id = x.id :: chainR L n x.par := by simp only [chainR, hf]
      rw [e] at hj ⊢
      have hx := find_some hf
      have h1 := cnt_lt hx.2 (hd x hx.2)
      rw [hx.1] at h1
      cases j with
      | zero =>
        simp only [List.getElem?_cons_zero, Option.some.injEq] at hj
        subst hj
        refine ⟨x, by rw [hx.1]; exact hf, by rw [hx.1]; exact .refl (by rw [hf]; rfl), ?_⟩
        simpa using chain_head n x.par (by omega)
      | succ j =>
        obtain ⟨y, hy, hu, he⟩ := chain_runs hd n x.par (by omega) j k (by simpa using hj)
        exact ⟨y, hy, .step hf (.inl rfl) hu, by simpa using he⟩

/-- **What a chain is.** -/
theorem chain_say {L : List Ly} (hr : rightB L = true) {a : Int} (ha : (find L a).isSome = true) :
    0 < (chain L a).length ∧ (chain L a).length ≤ 12 ∧ (chain L a)[(chain L a).length - 1]? = some a ∧ ∀ (j : Nat) (k : Int), (chain L a)[j]? = some k → ∃ x, find L k = some x ∧ k ∈ anc L a ∧ (j = 0 → x.par = 0) ∧ ∀ i, j = i + 1 → (chain L a)[i]? = some x.par := by
  have hd := r_down hr
  have hc : cnt L a ≤ L.length + 1 := by have := cnt_le L a; omega
  have h0 := chain_head (L.length + 1) a hc
  have hs := chain_runs hd (L.length + 1) a hc
  obtain ⟨y, hy⟩ := Option.isSome_iff_exists.1 ha
  have hl := (r_find hr hy).1.len
  rw [(r_find hr hy).2] at hl
  rw [hy, Option.map_some, (find_some hy).1] at h0
  unfold chain
  generalize chainR L (L.length + 1) a = r at *
  have hpos : 0 < r.length := (List.getElem?_eq_some_iff.1 h0).1
  rw [List.length_reverse]
  refine ⟨hpos, hl, ?_, fun j k hj => ?_⟩
  · rw [List.getElem?_reverse (by omega), show r.length - 1 - (r.length - 1) = 0 by omega]; exact h0
  · have hjl : j < r.length := by have := (List.getElem?_eq_some_iff.1 hj).1; rwa [List.length_reverse] at this
    rw [List.getElem?_reverse hjl] at hj
    obtain ⟨x, hx, hu, he⟩ := hs _ _ hj
    refine ⟨x, hx, anc_iff.2 hu, fun e => ?_, fun i e => ?_⟩
    · subst e
      rw [List.getElem?_eq_none (by omega)] at he
      have hp : find L x.par = none := by cases hp : find L x.par <;> simp_all
      rcases (r_find hr hx).1.par with h | ⟨z, hz, e, _⟩
      · exact h
      · exact absurd e (find_none.1 hp z hz)
    · subst e
      rw [List.getElem?_reverse (by omega), show r.length - 1 - i = r.length - 1 - (i + 1) + 1 by omega, he]
      have hlt : r.length - 1 - (i + 1) + 1 < r.length := by omega
      rw [List.getElem?_eq_getElem hlt] at he
      cases hp : find L x.par with
      | none => rw [hp] at he; cases he
      | some z => rw [Option.map_some, (find_some hp).1]

theorem keepL_chainE {L : List Ly} (hr : rightB L = true) {S : List Int} (hS : Closed L S) {a : Int} (ha : a ∈ S) : chain (keepL L S) a = chain L a := by
  unfold chain; rw [keepL_chain' hr hS ha]

set_option maxHeartbeats 1000000 in
theorem gchains_law (H : Heap) (a : Option Addr) (len cap : Nat) (z : List (List Value)) (l : z.length = len) (m : len ≤ maxLen) (s : SRow H 4 len (.slice a len cap) z.flatten) (w : ∀ r ∈ z, CellsAre [.i .i64, .i .i64, .i .i64, .b] r)
    (a1 : Option Addr) (len1 cap1 : Nat) (z1 : List Int) (l1 : z1.length = len1) (m1 : len1 ≤ maxLen) (s1 : SRow H 1 len1 (.slice a1 len1 cap1) (z1.map fun n => .int .i64 n)) (_ : ∀ n ∈ z1, (Lit.int .i64 n).wf = true) :
    Does Try.prog 8 [.slice a len cap, .slice a1 len1 cap1] H fun v H' => v = .bool true ∧ Ext [] H H' := by
  obtain ⟨R, rfl⟩ := raw_rows w
  have hRl : R.length = len := by simpa using l
  subst hRl
  subst l1
  have hR : LRow H a R := SRow.cap s
  have hZ : IRow H a1 z1 := SRow.cap s1
  refine Fn_of_vc Try.mixed (vc_gchains _ _ _ _ _ _ _ _) ?_
  refine (list_ok 0 (by unfold maxLen at m; omega) hR).mono ?_
  rintro _ H2 ⟨L, a3, c5, rfl, hL16, ho2, hx2, hf2⟩
  refine ⟨_, _, _, rfl, (known13_ok H2).mono ?_⟩
  rintro _ H7 ⟨rfl, hx7⟩
  have ho7 := ho2.ext hx7 (by simp)
  obtain ⟨hr7, _⟩ := own_lrow ho7
  have hcap := ho7.2.1
  refine ⟨_, rfl, fun e => (by cases e), fun _ => ⟨fun e0 => (known13_ok H7).mono ?_, fun hne => ?_⟩⟩
  · rintro _ H13 ⟨rfl, hx13⟩
    exact ⟨_, rfl, rfl, (hx2.trans hx7).trans hx13⟩
  refine (right_ok (by omega) hcap hr7).mono ?_
  rintro _ H16 ⟨rfl, hx16⟩
  have hX16 := (hx2.trans hx7).trans hx16
  refine ⟨_, rfl, fun e => (known13_ok H16).mono ?_, fun e => ?_⟩
  · rintro _ H19 ⟨rfl, hx19⟩
    exact ⟨_, rfl, rfl, hX16.trans hx19⟩
  have hr : rightB L = true := by simpa using e
  obtain ⟨hasc, hfit, hl40⟩ := right_iff.1 hr
  have hpos : (0 : Int) < L.length := by omega
  have hr16 := hr7.ext hx16 (by simp)
  refine ⟨fun a45 l46 c47 H48 => Ext [] H16 H48 ∧ ∃ ids : List Int, ids.length = l46 ∧ l46 ≤ 3 ∧ Own H48 1 a45 l46 c47 (ints ids) ∧ ∀ k ∈ ids, (find L k).isSome = true, ?_, ?_⟩
  · refine ⟨fun a24 l25 c26 n H28 => Ext [] H16 H28 ∧ ∃ (j : Nat) (ids : List Int), n = j ∧ j ≤ 3 ∧ ids.length = j ∧ l25 = j ∧ Own H28 1 a24 l25 c26 (ints ids) ∧ (∀ k ∈ blkOf a24, H16.size ≤ k) ∧ ∀ k ∈ ids, (find L k).isSome = true, fun _ _ _ n _ => 3 - n.toNat, ⟨Ext.refl _ _, 0, [], rfl, by omega, rfl, rfl, Own.nil _ _, by simp [blkOf], by simp⟩, ?_⟩
    rintro a24 l25 c26 _ H28 ⟨hx28, j, ids, rfl, hj3, hil, e25, ho28, hfr28, hall⟩
    have e25 := e25.symm
    subst e25
    have out : Ext [] H16 H28 ∧ ∃ ids : List Int, ids.length = j ∧ j ≤ 3 ∧ Own H28 1 a24 j c26 (ints ids) ∧ ∀ k ∈ ids, (find L k).isSome = true := ⟨hx28, ids, hil, hj3, ho28, hall⟩
    refine ⟨fun hlt => ⟨fun hlt3 => ?_, fun _ => out⟩, fun _ => out⟩
    have hzj : z1[j]? = some z1[j] := List.getElem?_eq_getElem (by omega)
    obtain ⟨b29, o30, rfl, hc⟩ := (hZ.ext (hX16.trans hx28) (by simp)).at hzj
    refine ⟨by omega, hlt, b29, o30, rfl, _, by rw [Int.toNat_natCast]; exact hc, (pick_ok _ L.length H28 hpos (by omega)).mono ?_⟩
    rintro _ _ ⟨rfl, rfl⟩
    have i0 := Int.emod_nonneg z1[j] (show (L.length : Int) ≠ 0 by omega)
    have i1 := Int.emod_lt_of_pos z1[j] hpos
    generalize z1[j] % (L.length : Int) = i at *
    have hLi : L[i.toNat]? = some L[i.toNat] := List.getElem?_eq_getElem (by omega)
    obtain ⟨b35, o36, ha3, g0, _⟩ := (hr16.ext hx28 (by simp)).at hLi
    have hfi : (find L L[i.toNat].id).isSome = true := by rw [(find_iff hasc).2 ⟨List.getElem_mem _, rfl⟩]; rfl
    refine ⟨_, rfl, i0, i1, b35, o36, ha3, _, g0, fun b38 H39 hn39 => ?_⟩
    have ho39 := ho28.ext hn39.ext (by simp)
    refine ⟨ints ids, ints [L[i.toNat].id], ho39.row _ _, ⟨rfl, .inr rfl, fun k u hk => ?_⟩, ints_one _, by omega, fun hle => by simpa using ho39.room (n := 1) hle, ?_⟩
    · show hcell H39 b38 (0 + k) = some u
      rw [Nat.zero_add, hn39.blk.cell k]
      exact hk
    intro a42 c43 H44 happ
    obtain ⟨ho44, hx44, hfr44⟩ := happ.own ho39 (ho39.row _ _) (by rw [ints_length]; rfl) rfl
    refine ⟨⟨by omega, by omega⟩, ⟨(hx28.trans hn39.ext).trans' hx44 (fun k hk => .inl (hfr28 k hk)), j + 1, ids ++ [L[i.toNat].id], by omega, by omega, by simp [hil], rfl, ?_, ?_, ?_⟩, by simp only []; omega⟩
    · have : ints (ids ++ [L[i.toNat].id]) = ints ids ++ ints [L[i.toNat].id] := by simp [ints]
      rw [this]; exact ho44
    · intro k hk
      rcases hfr44 k hk with h' | h'
      · exact hfr28 k h'
      · have := hx28.size; have := hn39.ext.size; omega
    · intro k hk
      rcases List.mem_append.1 hk with h' | h'
      · exact hall k h'
      · simp only [List.mem_singleton] at h'; subst h'; exact hfi
  rintro a45 _ c47 H48 ⟨hx48, ids, rfl, hl3, ho48, hall⟩
  have hi48 := (Own.irow ho48).1
  have hr48 := hr16.ext hx48 (by simp)
  have hX48 := hX16.trans hx48
  refine (keep_ok (ids := ids) (by omega) hr48 (by omega) hi48).mono ?_
  rintro _ H50 ⟨a51, c53, rfl, hk50, hx50, _⟩
  have hS := kept_closed L ids
  have hin : ∀ k ∈ ids, k ∈ keptOf L ids := fun k hk => kept_mem.2 ⟨k, hk, anc_self (hall k hk)⟩
  have hrk := keepL_right hr hS
  have hch : ∀ k ∈ ids, chain (keepL L (keptOf L ids)) k = chain L k := fun k hk => keepL_chainE hr hS (hin k hk)
  have han : ∀ k ∈ ids, anc (keepL L (keptOf L ids)) k = anc L k := fun k hk => keepL_anc hr hS (hin k hk)
  have hKl : (keepL L (keptOf L ids)).length ≤ 16 := by
    have : (keepL L (keptOf L ids)).length ≤ L.length := List.length_filter_le _ _
    omega
  generalize keepL L (keptOf L ids) = K at *
  obtain ⟨hkr, _⟩ := own_lrow hk50
  have hkcap := hk50.2.1
  refine ⟨_, _, _, rfl, (right_ok (by omega) hkcap hkr).mono ?_⟩
  rintro _ H55 ⟨rfl, hx55⟩
  have hx4855 := hx50.trans hx55
  have hk55 := hkr.ext hx55 (by simp)
  have hr55 := hr48.ext hx4855 (by simp)
  have hi55 := hi48.ext hx4855 (by simp)
  have hX55 := hX48.trans hx4855
  refine ⟨_, rfl, fun e => absurd e (by rw [hrk]; simp), fun _ => ?_⟩
  refine ⟨fun n H' => Ext [] H55 H' ∧ ∃ j : Nat, n = j ∧ j ≤ ids.length, fun n _ => ids.length - n.toNat, ⟨Ext.refl _ _, 0, rfl, by omega⟩, ?_⟩
  rintro _ H60 ⟨hx60, j, rfl, hjl⟩
  refine ⟨fun hlt => ?_, fun _ => ⟨rfl, hX55.trans hx60⟩⟩
  have hij : ids[j]? = some ids[j] := List.getElem?_eq_getElem (by omega)
  have hmem : ids[j] ∈ ids := List.getElem_mem _
  generalize ids[j] = q at *
  have hfq := hall q hmem
  obtain ⟨c1, c2, c3, c4⟩ := chain_say hr hfq
  have rd : ∀ {H' : Heap}, Ext [] H55 H' → (0 : Int) ≤ (j : Int) ∧ (j : Int) < (ids.length : Int) ∧ ∃ b o : Nat, a45 = some (⟨b, o, none⟩ : Addr) ∧ hcell H' b (o + (Int.toNat (j : Int))) = some (.int .i64 q) := fun he => by
    obtain ⟨b, o, e, hc⟩ := (hi55.ext he (by simp)).at hij
    exact ⟨by omega, hlt, b, o, e, by rw [Int.toNat_natCast]; exact hc⟩
  have rd' : ∀ {H' : Heap} {P : Int → Prop}, Ext [] H55 H' → P q → (0 : Int) ≤ (j : Int) ∧ (j : Int) < (ids.length : Int) ∧ ∃ b o : Nat, a45 = some (⟨b, o, none⟩ : Addr) ∧ ∃ n : Int, hcell H' b (o + (Int.toNat (j : Int))) = some (.int .i64 n) ∧ P n := fun he hp => by
    obtain ⟨h1, h2, b, o, e, hc⟩ := rd he
    exact ⟨h1, h2, b, o, e, q, hc, hp⟩
  refine rd' hx60 ((chain_ok q (by omega) (hr55.ext hx60 (by simp))).mono ?_)
  rintro _ H65 ⟨a66, c68, rfl, ho65, hx65, _⟩
  have hy65 := hx60.trans hx65
  refine ⟨_, _, _, rfl, rd' hy65 ((chain_ok q (by omega) (hk55.ext hy65 (by simp))).mono ?_)⟩
  rintro _ H73 ⟨a74, c76, rfl, ho73, hx73, _⟩
  rw [hch q hmem] at ho73 ⊢
  have hy73 := hy65.trans hx73
  refine ⟨_, _, _, rfl, rd' hy73 ((ancestors_ok q (by omega) (hr55.ext hy73 (by simp))).mono ?_)⟩
  rintro _ H81 ⟨a82, c84, rfl, ho81, hl81, hx81, _⟩
  have hy81 := hy73.trans hx81
  refine ⟨_, _, _, rfl, rd' hy81 ((ancestors_ok q (by omega) (hk55.ext hy81 (by simp))).mono ?_)⟩
  rintro _ H89 ⟨a90, c92, rfl, ho89, hl89, hx89, _⟩
  rw [han q hmem] at ho89 ⊢
  have hy89 := hy81.trans hx89
  have hC89 := (((Own.irow ho65).1.ext hx73 (by simp)).ext hx81 (by simp)).ext hx89 (by simp)
  have hD89 := ((Own.irow ho73).1.ext hx81 (by simp)).ext hx89 (by simp)
  have hA89 := (Own.irow ho81).1.ext hx89 (by simp)
  have hr89 := hr55.ext hy89 (by simp)
  refine ⟨_, _, _, rfl, fun e => absurd e (by omega), fun _ => ⟨fun e => absurd rfl e, fun _ => ⟨fun e => absurd rfl e, fun _ => ?_⟩⟩⟩
  generalize chain L q = C at *
  generalize anc L q = A at *
  obtain ⟨b93, o94, ea66, hlast⟩ := hC89.at c3
  refine ⟨⟨by omega, by omega⟩, by omega, by omega, b93, o94, ea66, q, by rw [show ((C.length : Int) - 1).toNat = C.length - 1 by omega]; exact hlast, rd' hy89 ⟨fun e => absurd rfl e, fun _ => ?_⟩⟩
  refine ⟨fun n H' => Ext [] H89 H' ∧ ∃ i : Nat, n = i ∧ i ≤ C.length, fun n _ => C.length - n.toNat, ⟨Ext.refl _ _, 0, rfl, by omega⟩, ?_⟩
  rintro _ H102 ⟨hx102, i, rfl, hiC⟩
  refine ⟨fun hlti => ?_, fun _ => ⟨⟨by omega, by omega⟩, ⟨hy89.trans hx102, j + 1, by omega, by omega⟩, by simp only []; omega⟩⟩
  have hCi : C[i]? = some C[i] := List.getElem?_eq_getElem (by omega)
  obtain ⟨x, hx, hxA, hx0, hxp⟩ := c4 i _ hCi
  have hgx : getL L C[i] = x := by simp [getL, hx]
  generalize C[i] = k at *
  have rc : ∀ {H' : Heap} {P : Int → Prop}, Ext [] H89 H' → P k → (0 : Int) ≤ (i : Int) ∧ (i : Int) < (C.length : Int) ∧ ∃ b o : Nat, a66 = some (⟨b, o, none⟩ : Addr) ∧ ∃ n : Int, hcell H' b (o + (Int.toNat (i : Int))) = some (.int .i64 n) ∧ P n := fun he hp => by
    obtain ⟨b, o, e, hc⟩ := (hC89.ext he (by simp)).at hCi
    exact ⟨by omega, hlti, b, o, e, k, by rw [Int.toNat_natCast]; exact hc, hp⟩
  have rdd : ∀ {H' : Heap} {P : Int → Prop}, Ext [] H89 H' → P k → (0 : Int) ≤ (i : Int) ∧ (i : Int) < (C.length : Int) ∧ ∃ b o : Nat, a74 = some (⟨b, o, none⟩ : Addr) ∧ ∃ n : Int, hcell H' b (o + (Int.toNat (i : Int))) = some (.int .i64 n) ∧ P n := fun he hp => by
    obtain ⟨b, o, e, hc⟩ := (hD89.ext he (by simp)).at hCi
    exact ⟨by omega, hlti, b, o, e, k, by rw [Int.toNat_natCast]; exact hc, hp⟩
  refine rc hx102 ((find_ok k (by omega) (hr89.ext hx102 (by simp))).mono ?_)
  rintro _ H107 ⟨rfl, hx107⟩
  rw [hgx]
  refine ⟨_, _, _, _, _, rfl, fun b113 H114 hn114 => ⟨hn114.blk.cells _ _ (by simp), fun H115 hp115 => ?_⟩⟩
  have hb115 := hp115.blk hn114.blk (by simp)
  have hx115 : Ext [] H89 H115 := ((hx102.trans hx107).trans hn114.ext).trans' hp115.ext (by
    intro i hi; simp only [List.mem_singleton] at hi; have := hn114.eq; have := (hx102.trans hx107).size; omega)
  refine ⟨fun e => absurd e (by rw [hx]; simp), fun _ => rc hx115 (rdd hx115 ⟨fun e => absurd rfl e, fun _ => rc hx115 ((in_ok k (by omega) (hA89.ext hx115 (by simp))).mono ?_)⟩)⟩
  rintro _ _ ⟨rfl, rfl⟩
  have next : In64 ((i : Int) + 1) ∧ (Ext [] H89 H115 ∧ ∃ i' : Nat, (i : Int) + 1 = i' ∧ i' ≤ C.length) ∧ C.length - ((i : Int) + 1).toNat < C.length - (i : Int).toNat := ⟨⟨by omega, by omega⟩, ⟨hx115, i + 1, by omega, by omega⟩, by omega⟩
  have hpar : hcell H115 b113 (0 + 1) = some (.int .i64 x.par) := by rw [hb115.cell]; rfl
  refine ⟨_, rfl, fun e => absurd e (by simp [hxA]), fun _ => ⟨fun e0 => ⟨_, hpar, fun e => absurd (hx0 (by omega)) e, fun _ => ⟨fun e => absurd e (by omega), fun _ => next⟩⟩, fun e0 => ⟨fun _ => ?_, fun _ => next⟩⟩⟩
  obtain ⟨i', rfl⟩ : ∃ i', i = i' + 1 := ⟨i - 1, by omega⟩
  obtain ⟨b134, o135, e134, hc134⟩ := (hC89.ext hx115 (by simp)).at (hxp i' rfl)
  exact ⟨_, hpar, ⟨by omega, by omega⟩, by omega, by omega, b134, o135, e134, _, by rw [show (((i' + 1 : Nat) : Int) - 1).toNat = i' by omega]; exact hc134, fun e => absurd rfl e, fun _ => next⟩
end Go.Proofs
end

section
open Go Go.Vc
namespace Go.Proofs
set_option maxRecDepth 100000
/-- pentimento/octet.NewWriter -/
theorem vc_nw (H : Heap) (R : Value → Heap → Prop) : Walk Try.prog 70 [] [] H R = (
  ∀ b1 : Nat, ∀ H2 : Heap, New H b1 [(.slice none 0 0)] 104 H2 → (
    R (.pointer (some (⟨b1, 0, none⟩ : Addr))) H2)) := by kernel_rfl


/-- (*pentimento/octet.Writer).put -/
theorem vc_put (pb0 : Nat) (x1 : Int) (x2 : Int) (H : Heap) (R : Value → Heap → Prop) : Walk Try.prog 94 [] [(.pointer (some (⟨pb0, 0, none⟩ : Addr))), (.int .u64 x1), (.int .i64 x2)] H R = (
  (In64 (x2 - 1)) ∧
  ∃ I1 : Int → Heap → Prop, ∃ μ2 : Int → Heap → Nat, (I1 (x2 - 1) H) ∧
  ∀ n3 : Int, ∀ H4 : Heap, I1 n3 H4 → (
    ((((0 : Int) ≤ n3) → (
          ∃ b5 o6 : Nat, (some (⟨pb0, 0, none⟩ : Addr)) = some (⟨b5, o6, none⟩ : Addr) ∧ (
            ∃ a7 : Option Addr, ∃ l8 : Nat, ∃ c9 : Nat, hcell H4 b5 o6 = some (.slice a7 l8 c9) ∧ (
              (In64 (8 * n3)) ∧
              ((0 : Int) ≤ (8 * n3)) ∧
              ∀ q10 : Int, q10 = Int.fdiv x1 (2 ^ (min (Int.toNat (8 * n3)) (IntKind.bits .u64))) → (
                ∀ q11 : Int, q11 = IntKind.wrap .u8 q10 → (
                  ∀ b12 : Nat, ∀ H13 : Heap, New H4 b12 [(.int .u8 q11)] 5 H13 → (
                    isL H13 b5 o6 [(.slice a7 l8 c9)] ∧ (∃ old14 new15 : List Value, SRow H13 1 l8 (.slice a7 l8 c9) old14 ∧ SRow H13 1 1 (.slice (some (⟨b12, 0, none⟩ : Addr)) 1 1) new15 ∧ (∀ u ∈ new15, Value.oneCell' u = true) ∧ (l8 + 1) * 1 ≤ 140737488355328 ∧ (l8 + 1 ≤ c9 → roomOf H13 a7 (l8 * 1) (1 * 1)) ∧ ∀ a16 : Option Addr, ∀ c17 : Nat, ∀ H18 : Heap, App H13 1 5 [(.int .u8 0)] a7 l8 c9 old14 new15 1 a16 c17 H18 → (
                        (∃ b19 o20 : Nat, (some (⟨pb0, 0, none⟩ : Addr)) = some (⟨b19, o20, none⟩ : Addr) ∧ (
                            Cells H18 b19 o20 1 ∧ ∀ H21 : Heap, Puts H18 b19 o20 [(.slice a16 (l8 + 1) c17)] H21 → (
                              ((In64 (n3 - 1)) ∧
                                (I1 (n3 - 1) H21) ∧ μ2 (n3 - 1) H21 < μ2 n3 H4))))))))))))) ∧ (¬ ((0 : Int) ≤ n3) → (
          R (.tuple #[]) H4))))) := by kernel_rfl


/-- (*pentimento/octet.Writer).U16 -/
theorem vc_wu16 (pb0 : Nat) (x1 : Int) (H : Heap) (R : Value → Heap → Prop) : Walk Try.prog 71 [] [(.pointer (some (⟨pb0, 0, none⟩ : Addr))), (.int .i64 x1)] H R = (
  ∀ q1 : Int, q1 = IntKind.wrap .u64 x1 → (
    Does Try.prog 94 [(.pointer (some (⟨pb0, 0, none⟩ : Addr))), (.int .u64 q1), (.int .i64 2)] H fun v2 H3 => v2 = (.tuple #[]) ∧ (
      R (.tuple #[]) H3))) := by kernel_rfl


/-- (*pentimento/octet.Writer).U32 -/
theorem vc_wu32 (pb0 : Nat) (x1 : Int) (H : Heap) (R : Value → Heap → Prop) : Walk Try.prog 72 [] [(.pointer (some (⟨pb0, 0, none⟩ : Addr))), (.int .i64 x1)] H R = (
  ∀ q1 : Int, q1 = IntKind.wrap .u64 x1 → (
    Does Try.prog 94 [(.pointer (some (⟨pb0, 0, none⟩ : Addr))), (.int .u64 q1), (.int .i64 4)] H fun v2 H3 => v2 = (.tuple #[]) ∧ (
      R (.tuple #[]) H3))) := by kernel_rfl


/-- (*pentimento/octet.Writer).U8 -/
theorem vc_wu8 (pb0 : Nat) (x1 : Int) (H : Heap) (R : Value → Heap → Prop) : Walk Try.prog 73 [] [(.pointer (some (⟨pb0, 0, none⟩ : Addr))), (.int .i64 x1)] H R = (
  ∀ q1 : Int, q1 = IntKind.wrap .u64 x1 → (
    Does Try.prog 94 [(.pointer (some (⟨pb0, 0, none⟩ : Addr))), (.int .u64 q1), (.int .i64 1)] H fun v2 H3 => v2 = (.tuple #[]) ∧ (
      R (.tuple #[]) H3))) := by kernel_rfl


/-- (*pentimento/octet.Writer).Bytes -/
theorem vc_bytes (pb0 : Nat) (H : Heap) (R : Value → Heap → Prop) : Walk Try.prog 74 [] [(.pointer (some (⟨pb0, 0, none⟩ : Addr)))] H R = (
  ∀ b1 : Nat, ∀ H2 : Heap, New H b1 [] 5 H2 → (
    ∃ b3 o4 : Nat, (some (⟨pb0, 0, none⟩ : Addr)) = some (⟨b3, o4, none⟩ : Addr) ∧ (
      ∃ a5 : Option Addr, ∃ l6 : Nat, ∃ c7 : Nat, hcell H2 b3 o4 = some (.slice a5 l6 c7) ∧ (
        ∃ old8 new9 : List Value, SRow H2 1 0 (.slice (some (⟨b1, 0, none⟩ : Addr)) 0 0) old8 ∧ SRow H2 1 l6 (.slice a5 l6 c7) new9 ∧ (∀ u ∈ new9, Value.oneCell' u = true) ∧ (0 + l6) * 1 ≤ 140737488355328 ∧ (0 + l6 ≤ 0 → roomOf H2 (some (⟨b1, 0, none⟩ : Addr)) (0 * 1) (l6 * 1)) ∧ ∀ a10 : Option Addr, ∀ c11 : Nat, ∀ H12 : Heap, App H2 1 5 [(.int .u8 0)] (some (⟨b1, 0, none⟩ : Addr)) 0 0 old8 new9 l6 a10 c11 H12 → (
          R (.slice a10 (0 + l6) c11) H12))))) := by kernel_rfl


/-- pentimento/graph.Lay -/
theorem vc_lay (x0 : Option Addr) (x0l : Nat) (x0c : Nat) (H : Heap) (R : Value → Heap → Prop) : Walk Try.prog 36 [] [(.slice x0 x0l x0c)] H R = (
  Does Try.prog 28 [(.slice x0 x0l x0c)] H fun v1 H2 => ∃ t3 : Bool, v1 = (.bool t3) ∧ (
    (((t3 = false) → (
          R (.tuple #[(.slice none 0 0), (.int .i64 1)]) H2)) ∧ (¬ (t3 = false) → (
          Does Try.prog 70 [] H2 fun v4 H5 => ∃ p6 : Option Addr, v4 = (.pointer p6) ∧ (
            Does Try.prog 71 [(.pointer p6), (.int .i64 (x0l : Int))] H5 fun v7 H8 => v7 = (.tuple #[]) ∧ (
              ∃ I9 : Int → Heap → Prop, ∃ μ10 : Int → Heap → Nat, (I9 0 H8) ∧
              ∀ n11 : Int, ∀ H12 : Heap, I9 n11 H12 → (
                ((((n11 : Int) < (x0l : Int)) → (
                      (0 : Int) ≤ n11 ∧ (n11 : Int) < (x0l : Int) ∧ ∃ b13 o14 : Nat, x0 = some (⟨b13, o14, none⟩ : Addr) ∧ (
                        ∃ n15 : Int, hcell H12 b13 (o14 + (Int.toNat n11) * 4) = some (.int .i64 n15) ∧ (
                          ∃ n16 : Int, hcell H12 b13 ((o14 + (Int.toNat n11) * 4) + 1) = some (.int .i64 n16) ∧ (
                            ∃ n17 : Int, hcell H12 b13 (((o14 + (Int.toNat n11) * 4) + 1) + 1) = some (.int .i64 n17) ∧ (
                              ∃ t18 : Bool, hcell H12 b13 ((((o14 + (Int.toNat n11) * 4) + 1) + 1) + 1) = some (.bool t18) ∧ (
                                ∀ b19 : Nat, ∀ H20 : Heap, New H12 b19 [(.int .i64 0), (.int .i64 0), (.int .i64 0), (.bool false)] 46 H20 → (
                                  Cells H20 b19 0 4 ∧ ∀ H21 : Heap, Puts H20 b19 0 [(.int .i64 n15), (.int .i64 n16), (.int .i64 n17), (.bool t18)] H21 → (
                                    ∃ n22 : Int, hcell H21 b19 0 = some (.int .i64 n22) ∧ (
                                      Does Try.prog 72 [(.pointer p6), (.int .i64 n22)] H21 fun v23 H24 => v23 = (.tuple #[]) ∧ (
                                        ∃ n25 : Int, hcell H24 b19 (0 + 1) = some (.int .i64 n25) ∧ (
                                          Does Try.prog 72 [(.pointer p6), (.int .i64 n25)] H24 fun v26 H27 => v26 = (.tuple #[]) ∧ (
                                            ∃ n28 : Int, hcell H27 b19 (0 + 2) = some (.int .i64 n28) ∧ (
                                              Does Try.prog 72 [(.pointer p6), (.int .i64 n28)] H27 fun v29 H30 => v29 = (.tuple #[]) ∧ (
                                                ∃ t31 : Bool, hcell H30 b19 (0 + 3) = some (.bool t31) ∧ (
                                                  ((t31 = true → (
                                                        Does Try.prog 73 [(.pointer p6), (.int .i64 1)] H30 fun v32 H33 => v32 = (.tuple #[]) ∧ (
                                                          (In64 (n11 + 1)) ∧
                                                          (I9 (n11 + 1) H33) ∧ μ10 (n11 + 1) H33 < μ10 n11 H12))) ∧ (t31 = false → (
                                                        Does Try.prog 73 [(.pointer p6), (.int .i64 0)] H30 fun v34 H35 => v34 = (.tuple #[]) ∧ (
                                                          (In64 (n11 + 1)) ∧
                                                          (I9 (n11 + 1) H35) ∧ μ10 (n11 + 1) H35 < μ10 n11 H12)))))))))))))))))))) ∧ (¬ ((n11 : Int) < (x0l : Int)) → (
                      Does Try.prog 74 [(.pointer p6)] H12 fun v36 H37 => ∃ a38 : Option Addr, ∃ l39 : Nat, ∃ c40 : Nat, v36 = (.slice a38 l39 c40) ∧ (
                        R (.tuple #[(.slice a38 l39 c40), (.int .i64 0)]) H37)))))))))))) := by kernel_rfl


/-- pentimento/octet.NewReader -/
theorem vc_nr (x0 : Option Addr) (x0l : Nat) (x0c : Nat) (H : Heap) (R : Value → Heap → Prop) : Walk Try.prog 75 [] [(.slice x0 x0l x0c)] H R = (
  ∀ b1 : Nat, ∀ H2 : Heap, New H b1 [] 5 H2 → (
    ∃ old3 new4 : List Value, SRow H2 1 0 (.slice (some (⟨b1, 0, none⟩ : Addr)) 0 0) old3 ∧ SRow H2 1 x0l (.slice x0 x0l x0c) new4 ∧ (∀ u ∈ new4, Value.oneCell' u = true) ∧ (0 + x0l) * 1 ≤ 140737488355328 ∧ (0 + x0l ≤ 0 → roomOf H2 (some (⟨b1, 0, none⟩ : Addr)) (0 * 1) (x0l * 1)) ∧ ∀ a5 : Option Addr, ∀ c6 : Nat, ∀ H7 : Heap, App H2 1 5 [(.int .u8 0)] (some (⟨b1, 0, none⟩ : Addr)) 0 0 old3 new4 x0l a5 c6 H7 → (
      ∀ b8 : Nat, ∀ H9 : Heap, New H7 b8 [(.slice a5 (0 + x0l) c6), (.bool false)] 107 H9 → (
        R (.pointer (some (⟨b8, 0, none⟩ : Addr))) H9)))) := by kernel_rfl


/-- (*pentimento/octet.Reader).Raw -/
theorem vc_raw (pb0 : Nat) (x1 : Int) (H : Heap) (R : Value → Heap → Prop) : Walk Try.prog 111 [] [(.pointer (some (⟨pb0, 0, none⟩ : Addr))), (.int .i64 x1)] H R = (
  ∃ b1 o2 : Nat, (some (⟨pb0, 0, none⟩ : Addr)) = some (⟨b1, o2, none⟩ : Addr) ∧ (
    ∃ t3 : Bool, hcell H b1 (o2 + 1) = some (.bool t3) ∧ (
      ((t3 = true → (
            ∃ b4 o5 : Nat, (some (⟨pb0, 0, none⟩ : Addr)) = some (⟨b4, o5, none⟩ : Addr) ∧ (
              Cells H b4 o5 1 ∧ ∀ H6 : Heap, Puts H b4 o5 [(.slice none 0 0)] H6 → (
                ∃ b7 o8 : Nat, (some (⟨pb0, 0, none⟩ : Addr)) = some (⟨b7, o8, none⟩ : Addr) ∧ (
                  Cells H6 b7 (o8 + 1) 1 ∧ ∀ H9 : Heap, Puts H6 b7 (o8 + 1) [(.bool true)] H9 → (
                    R (.slice none 0 0) H9)))))) ∧ (t3 = false → (
            ((((x1 : Int) < 0) → (
                  ∃ b10 o11 : Nat, (some (⟨pb0, 0, none⟩ : Addr)) = some (⟨b10, o11, none⟩ : Addr) ∧ (
                    Cells H b10 o11 1 ∧ ∀ H12 : Heap, Puts H b10 o11 [(.slice none 0 0)] H12 → (
                      ∃ b13 o14 : Nat, (some (⟨pb0, 0, none⟩ : Addr)) = some (⟨b13, o14, none⟩ : Addr) ∧ (
                        Cells H12 b13 (o14 + 1) 1 ∧ ∀ H15 : Heap, Puts H12 b13 (o14 + 1) [(.bool true)] H15 → (
                          R (.slice none 0 0) H15)))))) ∧ (¬ ((x1 : Int) < 0) → (
                  ∃ b16 o17 : Nat, (some (⟨pb0, 0, none⟩ : Addr)) = some (⟨b16, o17, none⟩ : Addr) ∧ (
                    ∃ a18 : Option Addr, ∃ l19 : Nat, ∃ c20 : Nat, hcell H b16 o17 = some (.slice a18 l19 c20) ∧ (
                      (((((l19 : Int) : Int) < x1) → (
                            ∃ b21 o22 : Nat, (some (⟨pb0, 0, none⟩ : Addr)) = some (⟨b21, o22, none⟩ : Addr) ∧ (
                              Cells H b21 o22 1 ∧ ∀ H23 : Heap, Puts H b21 o22 [(.slice none 0 0)] H23 → (
                                ∃ b24 o25 : Nat, (some (⟨pb0, 0, none⟩ : Addr)) = some (⟨b24, o25, none⟩ : Addr) ∧ (
                                  Cells H23 b24 (o25 + 1) 1 ∧ ∀ H26 : Heap, Puts H23 b24 (o25 + 1) [(.bool true)] H26 → (
                                    R (.slice none 0 0) H26)))))) ∧ (¬ (((l19 : Int) : Int) < x1) → (
                            ∀ b27 : Nat, ∀ H28 : Heap, New H b27 [] 5 H28 → (
                              ∃ b29 o30 : Nat, (some (⟨pb0, 0, none⟩ : Addr)) = some (⟨b29, o30, none⟩ : Addr) ∧ (
                                ∃ a31 : Option Addr, ∃ l32 : Nat, ∃ c33 : Nat, hcell H28 b29 o30 = some (.slice a31 l32 c33) ∧ (
                                  (0 : Int) ≤ x1 ∧ (x1 : Int) ≤ (c33 : Int) ∧ (
                                    ∃ old34 new35 : List Value, SRow H28 1 0 (.slice (some (⟨b27, 0, none⟩ : Addr)) 0 0) old34 ∧ SRow H28 1 (Int.toNat x1) (.slice a31 (Int.toNat x1) c33) new35 ∧ (∀ u ∈ new35, Value.oneCell' u = true) ∧ (0 + (Int.toNat x1)) * 1 ≤ 140737488355328 ∧ (0 + (Int.toNat x1) ≤ 0 → roomOf H28 (some (⟨b27, 0, none⟩ : Addr)) (0 * 1) ((Int.toNat x1) * 1)) ∧ ∀ a36 : Option Addr, ∀ c37 : Nat, ∀ H38 : Heap, App H28 1 5 [(.int .u8 0)] (some (⟨b27, 0, none⟩ : Addr)) 0 0 old34 new35 (Int.toNat x1) a36 c37 H38 → (
                                      ∃ b39 o40 : Nat, (some (⟨pb0, 0, none⟩ : Addr)) = some (⟨b39, o40, none⟩ : Addr) ∧ (
                                        ∃ a41 : Option Addr, ∃ l42 : Nat, ∃ c43 : Nat, hcell H38 b39 o40 = some (.slice a41 l42 c43) ∧ (
                                          (0 : Int) ≤ x1 ∧ (x1 : Int) ≤ (l42 : Int) ∧ ∀ a44 : Option Addr, a44 = (if c43 = (Int.toNat x1) then a41 else Option.map (fun x => Addr.add x ((Int.toNat x1) * 1)) a41) → (
                                            ∃ b45 o46 : Nat, (some (⟨pb0, 0, none⟩ : Addr)) = some (⟨b45, o46, none⟩ : Addr) ∧ (
                                              Cells H38 b45 o46 1 ∧ ∀ H47 : Heap, Puts H38 b45 o46 [(.slice a44 (l42 - (Int.toNat x1)) (c43 - (Int.toNat x1)))] H47 → (
                                                R (.slice a36 (0 + (Int.toNat x1)) c37) H47)))))))))))))))))))))))) := by kernel_rfl


/-- (*pentimento/octet.Reader).get -/
theorem vc_get (pb0 : Nat) (x1 : Int) (H : Heap) (R : Value → Heap → Prop) : Walk Try.prog 95 [] [(.pointer (some (⟨pb0, 0, none⟩ : Addr))), (.int .i64 x1)] H R = (
  Does Try.prog 111 [(.pointer (some (⟨pb0, 0, none⟩ : Addr))), (.int .i64 x1)] H fun v1 H2 => ∃ a3 : Option Addr, ∃ l4 : Nat, ∃ c5 : Nat, v1 = (.slice a3 l4 c5) ∧ (
    ∃ I6 : Int → Int → Heap → Prop, ∃ μ7 : Int → Int → Heap → Nat, (I6 0 0 H2) ∧
    ∀ n8 : Int, ∀ n9 : Int, ∀ H10 : Heap, I6 n8 n9 H10 → (
      ((((n9 : Int) < (l4 : Int)) → (
            (0 : Int) ≤ n9 ∧ (n9 : Int) < (l4 : Int) ∧ ∃ b11 o12 : Nat, a3 = some (⟨b11, o12, none⟩ : Addr) ∧ (
              ∃ n13 : Int, hcell H10 b11 (o12 + (Int.toNat n9)) = some (.int .u8 n13) ∧ (
                ((0 : Int) ≤ 8) ∧
                ∀ q14 : Int, q14 = IntKind.wrap .u64 (n8 * 2 ^ (min (Int.toNat 8) (IntKind.bits .u64))) → (
                  ∀ q15 : Int, q15 = IntKind.wrap .u64 n13 → (
                    ∀ q16 : Int, q16 = bits .or .u64 q14 q15 → (
                      (In64 (n9 + 1)) ∧
                      (I6 q16 (n9 + 1) H10) ∧ μ7 q16 (n9 + 1) H10 < μ7 n8 n9 H10))))))) ∧ (¬ ((n9 : Int) < (l4 : Int)) → (
            R (.int .u64 n8) H10)))))) := by kernel_rfl


/-- (*pentimento/octet.Reader).U16 -/
theorem vc_ru16 (pb0 : Nat) (H : Heap) (R : Value → Heap → Prop) : Walk Try.prog 76 [] [(.pointer (some (⟨pb0, 0, none⟩ : Addr)))] H R = (
  Does Try.prog 95 [(.pointer (some (⟨pb0, 0, none⟩ : Addr))), (.int .i64 2)] H fun v1 H2 => ∃ n3 : Int, v1 = (.int .u64 n3) ∧ (
    ∀ q4 : Int, q4 = IntKind.wrap .i64 n3 → (
      R (.int .i64 q4) H2))) := by kernel_rfl


/-- (*pentimento/octet.Reader).Lack -/
theorem vc_lack (pb0 : Nat) (H : Heap) (R : Value → Heap → Prop) : Walk Try.prog 77 [] [(.pointer (some (⟨pb0, 0, none⟩ : Addr)))] H R = (
  ∃ b1 o2 : Nat, (some (⟨pb0, 0, none⟩ : Addr)) = some (⟨b1, o2, none⟩ : Addr) ∧ (
    ∃ t3 : Bool, hcell H b1 (o2 + 1) = some (.bool t3) ∧ (
      R (.bool t3) H))) := by kernel_rfl


/-- (*pentimento/octet.Reader).U32 -/
theorem vc_ru32 (pb0 : Nat) (H : Heap) (R : Value → Heap → Prop) : Walk Try.prog 78 [] [(.pointer (some (⟨pb0, 0, none⟩ : Addr)))] H R = (
  Does Try.prog 95 [(.pointer (some (⟨pb0, 0, none⟩ : Addr))), (.int .i64 4)] H fun v1 H2 => ∃ n3 : Int, v1 = (.int .u64 n3) ∧ (
    ∀ q4 : Int, q4 = IntKind.wrap .i64 n3 → (
      R (.int .i64 q4) H2))) := by kernel_rfl


/-- (*pentimento/octet.Reader).U8 -/
theorem vc_ru8 (pb0 : Nat) (H : Heap) (R : Value → Heap → Prop) : Walk Try.prog 79 [] [(.pointer (some (⟨pb0, 0, none⟩ : Addr)))] H R = (
  Does Try.prog 95 [(.pointer (some (⟨pb0, 0, none⟩ : Addr))), (.int .i64 1)] H fun v1 H2 => ∃ n3 : Int, v1 = (.int .u64 n3) ∧ (
    ∀ q4 : Int, q4 = IntKind.wrap .i64 n3 → (
      R (.int .i64 q4) H2))) := by kernel_rfl


/-- slices.Equal[[]byte,byte] -/
theorem vc_eq (x0 : Option Addr) (x0l : Nat) (x0c : Nat) (x1 : Option Addr) (x1l : Nat) (x1c : Nat) (H : Heap) (R : Value → Heap → Prop) : Walk Try.prog 80 [] [(.slice x0 x0l x0c), (.slice x1 x1l x1c)] H R = (
  (((((x0l : Int) : Int) ≠ (x1l : Int)) → (
        R (.bool false) H)) ∧ (¬ (((x0l : Int) : Int) ≠ (x1l : Int)) → (
        ∃ I1 : Int → Heap → Prop, ∃ μ2 : Int → Heap → Nat, (I1 0 H) ∧
        ∀ n3 : Int, ∀ H4 : Heap, I1 n3 H4 → (
          ((((n3 : Int) < (x0l : Int)) → (
                (0 : Int) ≤ n3 ∧ (n3 : Int) < (x0l : Int) ∧ ∃ b5 o6 : Nat, x0 = some (⟨b5, o6, none⟩ : Addr) ∧ (
                  ∃ n7 : Int, hcell H4 b5 (o6 + (Int.toNat n3)) = some (.int .u8 n7) ∧ (
                    (0 : Int) ≤ n3 ∧ (n3 : Int) < (x1l : Int) ∧ ∃ b8 o9 : Nat, x1 = some (⟨b8, o9, none⟩ : Addr) ∧ (
                      ∃ n10 : Int, hcell H4 b8 (o9 + (Int.toNat n3)) = some (.int .u8 n10) ∧ (
                        ((((n7 : Int) ≠ n10) → (
                              R (.bool false) H4)) ∧ (¬ ((n7 : Int) ≠ n10) → (
                              (In64 (n3 + 1)) ∧
                              (I1 (n3 + 1) H4) ∧ μ2 (n3 + 1) H4 < μ2 n3 H4))))))))) ∧ (¬ ((n3 : Int) < (x0l : Int)) → (
                R (.bool true) H4)))))))) := by kernel_rfl


/-- pentimento/graph.Read -/
theorem vc_read (x0 : Option Addr) (x0l : Nat) (x0c : Nat) (H : Heap) (R : Value → Heap → Prop) : Walk Try.prog 37 [] [(.slice x0 x0l x0c)] H R = (
  Does Try.prog 75 [(.slice x0 x0l x0c)] H fun v1 H2 => ∃ p3 : Option Addr, v1 = (.pointer p3) ∧ (
    Does Try.prog 76 [(.pointer p3)] H2 fun v4 H5 => ∃ n6 : Int, v4 = (.int .i64 n6) ∧ (
      ∃ I7 : Option Addr → Nat → Nat → Int → Heap → Prop, ∃ μ8 : Option Addr → Nat → Nat → Int → Heap → Nat, (I7 none 0 0 n6 H5) ∧
      ∀ a9 : Option Addr, ∀ l10 : Nat, ∀ c11 : Nat, ∀ n12 : Int, ∀ H13 : Heap, I7 a9 l10 c11 n12 H13 → (
        ((((0 : Int) < n12) → (
              Does Try.prog 77 [(.pointer p3)] H13 fun v14 H15 => ∃ t16 : Bool, v14 = (.bool t16) ∧ (
                (((t16 = false) → (
                      Does Try.prog 78 [(.pointer p3)] H15 fun v17 H18 => ∃ n19 : Int, v17 = (.int .i64 n19) ∧ (
                        Does Try.prog 78 [(.pointer p3)] H18 fun v20 H21 => ∃ n22 : Int, v20 = (.int .i64 n22) ∧ (
                          Does Try.prog 78 [(.pointer p3)] H21 fun v23 H24 => ∃ n25 : Int, v23 = (.int .i64 n25) ∧ (
                            Does Try.prog 79 [(.pointer p3)] H24 fun v26 H27 => ∃ n28 : Int, v26 = (.int .i64 n28) ∧ (
                              ∀ b29 : Nat, ∀ H30 : Heap, New H27 b29 [(.int .i64 n19), (.int .i64 n22), (.int .i64 n25), (.bool (@decide ((0 : Int) < n28) (Classical.propDecidable _)))] 46 H30 → (
                                ∃ old31 new32 : List Value, SRow H30 4 l10 (.slice a9 l10 c11) old31 ∧ SRow H30 4 1 (.slice (some (⟨b29, 0, none⟩ : Addr)) 1 1) new32 ∧ (∀ u ∈ new32, Value.oneCell' u = true) ∧ (l10 + 1) * 32 ≤ 140737488355328 ∧ (l10 + 1 ≤ c11 → roomOf H30 a9 (l10 * 4) (1 * 4)) ∧ ∀ a33 : Option Addr, ∀ c34 : Nat, ∀ H35 : Heap, App H30 4 46 [(.int .i64 0), (.int .i64 0), (.int .i64 0), (.bool false)] a9 l10 c11 old31 new32 1 a33 c34 H35 → (
                                  (In64 (n12 - 1)) ∧
                                  (I7 a33 (l10 + 1) c34 (n12 - 1) H35) ∧ μ8 a33 (l10 + 1) c34 (n12 - 1) H35 < μ8 a9 l10 c11 n12 H13)))))))) ∧ (¬ (t16 = false) → (
                      Does Try.prog 36 [(.slice a9 l10 c11)] H15 fun v36 H37 => ∃ a38 : Option Addr, ∃ l39 : Nat, ∃ c40 : Nat, ∃ n41 : Int, v36 = (.tuple #[(.slice a38 l39 c40), (.int .i64 n41)]) ∧ (
                        ((((n41 : Int) ≠ 0) → (
                              R (.tuple #[(.slice none 0 0), (.int .i64 2)]) H37)) ∧ (¬ ((n41 : Int) ≠ 0) → (
                              Does Try.prog 80 [(.slice a38 l39 c40), (.slice x0 x0l x0c)] H37 fun v42 H43 => ∃ t44 : Bool, v42 = (.bool t44) ∧ (
                                (((t44 = false) → (
                                      R (.tuple #[(.slice none 0 0), (.int .i64 2)]) H43)) ∧ (¬ (t44 = false) → (
                                      R (.tuple #[(.slice a9 l10 c11), (.int .i64 0)]) H43)))))))))))))) ∧ (¬ ((0 : Int) < n12) → (
              Does Try.prog 36 [(.slice a9 l10 c11)] H13 fun v45 H46 => ∃ a47 : Option Addr, ∃ l48 : Nat, ∃ c49 : Nat, ∃ n50 : Int, v45 = (.tuple #[(.slice a47 l48 c49), (.int .i64 n50)]) ∧ (
                ((((n50 : Int) ≠ 0) → (
                      R (.tuple #[(.slice none 0 0), (.int .i64 2)]) H46)) ∧ (¬ ((n50 : Int) ≠ 0) → (
                      Does Try.prog 80 [(.slice a47 l48 c49), (.slice x0 x0l x0c)] H46 fun v51 H52 => ∃ t53 : Bool, v51 = (.bool t53) ∧ (
                        (((t53 = false) → (
                              R (.tuple #[(.slice none 0 0), (.int .i64 2)]) H52)) ∧ (¬ (t53 = false) → (
                              R (.tuple #[(.slice a9 l10 c11), (.int .i64 0)]) H52))))))))))))))) := by kernel_rfl


/-- pentimento/pentimentoref1.SameInts -/
theorem vc_same (x0 : Option Addr) (x0l : Nat) (x0c : Nat) (x1 : Option Addr) (x1l : Nat) (x1c : Nat) (H : Heap) (R : Value → Heap → Prop) : Walk Try.prog 38 [] [(.slice x0 x0l x0c), (.slice x1 x1l x1c)] H R = (
  (((((x0l : Int) : Int) ≠ (x1l : Int)) → (
        R (.bool false) H)) ∧ (¬ (((x0l : Int) : Int) ≠ (x1l : Int)) → (
        ∃ I1 : Int → Heap → Prop, ∃ μ2 : Int → Heap → Nat, (I1 0 H) ∧
        ∀ n3 : Int, ∀ H4 : Heap, I1 n3 H4 → (
          ((((n3 : Int) < (x0l : Int)) → (
                (0 : Int) ≤ n3 ∧ (n3 : Int) < (x0l : Int) ∧ ∃ b5 o6 : Nat, x0 = some (⟨b5, o6, none⟩ : Addr) ∧ (
                  ∃ n7 : Int, hcell H4 b5 (o6 + (Int.toNat n3)) = some (.int .i64 n7) ∧ (
                    (0 : Int) ≤ n3 ∧ (n3 : Int) < (x1l : Int) ∧ ∃ b8 o9 : Nat, x1 = some (⟨b8, o9, none⟩ : Addr) ∧ (
                      ∃ n10 : Int, hcell H4 b8 (o9 + (Int.toNat n3)) = some (.int .i64 n10) ∧ (
                        ((((n7 : Int) ≠ n10) → (
                              R (.bool false) H4)) ∧ (¬ ((n7 : Int) ≠ n10) → (
                              (In64 (n3 + 1)) ∧
                              (I1 (n3 + 1) H4) ∧ μ2 (n3 + 1) H4 < μ2 n3 H4))))))))) ∧ (¬ ((n3 : Int) < (x0l : Int)) → (
                R (.bool true) H4)))))))) := by kernel_rfl


end Go.Proofs
end

section
open Go Go.Vc
namespace Go.Proofs

theorem wrap_u64 (n : Int) : IntKind.wrap .u64 n = n % 18446744073709551616 := by
  simp only [IntKind.wrap, IntKind.bits, IntKind.signed]
  simp
theorem wrap_u8 (n : Int) : IntKind.wrap .u8 n = n % 256 := by
  simp only [IntKind.wrap, IntKind.bits, IntKind.signed]
  simp

theorem of_nat (n : Nat) (h : n < 18446744073709551616) : (BitVec.ofInt 64 (n : Int)).toNat = n := by
  rw [BitVec.toNat_ofInt]
  show ((n : Int) % 18446744073709551616).toNat = n
  omega

theorem or_low (n m : Nat) (h : n * 256 < 18446744073709551616) (hm : m < 256) : bits .or .u64 ((n : Int) * 256) m = (n : Int) * 256 + m := by
  unfold bits
  show IntKind.wrap .u64 ((BitVec.ofInt 64 ((n : Int) * 256) ||| BitVec.ofInt 64 (m : Int)).toNat : Int) = _
  have e : ((n : Int) * 256) = ((n * 256 : Nat) : Int) := by omega
  rw [e, BitVec.toNat_or, of_nat _ h, of_nat _ (by omega), wrap_u64]
  have := Nat.two_pow_add_eq_or_of_lt (i := 8) (b := m) hm n
  rw [show n * 256 = 2 ^ 8 * n by omega, ← this]
  omega

def u8s (l : List Int) : List Value := l.map fun z => .int .u8 z
theorem u8s_length (l : List Int) : (u8s l).length = l.length := by simp [u8s]
theorem u8s_append (l m : List Int) : u8s (l ++ m) = u8s l ++ u8s m := by simp [u8s]
theorem u8s_one (l : List Int) : ∀ u ∈ u8s l, Value.oneCell' u = true := by
  intro u hu
  obtain ⟨z, _, rfl⟩ := List.mem_map.1 hu
  rfl
theorem u8s_at {l : List Int} {j : Nat} {z : Int} (h : l[j]? = some z) : (u8s l)[j]? = some (.int .u8 z) := by simp [u8s, h]
theorem u8s_take (l : List Int) (k : Nat) : u8s (l.take k) = (u8s l).take k := by simp [u8s]
theorem u8s_drop (l : List Int) (k : Nat) : u8s (l.drop k) = (u8s l).drop k := by simp [u8s]

/-- The bytes of a number, the highest first. -/
def beL : Nat → Int → List Int
  | 0, _ => []
  | n + 1, v => (v / 256 ^ n % 256) :: beL n v
theorem beL_length : ∀ (n : Nat) (v : Int), (beL n v).length = n
  | 0, _ => rfl
  | n + 1, v => by simp [beL, beL_length n v]

/-! ### A writer -/
def WIs (G : Nat → Prop) (H : Heap) (b : Nat) (bs : List Int) : Prop :=
  G b ∧ ∃ a c, Blk H b [.slice a bs.length c] ∧ Own H 1 a bs.length c (u8s bs) ∧ b ∉ blkOf a ∧ ∀ k ∈ blkOf a, G k

theorem WIs.lt {G : Nat → Prop} {H : Heap} {b : Nat} {bs : List Int} (h : WIs G H b bs) : b < H.size := by
  obtain ⟨_, a, c, h1, _⟩ := h; exact h1.lt
theorem WIs.mono {G G' : Nat → Prop} {H : Heap} {b : Nat} {bs : List Int} (h : WIs G H b bs) (hg : ∀ k, k < H.size → G k → G' k) : WIs G' H b bs := by
  have hlt := h.lt
  obtain ⟨h0, a, c, h1, h2, h3, h4⟩ := h
  exact ⟨hg b hlt h0, a, c, h1, h2, h3, fun k hk => hg k (h2.lt k hk) (h4 k hk)⟩
theorem WIs.extP {G M : Nat → Prop} {H H' : Heap} {b : Nat} {bs : List Int} (h : WIs G H b bs) (he : ExtP M H H') (hm : ∀ k, G k → ¬ M k) : WIs G H' b bs := by
  obtain ⟨h0, a, c, h1, h2, h3, h4⟩ := h
  exact ⟨h0, a, c, h1.extP he (hm b h0), h2.extP he (fun k hk => hm k (h4 k hk)), h3, h4⟩
theorem WIs.ext {G : Nat → Prop} {H H' : Heap} {b : Nat} {bs : List Int} (h : WIs G H b bs) (he : Ext [] H H') : WIs G H' b bs := by
  obtain ⟨h0, a, c, h1, h2, h3, h4⟩ := h
  exact ⟨h0, a, c, h1.ext he (by simp), h2.ext he (by simp), h3, h4⟩

theorem nw_ok (H : Heap) : Does Try.prog 70 [] H fun v H' => v = .pointer (some ⟨H.size, 0, none⟩) ∧ WIs (fun k => H.size ≤ k) H' H.size [] ∧ Ext [] H H' := by
  refine Fn_of_vc Try.mixed (vc_nw _ _) ?_
  intro b H2 hn
  have := hn.eq
  subst this
  exact ⟨rfl, ⟨Nat.le_refl _, none, 0, hn.blk, Own.nil _ _, by simp [blkOf], by simp [blkOf]⟩, hn.ext⟩

theorem pow8 (k : Nat) : (2 : Int) ^ (8 * k) = 256 ^ k := by
  rw [Int.pow_mul]; rfl

theorem put_ok {G : Nat → Prop} {b : Nat} {bs : List Int} {x : Int} {n : Nat} {H : Heap} (hG : ∀ k, H.size ≤ k → G k) (hn : n ≤ 8) (hl : bs.length ≤ 1000000) (h : WIs G H b bs) :
    Does Try.prog 94 [.pointer (some ⟨b, 0, none⟩), .int .u64 x, .int .i64 n] H fun v H' => v = .tuple #[] ∧ WIs G H' b (bs ++ beL n x) ∧ ExtP G H H' := by
  refine Fn_of_vc Try.mixed (vc_put _ _ _ _ _) ?_
  refine ⟨⟨by omega, by omega⟩, fun i H' => ∃ (j : Nat) (d : List Int), i = (j : Int) - 1 ∧ j ≤ n ∧ WIs G H' b d ∧ d ++ beL j x = bs ++ beL n x ∧ ExtP G H H', fun i _ => (i + 1).toNat, ⟨n, bs, rfl, Nat.le_refl _, h, rfl, ExtP.refl _ _⟩, ?_⟩
  rintro _ H4 ⟨j, d, rfl, hj, hw, hd, hx4⟩
  refine ⟨fun h0 => ?_, fun h0 => ?_⟩
  · obtain ⟨k, rfl⟩ : ∃ k, j = k + 1 := ⟨j - 1, by omega⟩
    have hdl : d.length ≤ 1000008 := by
      have := congrArg List.length hd
      simp only [List.length_append, beL_length] at this
      omega
    have hblt := hw.lt
    obtain ⟨g0, a, c, hb, ho, hnb, hg⟩ := hw
    have ek : (8 * (((k + 1 : Nat) : Int) - 1)) = ((8 * k : Nat) : Int) := by omega
    refine ⟨b, 0, rfl, a, _, c, by rw [hb.cell]; rfl, ⟨by omega, by omega⟩, by omega, ?_⟩
    rintro _ rfl _ rfl b12 H13 hn13
    have hq : IntKind.wrap .u8 (Int.fdiv x (2 ^ (min (Int.toNat (8 * (((k + 1 : Nat) : Int) - 1))) (IntKind.bits .u64)))) = x / 256 ^ k % 256 := by
      rw [ek, Int.toNat_natCast, show min (8 * k) (IntKind.bits .u64) = 8 * k from Nat.min_eq_left (by show 8 * k ≤ 64; omega), pow8, wrap_u8, Int.fdiv_eq_ediv_of_nonneg _ (Int.pow_nonneg (by decide))]
    rw [hq] at hn13
    have ho13 := ho.ext hn13.ext (by simp)
    have hb13 := hb.ext hn13.ext (by simp)
    refine ⟨⟨by rw [hb13.cell]; rfl, trivial⟩, u8s d, [.int .u8 (x / 256 ^ k % 256)], ho13.row _ _, ⟨rfl, .inr rfl, fun i u hi => ?_⟩, u8s_one [x / 256 ^ k % 256], by omega, fun hle => by simpa using ho13.room (n := 1) hle, ?_⟩
    · show hcell H13 b12 (0 + i) = some u
      rw [Nat.zero_add, hn13.blk.cell]; exact hi
    intro a16 c17 H18 happ
    obtain ⟨ho18, hx18, hfr18⟩ := happ.own ho13 (ho13.row _ _) rfl rfl
    have hb18 := hb13.ext hx18 hnb
    refine ⟨b, 0, rfl, hb18.cells _ _ (by simp), fun H21 hp => ?_⟩
    have hb21 := hp.blk hb18 (by simp)
    have hs13 := hn13.size
    have hs18 := hx18.size
    have hnb16 : b ∉ blkOf a16 := by
      intro hm
      rcases hfr18 b hm with h' | h'
      · exact hnb h'
      · omega
    have ho21 := ho18.ext hp.ext (fun k hk hm => by simp only [List.mem_singleton] at hm; subst hm; exact hnb16 hk)
    have hx21 : ExtP G H4 H21 := (hn13.ext.anyP.trans (hx18.lift (fun k _ hk => hg k hk))).trans (hp.ext.lift (fun k _ hk => by simp only [List.mem_singleton] at hk; subst hk; exact g0))
    have hs4 := hx4.size
    refine ⟨⟨by omega, by omega⟩, ⟨k, d ++ [x / 256 ^ k % 256], by omega, by omega, ⟨g0, a16, c17, ?_, ?_, hnb16, ?_⟩, ?_, hx4.trans hx21⟩, by simp only []; omega⟩
    · simpa [splice] using hb21
    · rw [u8s_append, List.length_append]; exact ho21
    · intro k' hk'
      rcases hfr18 k' hk' with h' | h'
      · exact hg k' h'
      · exact hG k' (by omega)
    · rw [← hd, List.append_assoc]; rfl
  · have : j = 0 := by omega
    subst this
    have e : d = bs ++ beL n x := by rw [← hd]; simp [beL]
    subst e
    exact ⟨rfl, hw, hx4⟩

theorem wu_ok {G : Nat → Prop} {f n : Nat} {b : Nat} {bs : List Int} {x : Int} {H : Heap} (hf : (f = 71 ∧ n = 2) ∨ (f = 72 ∧ n = 4) ∨ (f = 73 ∧ n = 1)) (hG : ∀ k, H.size ≤ k → G k) (hl : bs.length ≤ 1000000) (h : WIs G H b bs) :
    Does Try.prog f [.pointer (some ⟨b, 0, none⟩), .int .i64 x] H fun v H' => v = .tuple #[] ∧ WIs G H' b (bs ++ beL n (IntKind.wrap .u64 x)) ∧ ExtP G H H' := by
  rcases hf with ⟨rfl, rfl⟩ | ⟨rfl, rfl⟩ | ⟨rfl, rfl⟩
  · refine Fn_of_vc Try.mixed (vc_wu16 _ _ _ _) ?_
    rintro _ rfl
    refine (put_ok (n := 2) hG (by omega) hl h).mono ?_
    rintro _ _ ⟨rfl, h1, h2⟩
    exact ⟨rfl, rfl, h1, h2⟩
  · refine Fn_of_vc Try.mixed (vc_wu32 _ _ _ _) ?_
    rintro _ rfl
    refine (put_ok (n := 4) hG (by omega) hl h).mono ?_
    rintro _ _ ⟨rfl, h1, h2⟩
    exact ⟨rfl, rfl, h1, h2⟩
  · refine Fn_of_vc Try.mixed (vc_wu8 _ _ _ _) ?_
    rintro _ rfl
    refine (put_ok (n := 1) hG (by omega) hl h).mono ?_
    rintro _ _ ⟨rfl, h1, h2⟩
    exact ⟨rfl, rfl, h1, h2⟩

/-- Bytes that are told are new. -/
def Told (H : Heap) (H' : Heap) (v : Value) (bs : List Int) : Prop :=
  ∃ a c, v = .slice a bs.length c ∧ Own H' 1 a bs.length c (u8s bs) ∧ ∀ k ∈ blkOf a, H.size ≤ k

theorem fresh_copy {bs : List Int} {H H2 H12 : Heap} {b1 l : Nat} {a10 : Option Addr} {c11 : Nat} (hn : New H b1 [] 5 H2) (hl : bs.length = l) (happ : App H2 1 5 [(.int .u8 0)] (some ⟨b1, 0, none⟩) 0 0 [] (u8s bs) l a10 c11 H12) :
    Own H12 1 a10 (0 + l) c11 (u8s bs) ∧ Ext [] H H12 ∧ ∀ k ∈ blkOf a10, H.size ≤ k := by
  have ho : Own H2 1 (some ⟨b1, 0, none⟩) 0 0 ([] : List Value) := Own.of_new (size := 1) (len := 0) (cap := 0) hn.blk rfl (Nat.le_refl _) (by decide)
  obtain ⟨h1, h2, h3⟩ := happ.own ho (ho.row _ _) (by rw [u8s_length]; omega) rfl
  have := hn.eq
  have := hn.size
  refine ⟨by simpa using h1, ext_new hn.ext h2 (fun k hk => by simp only [blkOf, List.mem_singleton] at hk; omega), fun k hk => ?_⟩
  rcases h3 k hk with h' | h'
  · simp only [blkOf, List.mem_singleton] at h'; omega
  · omega

theorem bytes_ok {G : Nat → Prop} {b : Nat} {bs : List Int} {H : Heap} (hl : bs.length ≤ 1000000) (h : WIs G H b bs) :
    Does Try.prog 74 [.pointer (some ⟨b, 0, none⟩)] H fun v H' => Told H H' v bs ∧ Ext [] H H' := by
  refine Fn_of_vc Try.mixed (vc_bytes _ _ _) ?_
  intro b1 H2 hn
  obtain ⟨g0, a, c, hb, ho, hnb, hg⟩ := h
  have hb2 := hb.ext hn.ext (by simp)
  have ho2 := ho.ext hn.ext (by simp)
  have hoe : Own H2 1 (some ⟨b1, 0, none⟩) 0 0 ([] : List Value) := Own.of_new (size := 1) (len := 0) (cap := 0) hn.blk rfl (Nat.le_refl _) (by decide)
  refine ⟨b, 0, rfl, a, _, c, by rw [hb2.cell]; rfl, [], u8s bs, hoe.row _ _, ho2.row _ _, u8s_one _, by omega, fun hle => hoe.room (n := bs.length) hle, fun a10 c11 H12 happ => ?_⟩
  obtain ⟨h1, h2, h3⟩ := fresh_copy hn rfl happ
  rw [Nat.zero_add] at h1 ⊢
  exact ⟨⟨_, _, rfl, h1, h3⟩, h2⟩
end Go.Proofs
end

section
open Go Go.Vc
namespace Go.Proofs

def frI (b : Bool) : Int := if b then 1 else 0
def recB (x : Ly) : List Int := beL 4 (IntKind.wrap .u64 x.id) ++ beL 4 (IntKind.wrap .u64 x.par) ++ beL 4 (IntKind.wrap .u64 x.sec) ++ beL 1 (IntKind.wrap .u64 (frI x.fr))
def layB (L : List Ly) : List Int := beL 2 (IntKind.wrap .u64 L.length) ++ (L.map recB).flatten
theorem recB_length (x : Ly) : (recB x).length = 13 := by simp [recB, beL_length]
theorem recs_length (L : List Ly) : ((L.map recB).flatten).length = L.length * 13 := by
  induction L with
  | nil => rfl
  | cons x r ih => simp only [List.map_cons, List.flatten_cons, List.length_append, ih, recB_length, List.length_cons]; omega
theorem layB_length (L : List Ly) : (layB L).length = 2 + L.length * 13 := by
  unfold layB; rw [List.length_append, beL_length, recs_length]

/-- What laying tells. -/
def Laid (L : List Ly) (H : Heap) (v : Value) (H' : Heap) : Prop :=
  (rightB L = false ∧ v = .tuple #[.slice none 0 0, .int .i64 1]) ∨ (rightB L = true ∧ ∃ a c, v = .tuple #[.slice a (layB L).length c, .int .i64 0] ∧ Own H' 1 a (layB L).length c (u8s (layB L)) ∧ ∀ k ∈ blkOf a, H.size ≤ k)

set_option maxHeartbeats 1000000 in
theorem lay_ok {L : List Ly} {a : Option Addr} {c : Nat} {H : Heap} (hl : L.length ≤ 100000) (hc : L.length ≤ c) (h : LRow H a L) :
    Does Try.prog 36 [.slice a L.length c] H fun v H' => Laid L H v H' ∧ Ext [] H H' := by
  refine Fn_of_vc Try.mixed (vc_lay _ _ _ _ _) ?_
  refine (right_ok hl hc h).mono ?_
  rintro _ H2 ⟨rfl, hx2⟩
  refine ⟨_, rfl, fun e => ⟨.inl ⟨e, rfl⟩, hx2⟩, fun e => ?_⟩
  have hr : rightB L = true := by simpa using e
  have hl40 := (right_iff.1 hr).2.2
  refine (nw_ok H2).mono ?_
  rintro _ H5 ⟨rfl, hw5, hx5⟩
  refine ⟨_, rfl, (wu_ok (n := 2) (.inl ⟨rfl, rfl⟩) (fun k hk => by have := hx5.size; show H2.size ≤ k; omega) (by simp) hw5).mono ?_⟩
  rintro _ H8 ⟨rfl, hw8, hx8⟩
  have hX8 : Ext [] H H8 := hx2.trans (hx5.transP hx8 (fun i hi => hi))
  have hs2 := hx2.size
  have hs8 := hX8.size
  refine ⟨rfl, fun i H' => ∃ j : Nat, i = j ∧ j ≤ L.length ∧ Ext [] H H' ∧ H2.size ≤ H'.size ∧ WIs (fun k => H2.size ≤ k) H' H2.size (beL 2 (IntKind.wrap .u64 L.length) ++ ((L.take j).map recB).flatten), fun i _ => L.length - i.toNat, ⟨0, rfl, by omega, hX8, by have := hx5.size; have := hx8.size; omega, by simpa using hw8⟩, ?_⟩
  rintro _ H12 ⟨j, rfl, hj, hx12, hs12, hw12⟩
  refine ⟨fun hlt => ?_, fun hge => ?_⟩
  · have hi : L[j]? = some L[j] := List.getElem?_eq_getElem (by omega)
    have htk : L.take (j + 1) = L.take j ++ [L[j]] := by rw [List.take_add_one, hi]; rfl
    obtain ⟨b13, o14, ea, g0, g1, g2, g3⟩ := (h.ext hx12 (by simp)).at hi
    generalize L[j] = x at *
    refine ⟨by omega, hlt, b13, o14, ea, _, by rw [Int.toNat_natCast]; exact g0, _, by rw [Int.toNat_natCast]; exact g1, _, by rw [Int.toNat_natCast]; exact g2, _, by rw [Int.toNat_natCast]; exact g3, fun b19 H20 hn20 => ⟨hn20.blk.cells _ _ (by simp), fun H21 hp21 => ?_⟩⟩
    have hb21 := hp21.blk hn20.blk (by simp)
    have e19 := hn20.eq
    have hs20 := hn20.size
    have hs21 := hp21.size
    have hblen : (beL 2 (IntKind.wrap .u64 L.length) ++ ((L.take j).map recB).flatten).length ≤ 600 := by
      rw [List.length_append, beL_length, recs_length, List.length_take]; omega
    have hw21 : WIs (fun k => H2.size ≤ k ∧ k ≠ b19) H21 H2.size (beL 2 (IntKind.wrap .u64 L.length) ++ ((L.take j).map recB).flatten) := by
      have h1 : WIs (fun k => H2.size ≤ k ∧ k ≠ b19) H12 H2.size _ := hw12.mono (fun k hk hg => ⟨hg, by omega⟩)
      exact (h1.ext hn20.ext).extP hp21.ext.toP (fun k hk hm => hk.2 (by simpa using hm))
    generalize hbs : (beL 2 (IntKind.wrap .u64 L.length) ++ ((L.take j).map recB).flatten) = bs at *
    have hx21 : Ext [] H H21 := hx12.trans (ext_new hn20.ext hp21.ext (by simp; omega))
    have hs021 := hx21.size
    have far : ∀ {H3 H4 : Heap}, ExtP (fun k => H2.size ≤ k ∧ k ≠ b19) H3 H4 → Ext [] H H3 → Ext [] H H4 := fun he hx => hx.transP he (fun i hi => by have := hi.1; omega)
    have keep : ∀ {H3 H4 : Heap} {cs : List Value}, ExtP (fun k => H2.size ≤ k ∧ k ≠ b19) H3 H4 → Blk H3 b19 cs → Blk H4 b19 cs := fun he hb => hb.extP he (fun hm => hm.2 rfl)
    have hb21' : Blk H21 b19 x.cells := by simpa [splice, Ly.cells] using hb21
    refine ⟨x.id, by rw [hb21'.cell]; rfl, (wu_ok (n := 4) (.inr (.inl ⟨rfl, rfl⟩)) (fun k hk => ⟨by omega, by omega⟩) (by omega) hw21).mono ?_⟩
    rintro _ H24 ⟨rfl, hw24, hx24⟩
    have hb24 := keep hx24 hb21'
    have hs24 := hx24.size
    refine ⟨rfl, x.par, by rw [hb24.cell]; rfl, (wu_ok (n := 4) (.inr (.inl ⟨rfl, rfl⟩)) (fun k hk => ⟨by omega, by omega⟩) (by simp only [List.length_append, beL_length]; omega) hw24).mono ?_⟩
    rintro _ H27 ⟨rfl, hw27, hx27⟩
    have hb27 := keep hx27 hb24
    have hs27 := hx27.size
    refine ⟨rfl, x.sec, by rw [hb27.cell]; rfl, (wu_ok (n := 4) (.inr (.inl ⟨rfl, rfl⟩)) (fun k hk => ⟨by omega, by omega⟩) (by simp only [List.length_append, beL_length]; omega) hw27).mono ?_⟩
    rintro _ H30 ⟨rfl, hw30, hx30⟩
    have hb30 := keep hx30 hb27
    have hs30 := hx30.size
    have hX30 := far hx30 (far hx27 (far hx24 hx21))
    have fin : ∀ {H' : Heap}, WIs (fun k => H2.size ≤ k ∧ k ≠ b19) H' H2.size (bs ++ beL 4 (IntKind.wrap .u64 x.id) ++ beL 4 (IntKind.wrap .u64 x.par) ++ beL 4 (IntKind.wrap .u64 x.sec) ++ beL 1 (IntKind.wrap .u64 (frI x.fr))) → ExtP (fun k => H2.size ≤ k ∧ k ≠ b19) H30 H' →
        In64 ((j : Int) + 1) ∧ (∃ j' : Nat, (j : Int) + 1 = j' ∧ j' ≤ L.length ∧ Ext [] H H' ∧ H2.size ≤ H'.size ∧ WIs (fun k => H2.size ≤ k) H' H2.size (beL 2 (IntKind.wrap .u64 L.length) ++ ((L.take j').map recB).flatten)) ∧ L.length - ((j : Int) + 1).toNat < L.length - (j : Int).toNat := by
      intro H' hw he
      refine ⟨⟨by omega, by omega⟩, ⟨j + 1, by omega, by omega, far he hX30, by have := he.size; omega, ?_⟩, by omega⟩
      rw [htk]
      have hw' := hw.mono (G' := fun k => H2.size ≤ k) (fun k _ hk => hk.1)
      rw [List.map_append, List.flatten_append, ← List.append_assoc, show (List.map recB [x]).flatten = recB x by simp, hbs]
      simpa [recB, List.append_assoc] using hw'
    refine ⟨rfl, x.fr, by rw [hb30.cell]; rfl, fun ef => ?_, fun ef => ?_⟩
    · refine (wu_ok (n := 1) (.inr (.inr ⟨rfl, rfl⟩)) (fun k hk => ⟨by omega, by omega⟩) (by simp only [List.length_append, beL_length]; omega) hw30).mono ?_
      rintro _ H33 ⟨rfl, hw33, hx33⟩
      refine ⟨rfl, fin ?_ hx33⟩
      rw [ef]; exact hw33
    · refine (wu_ok (n := 1) (.inr (.inr ⟨rfl, rfl⟩)) (fun k hk => ⟨by omega, by omega⟩) (by simp only [List.length_append, beL_length]; omega) hw30).mono ?_
      rintro _ H35 ⟨rfl, hw35, hx35⟩
      refine ⟨rfl, fin ?_ hx35⟩
      rw [ef]; exact hw35
  · have : j = L.length := by omega
    subst this
    rw [List.take_length] at hw12
    refine (bytes_ok (bs := layB L) (by rw [layB_length]; omega) hw12).mono ?_
    rintro _ H37 ⟨⟨a38, c40, rfl, ho, hfr⟩, hx37⟩
    exact ⟨_, _, _, rfl, .inr ⟨hr, _, _, rfl, ho, fun k hk => by have := hfr k hk; have := hx12.size; omega⟩, hx12.trans hx37⟩
end Go.Proofs
end

section
open Go Go.Vc
namespace Go.Proofs

def be (l : List Int) : Int := l.foldl (fun v c => v * 256 + c) 0
def Byt (l : List Int) : Prop := ∀ z ∈ l, 0 ≤ z ∧ z < 256
theorem pow256 {j k : Nat} (h : j ≤ k) : (256 : Int) ^ j ≤ 256 ^ k := by
  obtain ⟨d, rfl⟩ : ∃ d, k = j + d := ⟨k - j, by omega⟩
  clear h
  induction d with
  | zero => exact Int.le_refl _
  | succ d ih =>
    have := Int.pow_pos (n := 256) (m := j + d) (by decide)
    rw [← Nat.add_assoc, Int.pow_succ]
    omega
theorem be_snoc (l : List Int) (z : Int) : be (l ++ [z]) = be l * 256 + z := by simp [be]
theorem be_lt {l : List Int} (h : Byt l) : 0 ≤ be l ∧ be l < 256 ^ l.length := by
  have key : ∀ (m : List Int) (v : Int) (k : Nat), Byt m → 0 ≤ v → v < 256 ^ k → 0 ≤ m.foldl (fun v c => v * 256 + c) v ∧ m.foldl (fun v c => v * 256 + c) v < 256 ^ (k + m.length) := by
    intro m
    induction m with
    | nil => intro v k _ h0 h1; exact ⟨h0, h1⟩
    | cons z r ih =>
      intro v k hb h0 h1
      have hz := hb z (by simp)
      have := ih (v * 256 + z) (k + 1) (fun y hy => hb y (by simp [hy])) (by omega) (by rw [Int.pow_succ]; omega)
      simpa [List.length_cons, Nat.add_assoc, Nat.add_comm 1] using this
  have := key l 0 0 h (by decide) (by decide)
  rw [Nat.zero_add] at this
  exact this
theorem Byt.take {l : List Int} (h : Byt l) (k : Nat) : Byt (l.take k) := fun z hz => h z (List.mem_of_mem_take hz)
theorem Byt.drop {l : List Int} (h : Byt l) (k : Nat) : Byt (l.drop k) := fun z hz => h z (List.mem_of_mem_drop hz)

theorem SRow.take1 {H : Heap} {n : Nat} {a : Option Addr} {l c l' c' : Nat} {xs : List Value} (h : SRow H 1 n (.slice a l c) xs) {k : Nat} (hk : k ≤ n) : SRow H 1 k (.slice a l' c') (xs.take k) := by
  obtain ⟨h1, h2⟩ := h
  refine ⟨by rw [List.length_take]; omega, ?_⟩
  cases a with
  | none => simp only at h2 ⊢; rw [h2]; simp
  | some ad =>
    obtain ⟨h3, h4⟩ := h2
    refine ⟨?_, fun j u hj => ?_⟩
    · rcases h3 with rfl | h3
      · exact .inl (by simp)
      · exact .inr h3
    · have hjl : j < k := by have := (List.getElem?_eq_some_iff.1 hj).1; simp at this; omega
      rw [List.getElem?_take_of_lt hjl] at hj
      exact h4 j u hj

theorem OwnO.drop {H : Heap} {a : Option Addr} {n c k : Nat} {xs : List Value} (h : OwnO H a n c xs) (hk : k ≤ n) : OwnO H (if c = k then a else Option.map (fun x => Addr.add x (k * 1)) a) (n - k) (c - k) (xs.drop k) := by
  obtain ⟨h1, h2, ⟨rfl, rfl⟩ | ⟨b, o, cs, rfl, hb, h3, h4⟩⟩ := h
  · refine ⟨by simp; omega, by omega, .inl ⟨by split <;> rfl, by omega⟩⟩
  · refine ⟨by simp; omega, by omega, .inr ?_⟩
    by_cases hc : c = k
    · rw [if_pos hc]
      refine ⟨b, o, cs, rfl, hb, by omega, ?_⟩
      have : n - k = 0 := by omega
      rw [this, List.take_zero]; exact (List.drop_eq_nil_of_le (by omega)).symm
    · rw [if_neg hc]
      refine ⟨b, o + k, cs, by rw [Nat.mul_one]; exact congrArg some (add_none b o k), hb, by omega, ?_⟩
      rw [← h4, List.drop_take, List.drop_drop]

theorem Own.ownO {H : Heap} {a : Option Addr} {n c : Nat} {xs : List Value} (h : Own H 1 a n c xs) : OwnO H a n c xs := by
  obtain ⟨h1, h2, h3, ⟨rfl, rfl⟩ | ⟨b, tail, rfl, hb, hl⟩⟩ := h
  · exact ⟨by omega, h2, .inl ⟨rfl, rfl⟩⟩
  · refine ⟨by omega, h2, .inr ⟨b, 0, _, rfl, hb, by omega, ?_⟩⟩
    rw [List.drop_zero, List.take_append_of_le_length (by omega), List.take_of_length_le (by omega)]

theorem OwnO.extP {M : Nat → Prop} {H H' : Heap} {a : Option Addr} {n c : Nat} {xs : List Value} (h : OwnO H a n c xs) (he : ExtP M H H') (hm : ∀ k ∈ blkOf a, ¬ M k) : OwnO H' a n c xs := by
  obtain ⟨h1, h2, h | ⟨b, o, cs, rfl, hb, h3, h4⟩⟩ := h
  · exact ⟨h1, h2, .inl h⟩
  · exact ⟨h1, h2, .inr ⟨b, o, cs, rfl, hb.extP he (hm b (by simp [blkOf])), h3, h4⟩⟩

/-! ### A reader -/
def RIs (G : Nat → Prop) (H : Heap) (b : Nat) (s : List Int × Bool) : Prop :=
  G b ∧ Byt s.1 ∧ ∃ a c, Blk H b [.slice a s.1.length c, .bool s.2] ∧ OwnO H a s.1.length c (u8s s.1) ∧ b ∉ blkOf a ∧ ∀ k ∈ blkOf a, G k

theorem RIs.lt {G : Nat → Prop} {H : Heap} {b : Nat} {s : List Int × Bool} (h : RIs G H b s) : b < H.size := by
  obtain ⟨_, _, a, c, h1, _⟩ := h; exact h1.lt
theorem RIs.mono {G G' : Nat → Prop} {H : Heap} {b : Nat} {s : List Int × Bool} (h : RIs G H b s) (hg : ∀ k, k < H.size → G k → G' k) : RIs G' H b s := by
  have hlt := h.lt
  obtain ⟨h0, hb, a, c, h1, h2, h3, h4⟩ := h
  exact ⟨hg b hlt h0, hb, a, c, h1, h2, h3, fun k hk => hg k (h2.lt k hk) (h4 k hk)⟩
theorem RIs.extP {G M : Nat → Prop} {H H' : Heap} {b : Nat} {s : List Int × Bool} (h : RIs G H b s) (he : ExtP M H H') (hm : ∀ k, G k → ¬ M k) : RIs G H' b s := by
  obtain ⟨h0, hb, a, c, h1, h2, h3, h4⟩ := h
  exact ⟨h0, hb, a, c, h1.extP he (hm b h0), h2.extP he (fun k hk => hm k (h4 k hk)), h3, h4⟩
theorem RIs.ext {G : Nat → Prop} {H H' : Heap} {b : Nat} {s : List Int × Bool} (h : RIs G H b s) (he : Ext [] H H') : RIs G H' b s := by
  obtain ⟨h0, hb, a, c, h1, h2, h3, h4⟩ := h
  exact ⟨h0, hb, a, c, h1.ext he (by simp), h2.ext he (by simp), h3, h4⟩

theorem nr_ok {bs : List Int} {a : Option Addr} {c : Nat} {H : Heap} (hB : Byt bs) (hl : bs.length ≤ 140737488355328) (h : SRow H 1 bs.length (.slice a bs.length c) (u8s bs)) :
    Does Try.prog 75 [.slice a bs.length c] H fun v H' => ∃ b, v = .pointer (some ⟨b, 0, none⟩) ∧ RIs (fun k => H.size ≤ k) H' b (bs, false) ∧ Ext [] H H' := by
  refine Fn_of_vc Try.mixed (vc_nr _ _ _ _ _) ?_
  intro b1 H2 hn
  have hoe : Own H2 1 (some ⟨b1, 0, none⟩) 0 0 ([] : List Value) := Own.of_new (size := 1) (len := 0) (cap := 0) hn.blk rfl (Nat.le_refl _) (by decide)
  refine ⟨[], u8s bs, hoe.row _ _, h.ext hn.ext (by simp), u8s_one _, by omega, fun hle => hoe.room (n := bs.length) hle, fun a5 c6 H7 happ b8 H9 hn9 => ?_⟩
  obtain ⟨h1, h2, h3⟩ := fresh_copy hn rfl happ
  rw [Nat.zero_add] at h1 hn9
  have e8 := hn9.eq
  have hs7 := h2.size
  refine ⟨b8, rfl, ⟨by omega, hB, a5, c6, hn9.blk, (Own.ownO h1).ext hn9.ext (by simp), fun hm => ?_, h3⟩, h2.trans hn9.ext⟩
  have := h1.lt b8 hm
  omega

/-- What is taken, and what is then left. -/
def rd (s : List Int × Bool) (n : Nat) : List Int × (List Int × Bool) := if s.2 = false ∧ n ≤ s.1.length then (s.1.take n, (s.1.drop n, false)) else ([], ([], true))
theorem rd_byt {s : List Int × Bool} (h : Byt s.1) (n : Nat) : Byt (rd s n).1 := by
  unfold rd; split
  · exact h.take n
  · intro z hz; cases hz
theorem rd_len (s : List Int × Bool) (n : Nat) : (rd s n).1.length ≤ n := by
  unfold rd; split
  · simp; omega
  · simp

theorem fails {G : Nat → Prop} {b : Nat} {H H6 H9 : Heap} {s : List Int × Bool} (h : RIs G H b s) (h6 : Puts H b 0 [.slice none 0 0] H6) (h9 : Puts H6 b (0 + 1) [.bool true] H9) : RIs G H9 b ([], true) ∧ ExtP G H H9 := by
  obtain ⟨g0, hB, a, c, hb, ho, hnb, hg⟩ := h
  have hb6 := h6.blk hb (by simp)
  have hb9 := h9.blk hb6 (by simp [splice])
  have one : ∀ {A B : Heap}, Ext [b] A B → ExtP G A B := fun he => he.lift (fun k _ hk => by simp only [List.mem_singleton] at hk; subst hk; exact g0)
  exact ⟨⟨g0, (fun z hz => by cases hz), none, 0, by simpa [splice] using hb9, ⟨rfl, Nat.le_refl _, .inl ⟨rfl, rfl⟩⟩, by simp [blkOf], by simp [blkOf]⟩, (one h6.ext).trans (one h9.ext)⟩

theorem raw_ok {G : Nat → Prop} {b : Nat} {s : List Int × Bool} {n : Nat} {H : Heap} (hn : n ≤ 1000000) (h : RIs G H b s) :
    Does Try.prog 111 [.pointer (some ⟨b, 0, none⟩), .int .i64 n] H fun v H' => ∃ a c, v = .slice a (rd s n).1.length c ∧ SRow H' 1 (rd s n).1.length (.slice a (rd s n).1.length c) (u8s (rd s n).1) ∧ RIs G H' b (rd s n).2 ∧ ExtP G H H' := by
  refine Fn_of_vc Try.mixed (vc_raw _ _ _ _) ?_
  have h0 := h
  obtain ⟨bs, lk⟩ := s
  obtain ⟨g0, hB, a, c, hb, ho, hnb, hg⟩ := h
  simp only at hb ho hB
  have bad : ∀ {H6 H9 : Heap}, Puts H b 0 [.slice none 0 0] H6 → Puts H6 b (0 + 1) [.bool true] H9 → rd (bs, lk) n = ([], ([], true)) →
      ∃ a c, Value.slice none 0 0 = .slice a (rd (bs, lk) n).1.length c ∧ SRow H9 1 (rd (bs, lk) n).1.length (.slice a (rd (bs, lk) n).1.length c) (u8s (rd (bs, lk) n).1) ∧ RIs G H9 b (rd (bs, lk) n).2 ∧ ExtP G H H9 := by
    intro H6 H9 h6 h9 e
    obtain ⟨h1, h2⟩ := fails h0 h6 h9
    rw [e]
    exact ⟨none, 0, rfl, ⟨rfl, rfl⟩, h1, h2⟩
  have cl : Cells H b 0 1 := hb.cells _ _ (by simp)
  have cl2 : ∀ {H6 : Heap}, Puts H b 0 [.slice none 0 0] H6 → Cells H6 b (0 + 1) 1 := fun h6 => (h6.blk hb (by simp)).cells _ _ (by simp [splice])
  refine ⟨b, 0, rfl, lk, by rw [hb.cell]; rfl, fun e => ⟨b, 0, rfl, cl, fun H6 h6 => ⟨b, 0, rfl, cl2 h6, fun H9 h9 => bad h6 h9 ?_⟩⟩, fun e => ⟨fun e0 => absurd e0 (by omega), fun _ => ⟨b, 0, rfl, a, _, c, by rw [hb.cell]; rfl, fun e1 => ⟨b, 0, rfl, cl, fun H6 h6 => ⟨b, 0, rfl, cl2 h6, fun H9 h9 => bad h6 h9 ?_⟩⟩, fun e1 b27 H28 hn28 => ?_⟩⟩⟩
  · unfold rd; rw [if_neg (by simp [e])]
  · unfold rd; rw [if_neg (by simp only []; omega)]
  subst e
  have e2 : rd (bs, false) n = (bs.take n, (bs.drop n, false)) := by unfold rd; rw [if_pos ⟨rfl, by simp only []; omega⟩]
  rw [e2]
  have hle : n ≤ bs.length := by omega
  have hb28 := hb.ext hn28.ext (by simp)
  have ho28 := ho.ext hn28.ext (by simp)
  have hoe : Own H28 1 (some ⟨b27, 0, none⟩) 0 0 ([] : List Value) := Own.of_new (size := 1) (len := 0) (cap := 0) hn28.blk rfl (Nat.le_refl _) (by decide)
  have hlen : (bs.take n).length = n := by rw [List.length_take]; omega
  refine ⟨b, 0, rfl, a, _, c, by rw [hb28.cell]; rfl, by omega, by have := ho.2.1; omega, [], u8s (bs.take n), hoe.row _ _, ?_, u8s_one _, by simp; omega, fun hle => hoe.room (n := (n : Int).toNat) hle, ?_⟩
  · rw [Int.toNat_natCast, u8s_take]
    exact SRow.take1 (ho28.row bs.length c) hle
  intro a36 c37 H38 happ
  rw [Int.toNat_natCast] at happ
  obtain ⟨h1, h2, h3⟩ := fresh_copy hn28 hlen happ
  have hb38 := hb.ext h2 (by simp)
  have ho38 := ho.ext h2 (by simp)
  refine ⟨b, 0, rfl, a, _, c, by rw [hb38.cell]; rfl, by omega, by omega, ?_⟩
  rintro _ rfl
  refine ⟨b, 0, rfl, hb38.cells _ _ (by simp), fun H47 hp47 => ?_⟩
  have hb47 := hp47.blk hb38 (by simp)
  have one : ExtP G H38 H47 := hp47.ext.lift (fun k _ hk => by simp only [List.mem_singleton] at hk; subst hk; exact g0)
  rw [Int.toNat_natCast, Nat.zero_add] at *
  have hd := ho38.drop hle
  have hblk : ∀ k ∈ blkOf (if c = n then a else Option.map (fun x => Addr.add x (n * 1)) a), k ∈ blkOf a := by
    intro k hk
    split at hk
    · exact hk
    · obtain ⟨_, _, ⟨rfl, _⟩ | ⟨bb, oo, cs, rfl, _⟩⟩ := ho
      · cases hk
      · simp only [Option.map_some, add_none] at hk; exact hk
  have hblt := hb.lt
  refine ⟨a36, c37, by rw [hlen], ?_, ⟨g0, hB.drop n, _, _, by simpa [splice] using hb47, ?_, fun hm => hnb (hblk _ hm), fun k hk => hg k (hblk k hk)⟩, h2.anyP.trans one⟩
  · rw [hlen]
    refine (h1.row n c37).ext hp47.ext (fun k hk hm => ?_)
    simp only [List.mem_singleton] at hm; subst hm
    have := h3 _ hk
    omega
  · rw [u8s_drop, List.length_drop]
    refine hd.ext hp47.ext (fun k hk hm => ?_)
    simp only [List.mem_singleton] at hm; subst hm
    exact hnb (hblk _ hk)

theorem get_ok {G : Nat → Prop} {b : Nat} {s : List Int × Bool} {n : Nat} {H : Heap} (hn : n ≤ 7) (h : RIs G H b s) :
    Does Try.prog 95 [.pointer (some ⟨b, 0, none⟩), .int .i64 n] H fun v H' => v = .int .u64 (be (rd s n).1) ∧ RIs G H' b (rd s n).2 ∧ ExtP G H H' := by
  have hB : Byt (rd s n).1 := rd_byt h.2.1 n
  have hl := rd_len s n
  refine Fn_of_vc Try.mixed (vc_get _ _ _ _) ?_
  refine (raw_ok (by omega) h).mono ?_
  rintro _ H2 ⟨a, c, rfl, hrow, hr, hx⟩
  generalize (rd s n).1 = t at *
  refine ⟨_, _, _, rfl, fun v i H' => H' = H2 ∧ ∃ j : Nat, i = j ∧ j ≤ t.length ∧ v = be (t.take j), fun _ i _ => t.length - i.toNat, ⟨rfl, 0, rfl, by omega, rfl⟩, ?_⟩
  rintro _ _ _ ⟨rfl, j, rfl, hj, rfl⟩
  refine ⟨fun hlt => ?_, fun hge => ?_⟩
  · have hi : t[j]? = some t[j] := List.getElem?_eq_getElem (by omega)
    have htk : t.take (j + 1) = t.take j ++ [t[j]] := by rw [List.take_add_one, hi]; rfl
    obtain ⟨z0, z1⟩ := hB t[j] (List.getElem_mem _)
    obtain ⟨b11, o12, e, hc⟩ := SRow.at hrow (u8s_at hi)
    generalize t[j] = z at *
    obtain ⟨v0, v1⟩ := be_lt (hB.take j)
    have hv : be (t.take j) < 256 ^ 6 := by
      refine Int.lt_of_lt_of_le v1 ?_
      rw [List.length_take, Nat.min_eq_left hj]
      exact pow256 (by omega)
    refine ⟨by omega, hlt, b11, o12, e, z, by rw [Int.toNat_natCast]; exact hc, by decide, ?_⟩
    rintro _ rfl _ rfl _ rfl
    have e8 : min (Int.toNat 8) (IntKind.bits .u64) = 8 := by decide
    have e6 : (256 : Int) ^ 6 = 281474976710656 := by decide
    rw [e6] at hv
    have eq : bits .or .u64 (IntKind.wrap .u64 (be (t.take j) * 2 ^ (min (Int.toNat 8) (IntKind.bits .u64)))) (IntKind.wrap .u64 z) = be (t.take (j + 1)) := by
      rw [e8, htk, be_snoc, wrap_u64, wrap_u64, show (2 : Int) ^ 8 = 256 by decide, show (be (t.take j) * 256) % 18446744073709551616 = ((be (t.take j)).toNat : Int) * 256 by omega, show z % 18446744073709551616 = (z.toNat : Int) by omega, or_low _ _ (by omega) (by omega)]
      omega
    exact ⟨⟨by omega, by omega⟩, ⟨rfl, j + 1, by omega, by omega, eq⟩, by simp only []; omega⟩
  · have : j = t.length := by omega
    subst this
    exact ⟨by rw [List.take_length], hr, hx⟩

/-- A number that is read. -/
def num (s : List Int × Bool) (n : Nat) : Int := be (rd s n).1
theorem num_lt {s : List Int × Bool} (h : Byt s.1) {n : Nat} (hn : n ≤ 4) : 0 ≤ num s n ∧ num s n < 4294967296 := by
  obtain ⟨h1, h2⟩ := be_lt (rd_byt h n)
  have := pow256 (j := (rd s n).1.length) (k := 4) (by have := rd_len s n; omega)
  have e : (256 : Int) ^ 4 = 4294967296 := by decide
  rw [e] at this
  exact ⟨h1, Int.lt_of_lt_of_le h2 this⟩

theorem ru_ok {G : Nat → Prop} {f n : Nat} {b : Nat} {s : List Int × Bool} {H : Heap} (hf : (f = 76 ∧ n = 2) ∨ (f = 78 ∧ n = 4) ∨ (f = 79 ∧ n = 1)) (h : RIs G H b s) :
    Does Try.prog f [.pointer (some ⟨b, 0, none⟩)] H fun v H' => v = .int .i64 (num s n) ∧ RIs G H' b (rd s n).2 ∧ ExtP G H H' := by
  have w : n ≤ 4 → IntKind.wrap .i64 (num s n) = num s n := fun hn => by
    obtain ⟨h1, h2⟩ := num_lt h.2.1 hn
    exact wrap_of_in64 ⟨by omega, by omega⟩
  rcases hf with ⟨rfl, rfl⟩ | ⟨rfl, rfl⟩ | ⟨rfl, rfl⟩
  · refine Fn_of_vc Try.mixed (vc_ru16 _ _ _) ?_
    refine (get_ok (n := 2) (by omega) h).mono ?_
    rintro _ _ ⟨rfl, h1, h2⟩
    refine ⟨_, rfl, ?_⟩
    rintro _ rfl
    exact ⟨congrArg _ (w (by omega)), h1, h2⟩
  · refine Fn_of_vc Try.mixed (vc_ru32 _ _ _) ?_
    refine (get_ok (n := 4) (by omega) h).mono ?_
    rintro _ _ ⟨rfl, h1, h2⟩
    refine ⟨_, rfl, ?_⟩
    rintro _ rfl
    exact ⟨congrArg _ (w (by omega)), h1, h2⟩
  · refine Fn_of_vc Try.mixed (vc_ru8 _ _ _) ?_
    refine (get_ok (n := 1) (by omega) h).mono ?_
    rintro _ _ ⟨rfl, h1, h2⟩
    refine ⟨_, rfl, ?_⟩
    rintro _ rfl
    exact ⟨congrArg _ (w (by omega)), h1, h2⟩

theorem lack_ok {G : Nat → Prop} {b : Nat} {s : List Int × Bool} {H : Heap} (h : RIs G H b s) : Does Try.prog 77 [.pointer (some ⟨b, 0, none⟩)] H fun v H' => v = .bool s.2 ∧ H = H' := by
  refine Fn_of_vc Try.mixed (vc_lack _ _ _) ?_
  obtain ⟨_, _, a, c, hb, _⟩ := h
  exact ⟨b, 0, rfl, s.2, by rw [hb.cell]; rfl, rfl, rfl⟩

theorem eq_ok {xs ys : List Int} {a a' : Option Addr} {c c' : Nat} {H : Heap} (hl : xs.length ≤ 1000000) (h : SRow H 1 xs.length (.slice a xs.length c) (u8s xs)) (k : SRow H 1 ys.length (.slice a' ys.length c') (u8s ys)) :
    Does Try.prog 80 [.slice a xs.length c, .slice a' ys.length c'] H fun v H' => v = .bool (decide (xs = ys)) ∧ H = H' := by
  refine Fn_of_vc Try.mixed (vc_eq _ _ _ _ _ _ _ _) ?_
  refine ⟨fun e => ⟨?_, rfl⟩, fun e => ?_⟩
  · have : xs ≠ ys := fun e' => e (by rw [e'])
    simp [this]
  refine ⟨fun i H' => H' = H ∧ ∃ j : Nat, i = j ∧ j ≤ xs.length ∧ xs.take j = ys.take j, fun i _ => xs.length - i.toNat, ⟨rfl, 0, rfl, by omega, rfl⟩, ?_⟩
  rintro _ _ ⟨rfl, j, rfl, hj, ht⟩
  refine ⟨fun hlt => ?_, fun hge => ⟨?_, rfl⟩⟩
  · have hi : xs[j]? = some xs[j] := List.getElem?_eq_getElem (by omega)
    have hi' : ys[j]? = some (ys[j]'(by omega)) := List.getElem?_eq_getElem (by omega)
    obtain ⟨b5, o6, e5, c5⟩ := SRow.at h (u8s_at hi)
    obtain ⟨b8, o9, e8, c8⟩ := SRow.at k (u8s_at hi')
    refine ⟨by omega, hlt, b5, o6, e5, _, by rw [Int.toNat_natCast]; exact c5, by omega, by omega, b8, o9, e8, _, by rw [Int.toNat_natCast]; exact c8, fun hne => ⟨?_, rfl⟩, fun heq => ⟨⟨by omega, by omega⟩, ⟨rfl, j + 1, by omega, by omega, ?_⟩, by simp only []; omega⟩⟩
    · have : xs ≠ ys := fun e' => hne (by subst e'; rfl)
      simp [this]
    · rw [List.take_add_one, List.take_add_one, ht, hi, hi']
      have : xs[j] = ys[j]'(by omega) := by simpa using heq
      rw [this]
  · have e1 : j = xs.length := by omega
    subst e1
    rw [List.take_length, List.take_of_length_le (by omega)] at ht
    simp [ht]

theorem same_ok {xs ys : List Int} {a a' : Option Addr} {c c' : Nat} {H : Heap} (hl : xs.length ≤ 1000000) (h : IRow H a xs) (k : IRow H a' ys) :
    Does Try.prog 38 [.slice a xs.length c, .slice a' ys.length c'] H fun v H' => v = .bool (decide (xs = ys)) ∧ H = H' := by
  refine Fn_of_vc Try.mixed (vc_same _ _ _ _ _ _ _ _) ?_
  refine ⟨fun e => ⟨?_, rfl⟩, fun e => ?_⟩
  · have : xs ≠ ys := fun e' => e (by rw [e'])
    simp [this]
  refine ⟨fun i H' => H' = H ∧ ∃ j : Nat, i = j ∧ j ≤ xs.length ∧ xs.take j = ys.take j, fun i _ => xs.length - i.toNat, ⟨rfl, 0, rfl, by omega, rfl⟩, ?_⟩
  rintro _ _ ⟨rfl, j, rfl, hj, ht⟩
  refine ⟨fun hlt => ?_, fun hge => ⟨?_, rfl⟩⟩
  · have hi : xs[j]? = some xs[j] := List.getElem?_eq_getElem (by omega)
    have hi' : ys[j]? = some (ys[j]'(by omega)) := List.getElem?_eq_getElem (by omega)
    obtain ⟨b5, o6, e5, c5⟩ := h.at hi
    obtain ⟨b8, o9, e8, c8⟩ := k.at hi'
    refine ⟨by omega, hlt, b5, o6, e5, _, by rw [Int.toNat_natCast]; exact c5, by omega, by omega, b8, o9, e8, _, by rw [Int.toNat_natCast]; exact c8, fun hne => ⟨?_, rfl⟩, fun heq => ⟨⟨by omega, by omega⟩, ⟨rfl, j + 1, by omega, by omega, ?_⟩, by simp only []; omega⟩⟩
    · have : xs ≠ ys := fun e' => hne (by subst e'; rfl)
      simp [this]
    · rw [List.take_add_one, List.take_add_one, ht, hi, hi']
      have : xs[j] = ys[j]'(by omega) := by simpa using heq
      rw [this]
  · have e1 : j = xs.length := by omega
    subst e1
    rw [List.take_length, List.take_of_length_le (by omega)] at ht
    simp [ht]
end Go.Proofs
end

section
open Go Go.Vc
namespace Go.Proofs

/-- A layer that is read. -/
def rec1 (f : Int → Bool) (s : List Int × Bool) : Ly × (List Int × Bool) :=
  (⟨num s 4, num (rd s 4).2 4, num (rd (rd s 4).2 4).2 4, f (num (rd (rd (rd s 4).2 4).2 4).2 1)⟩, (rd (rd (rd (rd s 4).2 4).2 4).2 1).2)
def parse (f : Int → Bool) : Nat → List Int × Bool → List Ly × (List Int × Bool)
  | 0, s => ([], s)
  | n + 1, s => if s.2 = true then ([], s) else ((rec1 f s).1 :: (parse f n (rec1 f s).2).1, (parse f n (rec1 f s).2).2)
def readL (f : Int → Bool) (bs : List Int) : List Ly := (parse f (num (bs, false) 2).toNat (rd (bs, false) 2).2).1

theorem parse_lack (f : Int → Bool) (n : Nat) {s : List Int × Bool} (h : s.2 = true) : (parse f n s).1 = [] := by
  cases n with
  | zero => rfl
  | succ n => simp only [parse, if_pos h]

theorem rd_app {xs ys : List Int} {n : Nat} (h : xs.length = n) : rd (xs ++ ys, false) n = (xs, (ys, false)) := by
  unfold rd
  rw [if_pos ⟨rfl, by simp only [List.length_append]; omega⟩]
  simp only [List.take_left' h, List.drop_left' h]

theorem be_one {v : Int} (h0 : 0 ≤ v) (h1 : v < 256) : be (beL 1 v) = v := by simp [be, beL]; omega
theorem be_two {v : Int} (h0 : 0 ≤ v) (h1 : v < 65536) : be (beL 2 v) = v := by simp [be, beL]; omega
theorem be_four {v : Int} (h0 : 0 ≤ v) (h1 : v < 4294967296) : be (beL 4 v) = v := by simp [be, beL]; omega

def InR (x : Ly) : Prop := (0 ≤ x.id ∧ x.id < 4294967296) ∧ (0 ≤ x.par ∧ x.par < 4294967296) ∧ (0 ≤ x.sec ∧ x.sec < 4294967296)

theorem wr {v : Int} (h0 : 0 ≤ v) (h1 : v < 4294967296) : IntKind.wrap .u64 v = v := by rw [wrap_u64]; omega

theorem rec1_app {f : Int → Bool} (f1 : f 1 = true) (f0 : f 0 = false) {x : Ly} (hx : InR x) (rest : List Int) : rec1 f (recB x ++ rest, false) = (x, (rest, false)) := by
  obtain ⟨⟨a0, a1⟩, ⟨b0, b1⟩, c0, c1⟩ := hx
  unfold rec1 num recB
  simp only [List.append_assoc]
  rw [rd_app (beL_length 4 _)]
  simp only []
  rw [rd_app (beL_length 4 _)]
  simp only []
  rw [rd_app (beL_length 4 _)]
  simp only []
  rw [rd_app (beL_length 1 _)]
  simp only []
  rw [wr a0 a1, wr b0 b1, wr c0 c1, be_four a0 a1, be_four b0 b1, be_four c0 c1]
  obtain ⟨i, p, s, fr⟩ := x
  cases fr with
  | true => rw [show frI true = 1 from rfl, wr (by decide) (by decide), be_one (by decide) (by decide), f1]
  | false => rw [show frI false = 0 from rfl, wr (by decide) (by decide), be_one (by decide) (by decide), f0]

theorem parse_app {f : Int → Bool} (f1 : f 1 = true) (f0 : f 0 = false) : ∀ (L : List Ly) (rest : List Int), (∀ x ∈ L, InR x) → (parse f L.length ((L.map recB).flatten ++ rest, false)).1 = L
  | [], _, _ => rfl
  | x :: r, rest, h => by
    have e : ((x :: r).map recB).flatten ++ rest = recB x ++ ((r.map recB).flatten ++ rest) := by simp
    rw [e, List.length_cons, parse, if_neg (by simp), rec1_app f1 f0 (h x (by simp))]
    simp only []
    rw [parse_app f1 f0 r rest (fun y hy => h y (by simp [hy]))]

theorem right_in {L : List Ly} (hr : rightB L = true) : ∀ x ∈ L, InR x := by
  obtain ⟨_, hf, _⟩ := right_iff.1 hr
  intro x hx
  have h := hf x hx
  have st : ∀ b, stands L x b → 0 ≤ b ∧ b < 4294967296 := by
    rintro b (h | ⟨y, hy, e, _, _⟩)
    · omega
    · have := hf y hy
      have := this.lo
      have := (hf y hy).hi
      omega
  have := h.lo
  have := h.hi
  exact ⟨by omega, st _ h.par, st _ h.sec⟩

/-- **What is laid is read.** -/
theorem readL_lay {f : Int → Bool} (f1 : f 1 = true) (f0 : f 0 = false) {L : List Ly} (hr : rightB L = true) : readL f (layB L) = L := by
  have hl := (right_iff.1 hr).2.2
  unfold readL layB num
  rw [rd_app (beL_length 2 _)]
  simp only []
  rw [wr (by omega) (by omega), be_two (by omega) (by omega), Int.toNat_natCast]
  have := parse_app f1 f0 L [] (right_in hr)
  rwa [List.append_nil] at this

theorem num_lt2 {s : List Int × Bool} (h : Byt s.1) : 0 ≤ num s 2 ∧ num s 2 < 65536 := by
  obtain ⟨h1, h2⟩ := be_lt (rd_byt h 2)
  have := pow256 (j := (rd s 2).1.length) (k := 2) (rd_len s 2)
  have e : (256 : Int) ^ 2 = 65536 := by decide
  rw [e] at this
  exact ⟨h1, Int.lt_of_lt_of_le h2 this⟩

/-- What reading tells. -/
def ReadS (bs : List Int) (H : Heap) (v : Value) (H' : Heap) : Prop :=
  (∃ L a c, rightB L = true ∧ layB L = bs ∧ v = .tuple #[.slice a L.length c, .int .i64 0] ∧ Own H' 4 a L.length c (rowsOf L) ∧ ∀ k ∈ blkOf a, H.size ≤ k) ∨
  ((∀ L, rightB L = true → layB L ≠ bs) ∧ v = .tuple #[.slice none 0 0, .int .i64 2])

theorem read_fin {bs : List Int} {a0 : Option Addr} {c0 : Nat} {H H1 : Heap} (hB : SRow H 1 bs.length (.slice a0 bs.length c0) (u8s bs)) (hx : Ext [] H H1)
    {L : List Ly} {a : Option Addr} {c : Nat} (hl : L.length ≤ 100000) (ho : Own H1 4 a L.length c (rowsOf L)) (hfr : ∀ k ∈ blkOf a, H.size ≤ k) (hP : ∀ L0, rightB L0 = true → layB L0 = bs → L = L0) :
    Does Try.prog 36 [(.slice a L.length c)] H1 fun v36 H37 => ∃ a38 : Option Addr, ∃ l39 : Nat, ∃ c40 : Nat, ∃ n41 : Int, v36 = (.tuple #[(.slice a38 l39 c40), (.int .i64 n41)]) ∧ (
                        ((((n41 : Int) ≠ 0) → (
                              ReadS bs H (.tuple #[(.slice none 0 0), (.int .i64 2)]) H37 ∧ Ext [] H H37)) ∧ (¬ ((n41 : Int) ≠ 0) → (
                              Does Try.prog 80 [(.slice a38 l39 c40), (.slice a0 bs.length c0)] H37 fun v42 H43 => ∃ t44 : Bool, v42 = (.bool t44) ∧ (
                                (((t44 = false) → (
                                      ReadS bs H (.tuple #[(.slice none 0 0), (.int .i64 2)]) H43 ∧ Ext [] H H43)) ∧ (¬ (t44 = false) → (
                                      ReadS bs H (.tuple #[(.slice a L.length c), (.int .i64 0)]) H43 ∧ Ext [] H H43)))))))) := by
  obtain ⟨hrow, _⟩ := own_lrow ho
  refine (lay_ok hl ho.2.1 hrow).mono ?_
  rintro _ H37 ⟨hL, hx37⟩
  have hX := hx.trans hx37
  rcases hL with ⟨hr, rfl⟩ | ⟨hr, a38, c40, rfl, ho38, hfr38⟩
  · refine ⟨none, 0, 0, 1, rfl, fun _ => ⟨.inr ⟨fun L0 h0 h1 => ?_, rfl⟩, hX⟩, fun e => absurd (by decide) e⟩
    rw [hP L0 h0 h1] at hr
    rw [hr] at h0; cases h0
  · refine ⟨a38, _, c40, 0, rfl, fun e => absurd rfl e, fun _ => ?_⟩
    have hl40 := (right_iff.1 hr).2.2
    refine (eq_ok (by rw [layB_length]; omega) (ho38.row _ _) (SRow.ext hB hX (by simp))).mono ?_
    rintro _ _ ⟨rfl, rfl⟩
    refine ⟨_, rfl, fun e => ⟨.inr ⟨fun L0 h0 h1 => ?_, rfl⟩, hX⟩, fun e => ⟨.inl ⟨L, a, c, hr, by simpa using e, rfl, ho.ext hx37 (by simp), hfr⟩, hX⟩⟩
    simp only [decide_eq_false_iff_not] at e
    rw [← hP L0 h0 h1] at h1
    exact e h1

def pos (d : Int) : Bool := decide (0 < d)

set_option maxHeartbeats 1000000 in
theorem read_ok {bs : List Int} {a : Option Addr} {c : Nat} {H : Heap} (hB : Byt bs) (hl : bs.length ≤ 140737488355328) (h : SRow H 1 bs.length (.slice a bs.length c) (u8s bs)) :
    Does Try.prog 37 [.slice a bs.length c] H fun v H' => ReadS bs H v H' ∧ Ext [] H H' := by
  refine Fn_of_vc Try.mixed (vc_read _ _ _ _ _) ?_
  refine (nr_ok hB hl h).mono ?_
  rintro _ H2 ⟨b, rfl, hr2, hx2⟩
  refine ⟨_, rfl, (ru_ok (n := 2) (.inl ⟨rfl, rfl⟩) hr2).mono ?_⟩
  rintro _ H5 ⟨rfl, hr5, hx5⟩
  have hX5 : Ext [] H H5 := hx2.transP hx5 (fun i hi => hi)
  obtain ⟨n0, n1⟩ := num_lt2 (s := (bs, false)) hB
  have hP : ∀ L0, rightB L0 = true → layB L0 = bs → readL pos bs = L0 := fun L0 h0 h1 => by rw [← h1]; exact readL_lay rfl rfl h0
  unfold readL at hP
  have hr5' : RIs (fun k => H.size ≤ k ∧ k < H5.size) H5 b (rd (bs, false) 2).2 := hr5.mono (fun k hk hg => ⟨hg, hk⟩)
  generalize hn0 : num (bs, false) 2 = n at *
  generalize (rd (bs, false) 2).2 = s0 at *
  refine ⟨_, rfl, fun a9 l10 c11 n12 H13 => ∃ (L : List Ly) (s : List Int × Bool) (m : Nat), n12 = m ∧ m + L.length ≤ 65535 ∧ L.length = l10 ∧ Own H13 4 a9 l10 c11 (rowsOf L) ∧ (∀ k ∈ blkOf a9, H5.size ≤ k) ∧ RIs (fun k => H.size ≤ k ∧ k < H5.size) H13 b s ∧ L ++ (parse pos m s).1 = (parse pos n.toNat s0).1 ∧ Ext [] H H13 ∧ H5.size ≤ H13.size, fun _ _ _ n _ => n.toNat,
    ⟨[], s0, n.toNat, by omega, by simp; omega, rfl, Own.nil _ _, by simp [blkOf], hr5', rfl, hX5, Nat.le_refl _⟩, ?_⟩
  rintro a9 l10 c11 _ H13 ⟨L, s, m, rfl, hmL, e10, ho13, hfr13, hr13, hL, hx13, hs13⟩
  subst e10
  have hs5 := hX5.size
  refine ⟨fun hlt => ?_, fun hge => ?_⟩
  · obtain ⟨m, rfl⟩ : ∃ k, m = k + 1 := ⟨m - 1, by omega⟩
    refine (lack_ok hr13).mono ?_
    rintro _ _ ⟨rfl, rfl⟩
    refine ⟨_, rfl, fun el => ?_, fun el => ?_⟩
    · rw [parse, if_neg (by rw [el]; simp)] at hL
      have far : ∀ {A B : Heap}, ExtP (fun k => H.size ≤ k ∧ k < H5.size) A B → Ext [] H A → Ext [] H B := fun he hx => hx.transP he (fun i hi => hi.1)
      have hB13 := hr13.2.1
      refine (ru_ok (n := 4) (.inr (.inl ⟨rfl, rfl⟩)) hr13).mono ?_
      rintro _ H18 ⟨rfl, hr18, hx18⟩
      refine ⟨_, rfl, (ru_ok (n := 4) (.inr (.inl ⟨rfl, rfl⟩)) hr18).mono ?_⟩
      rintro _ H21 ⟨rfl, hr21, hx21⟩
      refine ⟨_, rfl, (ru_ok (n := 4) (.inr (.inl ⟨rfl, rfl⟩)) hr21).mono ?_⟩
      rintro _ H24 ⟨rfl, hr24, hx24⟩
      refine ⟨_, rfl, (ru_ok (n := 1) (.inr (.inr ⟨rfl, rfl⟩)) hr24).mono ?_⟩
      rintro _ H27 ⟨rfl, hr27, hx27⟩
      have hxx : ExtP (fun k => H.size ≤ k ∧ k < H5.size) H13 H27 := ((hx18.trans hx21).trans hx24).trans hx27
      have hX27 := far hxx hx13
      have hs27 := hxx.size
      have ho27 := ho13.extP hxx (fun k hk hm => by have := hfr13 k hk; omega)
      refine ⟨_, rfl, fun b29 H30 hn30 => ?_⟩
      have ho30 := ho27.ext hn30.ext (by simp)
      have hr30 := hr27.ext hn30.ext
      have hs30 := hn30.size
      have hx1 : @decide ((0 : Int) < num (rd (rd (rd s 4).2 4).2 4).2 1) (Classical.propDecidable _) = pos (num (rd (rd (rd s 4).2 4).2 4).2 1) := dec_eq Iff.rfl
      rw [hx1] at hn30
      have e1 : (rec1 pos s).2 = (rd (rd (rd (rd s 4).2 4).2 4).2 1).2 := rfl
      rw [← e1] at hr30
      have e2 : [Value.int .i64 (num s 4), .int .i64 (num (rd s 4).2 4), .int .i64 (num (rd (rd s 4).2 4).2 4), .bool (pos (num (rd (rd (rd s 4).2 4).2 4).2 1))] = (rec1 pos s).1.cells := rfl
      rw [e2] at hn30
      generalize (rec1 pos s).1 = x at *
      generalize (rec1 pos s).2 = s' at *
      refine ⟨rowsOf L, x.cells, ho30.row _ _, ⟨rfl, .inr rfl, fun i u hi => ?_⟩, ?_, by omega, fun hle => ho30.room (n := 1) hle, fun a33 c34 H35 happ => ?_⟩
      · show hcell H30 b29 (0 + i) = some u
        rw [Nat.zero_add, hn30.blk.cell]; exact hi
      · intro u hu
        simp only [Ly.cells, List.mem_cons, List.not_mem_nil, or_false] at hu
        rcases hu with rfl | rfl | rfl | rfl <;> rfl
      obtain ⟨ho35, hx35, hfr35⟩ := happ.own ho30 (ho30.row _ _) rfl rfl
      have hs35 := hx35.size
      refine ⟨⟨by omega, by omega⟩, ⟨L ++ [x], s', m, by omega, by simp; omega, by simp, ?_, ?_, ?_, ?_, ?_, by omega⟩, by simp only []; omega⟩
      · rw [rowsOf_append]; exact ho35
      · intro k hk
        rcases hfr35 k hk with h' | h'
        · exact hfr13 k h'
        · omega
      · exact hr30.extP hx35.toP (fun k hk hm => by have := hfr13 k hm; omega)
      · rw [← hL]; simp
      · exact ext_new (hX27.trans hn30.ext) hx35 (fun i hi => by have := hfr13 i hi; omega)
    · have el' : s.2 = true := by simpa using el
      rw [parse_lack pos _ el', List.append_nil] at hL
      exact read_fin h hx13 (by omega) ho13 (fun k hk => by have := hfr13 k hk; omega) (fun L0 h0 h1 => by rw [hL]; exact hP L0 h0 h1)
  · have : m = 0 := by omega
    subst this
    rw [parse, List.append_nil] at hL
    exact read_fin h hx13 (by omega) ho13 (fun k hk => by have := hfr13 k hk; omega) (fun L0 h0 h1 => by rw [hL]; exact hP L0 h0 h1)
end Go.Proofs
end

section
open Go Go.Vc
namespace Go.Proofs
set_option maxRecDepth 100000
/-- pentimento/pentimentolaw13.GraphKnown -/
theorem vc_gknown (H : Heap) (R : Value → Heap → Prop) : Walk Try.prog 9 [] [] H R = (
  Does Try.prog 35 [] H fun v1 H2 => ∃ a3 : Option Addr, ∃ l4 : Nat, ∃ c5 : Nat, v1 = (.slice a3 l4 c5) ∧ (
    ∀ b6 : Nat, ∀ H7 : Heap, New H2 b6 [(.int .i64 7), (.int .i64 3), (.int .i64 2), (.bool false)] 46 H7 → (
      ∃ old8 new9 : List Value, SRow H7 4 l4 (.slice a3 l4 c5) old8 ∧ SRow H7 4 1 (.slice (some (⟨b6, 0, none⟩ : Addr)) 1 1) new9 ∧ (∀ u ∈ new9, Value.oneCell' u = true) ∧ (l4 + 1) * 32 ≤ 140737488355328 ∧ (l4 + 1 ≤ c5 → roomOf H7 a3 (l4 * 4) (1 * 4)) ∧ ∀ a10 : Option Addr, ∀ c11 : Nat, ∀ H12 : Heap, App H7 4 46 [(.int .i64 0), (.int .i64 0), (.int .i64 0), (.bool false)] a3 l4 c5 old8 new9 1 a10 c11 H12 → (
        Does Try.prog 36 [(.slice a10 (l4 + 1) c11)] H12 fun v13 H14 => ∃ a15 : Option Addr, ∃ l16 : Nat, ∃ c17 : Nat, ∃ n18 : Int, v13 = (.tuple #[(.slice a15 l16 c17), (.int .i64 n18)]) ∧ (
          Does Try.prog 37 [(.slice a15 l16 c17)] H14 fun v19 H20 => ∃ a21 : Option Addr, ∃ l22 : Nat, ∃ c23 : Nat, ∃ n24 : Int, v19 = (.tuple #[(.slice a21 l22 c23), (.int .i64 n24)]) ∧ (
            ∀ b25 : Nat, ∀ H26 : Heap, New H20 b25 [(.int .u8 0)] 5 H26 → (
              ∃ old27 new28 : List Value, SRow H26 1 l16 (.slice a15 l16 c17) old27 ∧ SRow H26 1 1 (.slice (some (⟨b25, 0, none⟩ : Addr)) 1 1) new28 ∧ (∀ u ∈ new28, Value.oneCell' u = true) ∧ (l16 + 1) * 1 ≤ 140737488355328 ∧ (l16 + 1 ≤ c17 → roomOf H26 a15 (l16 * 1) (1 * 1)) ∧ ∀ a29 : Option Addr, ∀ c30 : Nat, ∀ H31 : Heap, App H26 1 5 [(.int .u8 0)] a15 l16 c17 old27 new28 1 a29 c30 H31 → (
                Does Try.prog 37 [(.slice a29 (l16 + 1) c30)] H31 fun v32 H33 => ∃ a34 : Option Addr, ∃ l35 : Nat, ∃ c36 : Nat, ∃ n37 : Int, v32 = (.tuple #[(.slice a34 l35 c36), (.int .i64 n37)]) ∧ (
                  ∀ b38 : Nat, ∀ H39 : Heap, New H33 b38 [(.int .i64 0), (.int .i64 0), (.int .i64 0), (.bool false)] 46 H39 → (
                    Does Try.prog 36 [(.slice (some (⟨b38, 0, none⟩ : Addr)) 1 1)] H39 fun v40 H41 => ∃ a42 : Option Addr, ∃ l43 : Nat, ∃ c44 : Nat, ∃ n45 : Int, v40 = (.tuple #[(.slice a42 l43 c44), (.int .i64 n45)]) ∧ (
                      ∀ b46 : Nat, ∀ H47 : Heap, New H41 b46 [(.int .i64 4)] 3 H47 → (
                        Does Try.prog 32 [(.slice a10 (l4 + 1) c11), (.slice (some (⟨b46, 0, none⟩ : Addr)) 1 1)] H47 fun v48 H49 => ∃ a50 : Option Addr, ∃ l51 : Nat, ∃ c52 : Nat, v48 = (.slice a50 l51 c52) ∧ (
                          Does Try.prog 34 [(.slice a10 (l4 + 1) c11), (.int .i64 7)] H49 fun v53 H54 => ∃ n55 : Int, ∃ n56 : Int, ∃ n57 : Int, ∃ t58 : Bool, ∃ t59 : Bool, v53 = (.tuple #[(.agg #[(.int .i64 n55), (.int .i64 n56), (.int .i64 n57), (.bool t58)]), (.bool t59)]) ∧ (
                            ∀ b60 : Nat, ∀ H61 : Heap, New H54 b60 [(.int .i64 0), (.int .i64 0), (.int .i64 0), (.bool false)] 46 H61 → (
                              Cells H61 b60 0 4 ∧ ∀ H62 : Heap, Puts H61 b60 0 [(.int .i64 n55), (.int .i64 n56), (.int .i64 n57), (.bool t58)] H62 → (
                                Does Try.prog 34 [(.slice a10 (l4 + 1) c11), (.int .i64 5)] H62 fun v63 H64 => ∃ n65 : Int, ∃ n66 : Int, ∃ n67 : Int, ∃ t68 : Bool, ∃ t69 : Bool, v63 = (.tuple #[(.agg #[(.int .i64 n65), (.int .i64 n66), (.int .i64 n67), (.bool t68)]), (.bool t69)]) ∧ (
                                  ∀ b70 : Nat, ∀ H71 : Heap, New H64 b70 [(.int .i64 0), (.int .i64 0), (.int .i64 0), (.bool false)] 46 H71 → (
                                    Cells H71 b70 0 4 ∧ ∀ H72 : Heap, Puts H71 b70 0 [(.int .i64 n65), (.int .i64 n66), (.int .i64 n67), (.bool t68)] H72 → (
                                      Does Try.prog 27 [] H72 fun v73 H74 => ∃ t75 : Bool, v73 = (.bool t75) ∧ (
                                        (((t75 = true → (
                                                ((((n18 : Int) = 0) → (
                                                      (((((l16 : Int) : Int) = 67) → (
                                                            ((((n24 : Int) = 0) → (
                                                            (((((l22 : Int) : Int) = 5) → (
                                                            (0 : Int) ≤ 4 ∧ (4 : Int) < (l22 : Int) ∧ ∃ b76 o77 : Nat, a21 = some (⟨b76, o77, none⟩ : Addr) ∧ (
                                                            ∃ n78 : Int, hcell H74 b76 (o77 + (Int.toNat 4) * 4) = some (.int .i64 n78) ∧ (
                                                            ∃ n79 : Int, hcell H74 b76 ((o77 + (Int.toNat 4) * 4) + 1) = some (.int .i64 n79) ∧ (
                                                            ∃ n80 : Int, hcell H74 b76 (((o77 + (Int.toNat 4) * 4) + 1) + 1) = some (.int .i64 n80) ∧ (
                                                            ∃ t81 : Bool, hcell H74 b76 ((((o77 + (Int.toNat 4) * 4) + 1) + 1) + 1) = some (.bool t81) ∧ (
                                                            (0 : Int) ≤ 4 ∧ (4 : Int) < ((l4 + 1) : Int) ∧ ∃ b82 o83 : Nat, a10 = some (⟨b82, o83, none⟩ : Addr) ∧ (
                                                            ∃ n84 : Int, hcell H74 b82 (o83 + (Int.toNat 4) * 4) = some (.int .i64 n84) ∧ (
                                                            ∃ n85 : Int, hcell H74 b82 ((o83 + (Int.toNat 4) * 4) + 1) = some (.int .i64 n85) ∧ (
                                                            ∃ n86 : Int, hcell H74 b82 (((o83 + (Int.toNat 4) * 4) + 1) + 1) = some (.int .i64 n86) ∧ (
                                                            ∃ t87 : Bool, hcell H74 b82 ((((o83 + (Int.toNat 4) * 4) + 1) + 1) + 1) = some (.bool t87) ∧ (
                                                            (((((n78 : Int) = n84) ∧ ((n79 : Int) = n85) ∧ ((n80 : Int) = n86) ∧ ((t81 : Bool) = t87)) → (
                                                            ((((n37 : Int) = 2) → (
                                                            ((((n45 : Int) = 1) → (
                                                            (((((l51 : Int) : Int) = 3) → (
                                                            (0 : Int) ≤ 2 ∧ (2 : Int) < (l51 : Int) ∧ ∃ b88 o89 : Nat, a50 = some (⟨b88, o89, none⟩ : Addr) ∧ (
                                                            ∃ n90 : Int, hcell H74 b88 (o89 + (Int.toNat 2) * 4) = some (.int .i64 n90) ∧ (
                                                            ((((n90 : Int) = 4) → (
                                                            ((t59 = true → (
                                                            ∃ n91 : Int, hcell H74 b60 (0 + 2) = some (.int .i64 n91) ∧ (
                                                            ((((n91 : Int) = 2) → (
                                                            (((t69 = false) → (
                                                            (Does Try.prog 33 [(.slice a10 (l4 + 1) c11), (.int .i64 7)] H74 fun v92 H93 => ∃ a94 : Option Addr, ∃ l95 : Nat, ∃ c96 : Nat, v92 = (.slice a94 l95 c96) ∧ (
                                                            (∀ b97 : Nat, ∀ H98 : Heap, New H93 b97 [(.int .i64 1), (.int .i64 2), (.int .i64 3), (.int .i64 7)] 3 H98 → (
                                                            (Does Try.prog 38 [(.slice a94 l95 c96), (.slice (some (⟨b97, 0, none⟩ : Addr)) 4 4)] H98 fun v99 H100 => ∃ t101 : Bool, v99 = (.bool t101) ∧ (
                                                            (((t101 = true → (
                                                            (Does Try.prog 30 [(.slice a10 (l4 + 1) c11), (.int .i64 7)] H100 fun v102 H103 => ∃ a104 : Option Addr, ∃ l105 : Nat, ∃ c106 : Nat, v102 = (.slice a104 l105 c106) ∧ (
                                                            (∀ b107 : Nat, ∀ H108 : Heap, New H103 b107 [(.int .i64 1), (.int .i64 2), (.int .i64 3), (.int .i64 7)] 3 H108 → (
                                                            (Does Try.prog 38 [(.slice a104 l105 c106), (.slice (some (⟨b107, 0, none⟩ : Addr)) 4 4)] H108 fun v109 H110 => ∃ t111 : Bool, v109 = (.bool t111) ∧ (
                                                            (((t111 = true → (
                                                            Does Try.prog 33 [(.slice a10 (l4 + 1) c11), (.int .i64 9)] H110 fun v112 H113 => ∃ a114 : Option Addr, ∃ l115 : Nat, ∃ c116 : Nat, v112 = (.slice a114 l115 c116) ∧ (
                                                            ((((((l115 : Int) : Int) = 0) → (
                                                            Does Try.prog 29 [(.slice a10 (l4 + 1) c11), (.int .i64 7), (.int .i64 9)] H113 fun v117 H118 => ∃ n119 : Int, v117 = (.int .i64 n119) ∧ (
                                                            (((((n119 : Int) = 0) → (
                                                            ∀ b120 : Nat, ∀ H121 : Heap, New H118 b120 [(.int .i64 2), (.int .i64 0), (.int .i64 0), (.bool false), (.int .i64 2), (.int .i64 0), (.int .i64 0), (.bool false)] 46 H121 → (
                                                            (Does Try.prog 28 [(.slice (some (⟨b120, 0, none⟩ : Addr)) 2 2)] H121 fun v122 H123 => ∃ t124 : Bool, v122 = (.bool t124) ∧ (
                                                            ((((t124 = false) → (
                                                            ∀ b125 : Nat, ∀ H126 : Heap, New H123 b125 [(.int .i64 2), (.int .i64 0), (.int .i64 0), (.bool false), (.int .i64 3), (.int .i64 2), (.int .i64 0), (.bool false)] 46 H126 → (
                                                            (Does Try.prog 28 [(.slice (some (⟨b125, 0, none⟩ : Addr)) 2 2)] H126 fun v127 H128 => ∃ t129 : Bool, v127 = (.bool t129) ∧ (
                                                            ((((t129 = false) → (
                                                            ∀ b130 : Nat, ∀ H131 : Heap, New H128 b130 [(.int .i64 2), (.int .i64 0), (.int .i64 0), (.bool true), (.int .i64 3), (.int .i64 0), (.int .i64 2), (.bool false)] 46 H131 → (
                                                            (Does Try.prog 28 [(.slice (some (⟨b130, 0, none⟩ : Addr)) 2 2)] H131 fun v132 H133 => ∃ t134 : Bool, v132 = (.bool t134) ∧ (
                                                            ((((t134 = false) → (
                                                            ∀ b135 : Nat, ∀ H136 : Heap, New H133 b135 [(.int .i64 2), (.int .i64 2), (.int .i64 0), (.bool true)] 46 H136 → (
                                                            (Does Try.prog 28 [(.slice (some (⟨b135, 0, none⟩ : Addr)) 1 1)] H136 fun v137 H138 => ∃ t139 : Bool, v137 = (.bool t139) ∧ (
                                                            (R (.bool (@decide (t139 = false) (Classical.propDecidable _))) H138)))))) ∧ (¬ (t134 = false) → (
                                                            R (.bool false) H133))))))))) ∧ (¬ (t129 = false) → (
                                                            R (.bool false) H128))))))))) ∧ (¬ (t124 = false) → (
                                                            R (.bool false) H123))))))))) ∧ (¬ ((n119 : Int) = 0) → (
                                                            R (.bool false) H118))))))) ∧ (¬ (((l115 : Int) : Int) = 0) → (
                                                            R (.bool false) H113))))))) ∧ (t111 = false → (
                                                            R (.bool false) H110)))))))))) ∧ (∀ b140 : Nat, ∀ H141 : Heap, New H100 b140 [(.int .i64 1), (.int .i64 2), (.int .i64 3), (.int .i64 7)] 3 H141 → (
                                                            (Does Try.prog 30 [(.slice a10 (l4 + 1) c11), (.int .i64 7)] H141 fun v142 H143 => ∃ a144 : Option Addr, ∃ l145 : Nat, ∃ c146 : Nat, v142 = (.slice a144 l145 c146) ∧ (
                                                            (Does Try.prog 38 [(.slice a144 l145 c146), (.slice (some (⟨b140, 0, none⟩ : Addr)) 4 4)] H143 fun v147 H148 => ∃ t149 : Bool, v147 = (.bool t149) ∧ (
                                                            (((t149 = true → (
                                                            Does Try.prog 33 [(.slice a10 (l4 + 1) c11), (.int .i64 9)] H148 fun v150 H151 => ∃ a152 : Option Addr, ∃ l153 : Nat, ∃ c154 : Nat, v150 = (.slice a152 l153 c154) ∧ (
                                                            ((((((l153 : Int) : Int) = 0) → (
                                                            Does Try.prog 29 [(.slice a10 (l4 + 1) c11), (.int .i64 7), (.int .i64 9)] H151 fun v155 H156 => ∃ n157 : Int, v155 = (.int .i64 n157) ∧ (
                                                            (((((n157 : Int) = 0) → (
                                                            ∀ b158 : Nat, ∀ H159 : Heap, New H156 b158 [(.int .i64 2), (.int .i64 0), (.int .i64 0), (.bool false), (.int .i64 2), (.int .i64 0), (.int .i64 0), (.bool false)] 46 H159 → (
                                                            (Does Try.prog 28 [(.slice (some (⟨b158, 0, none⟩ : Addr)) 2 2)] H159 fun v160 H161 => ∃ t162 : Bool, v160 = (.bool t162) ∧ (
                                                            ((((t162 = false) → (
                                                            ∀ b163 : Nat, ∀ H164 : Heap, New H161 b163 [(.int .i64 2), (.int .i64 0), (.int .i64 0), (.bool false), (.int .i64 3), (.int .i64 2), (.int .i64 0), (.bool false)] 46 H164 → (
                                                            (Does Try.prog 28 [(.slice (some (⟨b163, 0, none⟩ : Addr)) 2 2)] H164 fun v165 H166 => ∃ t167 : Bool, v165 = (.bool t167) ∧ (
                                                            ((((t167 = false) → (
                                                            ∀ b168 : Nat, ∀ H169 : Heap, New H166 b168 [(.int .i64 2), (.int .i64 0), (.int .i64 0), (.bool true), (.int .i64 3), (.int .i64 0), (.int .i64 2), (.bool false)] 46 H169 → (
                                                            (Does Try.prog 28 [(.slice (some (⟨b168, 0, none⟩ : Addr)) 2 2)] H169 fun v170 H171 => ∃ t172 : Bool, v170 = (.bool t172) ∧ (
                                                            ((((t172 = false) → (
                                                            ∀ b173 : Nat, ∀ H174 : Heap, New H171 b173 [(.int .i64 2), (.int .i64 2), (.int .i64 0), (.bool true)] 46 H174 → (
                                                            (Does Try.prog 28 [(.slice (some (⟨b173, 0, none⟩ : Addr)) 1 1)] H174 fun v175 H176 => ∃ t177 : Bool, v175 = (.bool t177) ∧ (
                                                            (R (.bool (@decide (t177 = false) (Classical.propDecidable _))) H176)))))) ∧ (¬ (t172 = false) → (
                                                            R (.bool false) H171))))))))) ∧ (¬ (t167 = false) → (
                                                            R (.bool false) H166))))))))) ∧ (¬ (t162 = false) → (
                                                            R (.bool false) H161))))))))) ∧ (¬ ((n157 : Int) = 0) → (
                                                            R (.bool false) H156))))))) ∧ (¬ (((l153 : Int) : Int) = 0) → (
                                                            R (.bool false) H151))))))) ∧ (t149 = false → (
                                                            R (.bool false) H148)))))))))))) ∧ (t101 = false → (
                                                            (R (.bool false) H100) ∧ (R (.bool false) H100))))))))))) ∧ (∀ b178 : Nat, ∀ H179 : Heap, New H74 b178 [(.int .i64 1), (.int .i64 2), (.int .i64 3), (.int .i64 7)] 3 H179 → (
                                                            (Does Try.prog 33 [(.slice a10 (l4 + 1) c11), (.int .i64 7)] H179 fun v180 H181 => ∃ a182 : Option Addr, ∃ l183 : Nat, ∃ c184 : Nat, v180 = (.slice a182 l183 c184) ∧ (
                                                            (Does Try.prog 38 [(.slice a182 l183 c184), (.slice (some (⟨b178, 0, none⟩ : Addr)) 4 4)] H181 fun v185 H186 => ∃ t187 : Bool, v185 = (.bool t187) ∧ (
                                                            (((t187 = true → (
                                                            (Does Try.prog 30 [(.slice a10 (l4 + 1) c11), (.int .i64 7)] H186 fun v188 H189 => ∃ a190 : Option Addr, ∃ l191 : Nat, ∃ c192 : Nat, v188 = (.slice a190 l191 c192) ∧ (
                                                            (∀ b193 : Nat, ∀ H194 : Heap, New H189 b193 [(.int .i64 1), (.int .i64 2), (.int .i64 3), (.int .i64 7)] 3 H194 → (
                                                            (Does Try.prog 38 [(.slice a190 l191 c192), (.slice (some (⟨b193, 0, none⟩ : Addr)) 4 4)] H194 fun v195 H196 => ∃ t197 : Bool, v195 = (.bool t197) ∧ (
                                                            (((t197 = true → (
                                                            Does Try.prog 33 [(.slice a10 (l4 + 1) c11), (.int .i64 9)] H196 fun v198 H199 => ∃ a200 : Option Addr, ∃ l201 : Nat, ∃ c202 : Nat, v198 = (.slice a200 l201 c202) ∧ (
                                                            ((((((l201 : Int) : Int) = 0) → (
                                                            Does Try.prog 29 [(.slice a10 (l4 + 1) c11), (.int .i64 7), (.int .i64 9)] H199 fun v203 H204 => ∃ n205 : Int, v203 = (.int .i64 n205) ∧ (
                                                            (((((n205 : Int) = 0) → (
                                                            ∀ b206 : Nat, ∀ H207 : Heap, New H204 b206 [(.int .i64 2), (.int .i64 0), (.int .i64 0), (.bool false), (.int .i64 2), (.int .i64 0), (.int .i64 0), (.bool false)] 46 H207 → (
                                                            (Does Try.prog 28 [(.slice (some (⟨b206, 0, none⟩ : Addr)) 2 2)] H207 fun v208 H209 => ∃ t210 : Bool, v208 = (.bool t210) ∧ (
                                                            ((((t210 = false) → (
                                                            ∀ b211 : Nat, ∀ H212 : Heap, New H209 b211 [(.int .i64 2), (.int .i64 0), (.int .i64 0), (.bool false), (.int .i64 3), (.int .i64 2), (.int .i64 0), (.bool false)] 46 H212 → (
                                                            (Does Try.prog 28 [(.slice (some (⟨b211, 0, none⟩ : Addr)) 2 2)] H212 fun v213 H214 => ∃ t215 : Bool, v213 = (.bool t215) ∧ (
                                                            ((((t215 = false) → (
                                                            ∀ b216 : Nat, ∀ H217 : Heap, New H214 b216 [(.int .i64 2), (.int .i64 0), (.int .i64 0), (.bool true), (.int .i64 3), (.int .i64 0), (.int .i64 2), (.bool false)] 46 H217 → (
                                                            (Does Try.prog 28 [(.slice (some (⟨b216, 0, none⟩ : Addr)) 2 2)] H217 fun v218 H219 => ∃ t220 : Bool, v218 = (.bool t220) ∧ (
                                                            ((((t220 = false) → (
                                                            ∀ b221 : Nat, ∀ H222 : Heap, New H219 b221 [(.int .i64 2), (.int .i64 2), (.int .i64 0), (.bool true)] 46 H222 → (
                                                            (Does Try.prog 28 [(.slice (some (⟨b221, 0, none⟩ : Addr)) 1 1)] H222 fun v223 H224 => ∃ t225 : Bool, v223 = (.bool t225) ∧ (
                                                            (R (.bool (@decide (t225 = false) (Classical.propDecidable _))) H224)))))) ∧ (¬ (t220 = false) → (
                                                            R (.bool false) H219))))))))) ∧ (¬ (t215 = false) → (
                                                            R (.bool false) H214))))))))) ∧ (¬ (t210 = false) → (
                                                            R (.bool false) H209))))))))) ∧ (¬ ((n205 : Int) = 0) → (
                                                            R (.bool false) H204))))))) ∧ (¬ (((l201 : Int) : Int) = 0) → (
                                                            R (.bool false) H199))))))) ∧ (t197 = false → (
                                                            R (.bool false) H196)))))))))) ∧ (∀ b226 : Nat, ∀ H227 : Heap, New H186 b226 [(.int .i64 1), (.int .i64 2), (.int .i64 3), (.int .i64 7)] 3 H227 → (
                                                            (Does Try.prog 30 [(.slice a10 (l4 + 1) c11), (.int .i64 7)] H227 fun v228 H229 => ∃ a230 : Option Addr, ∃ l231 : Nat, ∃ c232 : Nat, v228 = (.slice a230 l231 c232) ∧ (
                                                            (Does Try.prog 38 [(.slice a230 l231 c232), (.slice (some (⟨b226, 0, none⟩ : Addr)) 4 4)] H229 fun v233 H234 => ∃ t235 : Bool, v233 = (.bool t235) ∧ (
                                                            (((t235 = true → (
                                                            Does Try.prog 33 [(.slice a10 (l4 + 1) c11), (.int .i64 9)] H234 fun v236 H237 => ∃ a238 : Option Addr, ∃ l239 : Nat, ∃ c240 : Nat, v236 = (.slice a238 l239 c240) ∧ (
                                                            ((((((l239 : Int) : Int) = 0) → (
                                                            Does Try.prog 29 [(.slice a10 (l4 + 1) c11), (.int .i64 7), (.int .i64 9)] H237 fun v241 H242 => ∃ n243 : Int, v241 = (.int .i64 n243) ∧ (
                                                            (((((n243 : Int) = 0) → (
                                                            ∀ b244 : Nat, ∀ H245 : Heap, New H242 b244 [(.int .i64 2), (.int .i64 0), (.int .i64 0), (.bool false), (.int .i64 2), (.int .i64 0), (.int .i64 0), (.bool false)] 46 H245 → (
                                                            (Does Try.prog 28 [(.slice (some (⟨b244, 0, none⟩ : Addr)) 2 2)] H245 fun v246 H247 => ∃ t248 : Bool, v246 = (.bool t248) ∧ (
                                                            ((((t248 = false) → (
                                                            ∀ b249 : Nat, ∀ H250 : Heap, New H247 b249 [(.int .i64 2), (.int .i64 0), (.int .i64 0), (.bool false), (.int .i64 3), (.int .i64 2), (.int .i64 0), (.bool false)] 46 H250 → (
                                                            (Does Try.prog 28 [(.slice (some (⟨b249, 0, none⟩ : Addr)) 2 2)] H250 fun v251 H252 => ∃ t253 : Bool, v251 = (.bool t253) ∧ (
                                                            ((((t253 = false) → (
                                                            ∀ b254 : Nat, ∀ H255 : Heap, New H252 b254 [(.int .i64 2), (.int .i64 0), (.int .i64 0), (.bool true), (.int .i64 3), (.int .i64 0), (.int .i64 2), (.bool false)] 46 H255 → (
                                                            (Does Try.prog 28 [(.slice (some (⟨b254, 0, none⟩ : Addr)) 2 2)] H255 fun v256 H257 => ∃ t258 : Bool, v256 = (.bool t258) ∧ (
                                                            ((((t258 = false) → (
                                                            ∀ b259 : Nat, ∀ H260 : Heap, New H257 b259 [(.int .i64 2), (.int .i64 2), (.int .i64 0), (.bool true)] 46 H260 → (
                                                            (Does Try.prog 28 [(.slice (some (⟨b259, 0, none⟩ : Addr)) 1 1)] H260 fun v261 H262 => ∃ t263 : Bool, v261 = (.bool t263) ∧ (
                                                            (R (.bool (@decide (t263 = false) (Classical.propDecidable _))) H262)))))) ∧ (¬ (t258 = false) → (
                                                            R (.bool false) H257))))))))) ∧ (¬ (t253 = false) → (
                                                            R (.bool false) H252))))))))) ∧ (¬ (t248 = false) → (
                                                            R (.bool false) H247))))))))) ∧ (¬ ((n243 : Int) = 0) → (
                                                            R (.bool false) H242))))))) ∧ (¬ (((l239 : Int) : Int) = 0) → (
                                                            R (.bool false) H237))))))) ∧ (t235 = false → (
                                                            R (.bool false) H234)))))))))))) ∧ (t187 = false → (
                                                            (R (.bool false) H186) ∧ (R (.bool false) H186))))))))))))) ∧ (¬ (t69 = false) → (
                                                            ((R (.bool false) H74) ∧ (R (.bool false) H74)) ∧ ((R (.bool false) H74) ∧ (R (.bool false) H74))))))) ∧ (¬ ((n91 : Int) = 2) → (
                                                            ((R (.bool false) H74) ∧ (R (.bool false) H74)) ∧ ((R (.bool false) H74) ∧ (R (.bool false) H74)))))))) ∧ (t59 = false → (
                                                            ((R (.bool false) H74) ∧ (R (.bool false) H74)) ∧ ((R (.bool false) H74) ∧ (R (.bool false) H74))))))) ∧ (¬ ((n90 : Int) = 4) → (
                                                            ((R (.bool false) H74) ∧ (R (.bool false) H74)) ∧ ((R (.bool false) H74) ∧ (R (.bool false) H74))))))))) ∧ (¬ (((l51 : Int) : Int) = 3) → (
                                                            ((R (.bool false) H74) ∧ (R (.bool false) H74)) ∧ ((R (.bool false) H74) ∧ (R (.bool false) H74))))))) ∧ (¬ ((n45 : Int) = 1) → (
                                                            ((R (.bool false) H74) ∧ (R (.bool false) H74)) ∧ ((R (.bool false) H74) ∧ (R (.bool false) H74))))))) ∧ (¬ ((n37 : Int) = 2) → (
                                                            ((R (.bool false) H74) ∧ (R (.bool false) H74)) ∧ ((R (.bool false) H74) ∧ (R (.bool false) H74))))))) ∧ (¬ (((n78 : Int) = n84) ∧ ((n79 : Int) = n85) ∧ ((n80 : Int) = n86) ∧ ((t81 : Bool) = t87)) → (
                                                            ((R (.bool false) H74) ∧ (R (.bool false) H74)) ∧ ((R (.bool false) H74) ∧ (R (.bool false) H74))))))))))))))))) ∧ (¬ (((l22 : Int) : Int) = 5) → (
                                                            ((R (.bool false) H74) ∧ (R (.bool false) H74)) ∧ ((R (.bool false) H74) ∧ (R (.bool false) H74))))))) ∧ (¬ ((n24 : Int) = 0) → (
                                                            ((R (.bool false) H74) ∧ (R (.bool false) H74)) ∧ ((R (.bool false) H74) ∧ (R (.bool false) H74))))))) ∧ (¬ (((l16 : Int) : Int) = 67) → (
                                                            ((R (.bool false) H74) ∧ (R (.bool false) H74)) ∧ ((R (.bool false) H74) ∧ (R (.bool false) H74))))))) ∧ (¬ ((n18 : Int) = 0) → (
                                                      ((R (.bool false) H74) ∧ (R (.bool false) H74)) ∧ ((R (.bool false) H74) ∧ (R (.bool false) H74))))))) ∧ (t75 = false → (
                                                ((R (.bool false) H74) ∧ (R (.bool false) H74)) ∧ ((R (.bool false) H74) ∧ (R (.bool false) H74)))))))))))))))))))))))))) := by kernel_rfl


end Go.Proofs
end

section
open Go Go.Vc
namespace Go.Proofs

def L5 : List Ly := [⟨1, 0, 0, true⟩, ⟨2, 1, 0, true⟩, ⟨3, 2, 0, true⟩, ⟨4, 2, 0, false⟩, ⟨7, 3, 2, false⟩]
theorem right5 : rightB L5 = true := by decide
theorem anc57 : anc L5 7 = [1, 2, 3, 7] := asc_ext (anc_asc _ _) (by simp) (fun k => by
  rw [anc_mem, show ancU L5 7 = [7, 3, 2, 1] by decide]; simp; omega)
theorem anc54 : anc L5 4 = [1, 2, 4] := asc_ext (anc_asc _ _) (by simp) (fun k => by
  rw [anc_mem, show ancU L5 4 = [4, 2, 1] by decide]; simp; omega)
theorem anc59 : anc L5 9 = [] := asc_ext (anc_asc _ _) (by simp) (fun k => by
  rw [anc_mem, show ancU L5 9 = [] by decide])
theorem base579 : baseOf (anc L5 7) (anc L5 9) = 0 := by rw [anc57, anc59]; rfl
theorem kept5 : keptOf L5 [4] = [1, 2, 4] := by
  have : keptOf L5 [4] = anc L5 4 := by simp [keptOf]
  rw [this, anc54]

theorem new_row {H H' : Heap} {b : Nat} {e : TypeId} {vs : List Value} {L : List Ly} (hn : New H b vs e H') (hv : vs = rowsOf L) : LRow H' (some ⟨b, 0, none⟩) L := by
  subst hv
  refine ⟨rowsOf_length L, .inr rfl, fun j u hj => ?_⟩
  show hcell H' b (0 + j) = some u
  rw [Nat.zero_add, hn.blk.cell]; exact hj

theorem new_ints {H H' : Heap} {b : Nat} {e : TypeId} {vs : List Value} {z : List Int} (hn : New H b vs e H') (hv : vs = ints z) : IRow H' (some ⟨b, 0, none⟩) z := by
  subst hv
  refine ⟨by rw [ints_length]; omega, .inr rfl, fun j u hj => ?_⟩
  show hcell H' b (0 + j) = some u
  rw [Nat.zero_add, hn.blk.cell]; exact hj

theorem wrong {H H0 H' : Heap} {b n : Nat} {e : TypeId} {vs : List Value} {L : List Ly} (hn : New H b vs e H') (hv : vs = rowsOf L) (hl : L.length = n) (h6 : n ≤ 1000) (hw : rightB L = false) (hx : Ext [] H0 H) :
    Does Try.prog 28 [.slice (some ⟨b, 0, none⟩) n n] H' fun v H1 => v = .bool false ∧ Ext [] H0 H1 := by
  subst hl
  refine (right_ok (by omega) (Nat.le_refl _) (new_row hn hv)).mono ?_
  rintro _ H1 ⟨rfl, h⟩
  exact ⟨congrArg _ hw, (hx.trans hn.ext).trans h⟩

theorem tail_ok {H0 H : Heap} {a : Option Addr} {c : Nat} {R : Value → Heap → Prop} (hr : LRow H a L5) (hx : Ext [] H0 H) (hR : ∀ H', Ext [] H0 H' → R (.bool true) H') : 
(
      Does Try.prog 33 [(.slice a 5 c), (.int .i64 9)] H fun v112 H113 => ∃ a114 : Option Addr, ∃ l115 : Nat, ∃ c116 : Nat, v112 = (.slice a114 l115 c116) ∧ (
      ((((((l115 : Int) : Int) = 0) → (
      Does Try.prog 29 [(.slice a 5 c), (.int .i64 7), (.int .i64 9)] H113 fun v117 H118 => ∃ n119 : Int, v117 = (.int .i64 n119) ∧ (
      (((((n119 : Int) = 0) → (
      ∀ b120 : Nat, ∀ H121 : Heap, New H118 b120 [(.int .i64 2), (.int .i64 0), (.int .i64 0), (.bool false), (.int .i64 2), (.int .i64 0), (.int .i64 0), (.bool false)] 46 H121 → (
      (Does Try.prog 28 [(.slice (some (⟨b120, 0, none⟩ : Addr)) 2 2)] H121 fun v122 H123 => ∃ t124 : Bool, v122 = (.bool t124) ∧ (
      ((((t124 = false) → (
      ∀ b125 : Nat, ∀ H126 : Heap, New H123 b125 [(.int .i64 2), (.int .i64 0), (.int .i64 0), (.bool false), (.int .i64 3), (.int .i64 2), (.int .i64 0), (.bool false)] 46 H126 → (
      (Does Try.prog 28 [(.slice (some (⟨b125, 0, none⟩ : Addr)) 2 2)] H126 fun v127 H128 => ∃ t129 : Bool, v127 = (.bool t129) ∧ (
      ((((t129 = false) → (
      ∀ b130 : Nat, ∀ H131 : Heap, New H128 b130 [(.int .i64 2), (.int .i64 0), (.int .i64 0), (.bool true), (.int .i64 3), (.int .i64 0), (.int .i64 2), (.bool false)] 46 H131 → (
      (Does Try.prog 28 [(.slice (some (⟨b130, 0, none⟩ : Addr)) 2 2)] H131 fun v132 H133 => ∃ t134 : Bool, v132 = (.bool t134) ∧ (
      ((((t134 = false) → (
      ∀ b135 : Nat, ∀ H136 : Heap, New H133 b135 [(.int .i64 2), (.int .i64 2), (.int .i64 0), (.bool true)] 46 H136 → (
      (Does Try.prog 28 [(.slice (some (⟨b135, 0, none⟩ : Addr)) 1 1)] H136 fun v137 H138 => ∃ t139 : Bool, v137 = (.bool t139) ∧ (
      (R (.bool (@decide (t139 = false) (Classical.propDecidable _))) H138)))))) ∧ (¬ (t134 = false) → (
      R (.bool false) H133))))))))) ∧ (¬ (t129 = false) → (
      R (.bool false) H128))))))))) ∧ (¬ (t124 = false) → (
      R (.bool false) H123))))))))) ∧ (¬ ((n119 : Int) = 0) → (
      R (.bool false) H118))))))) ∧ (¬ (((l115 : Int) : Int) = 0) → (
      R (.bool false) H113))))))
  := by
  refine (chain_ok (L := L5) 9 (by decide) hr).mono ?_
  rintro _ H1 ⟨a', c', rfl, _, hx1, _⟩
  refine ⟨a', _, c', rfl, fun _ => ?_, fun e => absurd (show ((chain L5 9).length : Int) = 0 by decide) e⟩
  refine (base_ok (L := L5) 7 9 (by decide) (hr.ext hx1 (by simp))).mono ?_
  rintro _ H2 ⟨rfl, hx2⟩
  refine ⟨_, rfl, fun _ => ?_, fun e => absurd base579 e⟩
  intro b3 H3 hn3
  refine (wrong (L := [⟨2, 0, 0, false⟩, ⟨2, 0, 0, false⟩]) hn3 rfl rfl (by decide) (by decide) ((hx.trans hx1).trans hx2)).mono ?_
  rintro _ H4 ⟨rfl, hx4⟩
  refine ⟨_, rfl, fun _ => ?_, fun e => absurd rfl e⟩
  intro b5 H5 hn5
  refine (wrong (L := [⟨2, 0, 0, false⟩, ⟨3, 2, 0, false⟩]) hn5 rfl rfl (by decide) (by decide) hx4).mono ?_
  rintro _ H6 ⟨rfl, hx6⟩
  refine ⟨_, rfl, fun _ => ?_, fun e => absurd rfl e⟩
  intro b7 H7 hn7
  refine (wrong (L := [⟨2, 0, 0, true⟩, ⟨3, 0, 2, false⟩]) hn7 rfl rfl (by decide) (by decide) hx6).mono ?_
  rintro _ H8 ⟨rfl, hx8⟩
  refine ⟨_, rfl, fun _ => ?_, fun e => absurd rfl e⟩
  intro b9 H9 hn9
  refine (wrong (L := [⟨2, 2, 0, true⟩]) hn9 rfl rfl (by decide) (by decide) hx8).mono ?_
  rintro _ H10 ⟨rfl, hx10⟩
  refine ⟨_, rfl, ?_⟩
  rw [yes (p := false = false) rfl]
  exact hR _ hx10

theorem mid_ok {H0 H : Heap} {a : Option Addr} {c : Nat} {R : Value → Heap → Prop} (hr : LRow H a L5) (hx : Ext [] H0 H) (hR : ∀ H', Ext [] H0 H' → R (.bool true) H') : 
(
      (Does Try.prog 30 [(.slice a 5 c), (.int .i64 7)] H fun v102 H103 => ∃ a104 : Option Addr, ∃ l105 : Nat, ∃ c106 : Nat, v102 = (.slice a104 l105 c106) ∧ (
      (∀ b107 : Nat, ∀ H108 : Heap, New H103 b107 [(.int .i64 1), (.int .i64 2), (.int .i64 3), (.int .i64 7)] 3 H108 → (
      (Does Try.prog 38 [(.slice a104 l105 c106), (.slice (some (⟨b107, 0, none⟩ : Addr)) 4 4)] H108 fun v109 H110 => ∃ t111 : Bool, v109 = (.bool t111) ∧ (
      (((t111 = true → (
      Does Try.prog 33 [(.slice a 5 c), (.int .i64 9)] H110 fun v112 H113 => ∃ a114 : Option Addr, ∃ l115 : Nat, ∃ c116 : Nat, v112 = (.slice a114 l115 c116) ∧ (
      ((((((l115 : Int) : Int) = 0) → (
      Does Try.prog 29 [(.slice a 5 c), (.int .i64 7), (.int .i64 9)] H113 fun v117 H118 => ∃ n119 : Int, v117 = (.int .i64 n119) ∧ (
      (((((n119 : Int) = 0) → (
      ∀ b120 : Nat, ∀ H121 : Heap, New H118 b120 [(.int .i64 2), (.int .i64 0), (.int .i64 0), (.bool false), (.int .i64 2), (.int .i64 0), (.int .i64 0), (.bool false)] 46 H121 → (
      (Does Try.prog 28 [(.slice (some (⟨b120, 0, none⟩ : Addr)) 2 2)] H121 fun v122 H123 => ∃ t124 : Bool, v122 = (.bool t124) ∧ (
      ((((t124 = false) → (
      ∀ b125 : Nat, ∀ H126 : Heap, New H123 b125 [(.int .i64 2), (.int .i64 0), (.int .i64 0), (.bool false), (.int .i64 3), (.int .i64 2), (.int .i64 0), (.bool false)] 46 H126 → (
      (Does Try.prog 28 [(.slice (some (⟨b125, 0, none⟩ : Addr)) 2 2)] H126 fun v127 H128 => ∃ t129 : Bool, v127 = (.bool t129) ∧ (
      ((((t129 = false) → (
      ∀ b130 : Nat, ∀ H131 : Heap, New H128 b130 [(.int .i64 2), (.int .i64 0), (.int .i64 0), (.bool true), (.int .i64 3), (.int .i64 0), (.int .i64 2), (.bool false)] 46 H131 → (
      (Does Try.prog 28 [(.slice (some (⟨b130, 0, none⟩ : Addr)) 2 2)] H131 fun v132 H133 => ∃ t134 : Bool, v132 = (.bool t134) ∧ (
      ((((t134 = false) → (
      ∀ b135 : Nat, ∀ H136 : Heap, New H133 b135 [(.int .i64 2), (.int .i64 2), (.int .i64 0), (.bool true)] 46 H136 → (
      (Does Try.prog 28 [(.slice (some (⟨b135, 0, none⟩ : Addr)) 1 1)] H136 fun v137 H138 => ∃ t139 : Bool, v137 = (.bool t139) ∧ (
      (R (.bool (@decide (t139 = false) (Classical.propDecidable _))) H138)))))) ∧ (¬ (t134 = false) → (
      R (.bool false) H133))))))))) ∧ (¬ (t129 = false) → (
      R (.bool false) H128))))))))) ∧ (¬ (t124 = false) → (
      R (.bool false) H123))))))))) ∧ (¬ ((n119 : Int) = 0) → (
      R (.bool false) H118))))))) ∧ (¬ (((l115 : Int) : Int) = 0) → (
      R (.bool false) H113))))))) ∧ (t111 = false → (
      R (.bool false) H110)))))))))) ∧ (∀ b140 : Nat, ∀ H141 : Heap, New H b140 [(.int .i64 1), (.int .i64 2), (.int .i64 3), (.int .i64 7)] 3 H141 → (
      (Does Try.prog 30 [(.slice a 5 c), (.int .i64 7)] H141 fun v142 H143 => ∃ a144 : Option Addr, ∃ l145 : Nat, ∃ c146 : Nat, v142 = (.slice a144 l145 c146) ∧ (
      (Does Try.prog 38 [(.slice a144 l145 c146), (.slice (some (⟨b140, 0, none⟩ : Addr)) 4 4)] H143 fun v147 H148 => ∃ t149 : Bool, v147 = (.bool t149) ∧ (
      (((t149 = true → (
      Does Try.prog 33 [(.slice a 5 c), (.int .i64 9)] H148 fun v150 H151 => ∃ a152 : Option Addr, ∃ l153 : Nat, ∃ c154 : Nat, v150 = (.slice a152 l153 c154) ∧ (
      ((((((l153 : Int) : Int) = 0) → (
      Does Try.prog 29 [(.slice a 5 c), (.int .i64 7), (.int .i64 9)] H151 fun v155 H156 => ∃ n157 : Int, v155 = (.int .i64 n157) ∧ (
      (((((n157 : Int) = 0) → (
      ∀ b158 : Nat, ∀ H159 : Heap, New H156 b158 [(.int .i64 2), (.int .i64 0), (.int .i64 0), (.bool false), (.int .i64 2), (.int .i64 0), (.int .i64 0), (.bool false)] 46 H159 → (
      (Does Try.prog 28 [(.slice (some (⟨b158, 0, none⟩ : Addr)) 2 2)] H159 fun v160 H161 => ∃ t162 : Bool, v160 = (.bool t162) ∧ (
      ((((t162 = false) → (
      ∀ b163 : Nat, ∀ H164 : Heap, New H161 b163 [(.int .i64 2), (.int .i64 0), (.int .i64 0), (.bool false), (.int .i64 3), (.int .i64 2), (.int .i64 0), (.bool false)] 46 H164 → (
      (Does Try.prog 28 [(.slice (some (⟨b163, 0, none⟩ : Addr)) 2 2)] H164 fun v165 H166 => ∃ t167 : Bool, v165 = (.bool t167) ∧ (
      ((((t167 = false) → (
      ∀ b168 : Nat, ∀ H169 : Heap, New H166 b168 [(.int .i64 2), (.int .i64 0), (.int .i64 0), (.bool true), (.int .i64 3), (.int .i64 0), (.int .i64 2), (.bool false)] 46 H169 → (
      (Does Try.prog 28 [(.slice (some (⟨b168, 0, none⟩ : Addr)) 2 2)] H169 fun v170 H171 => ∃ t172 : Bool, v170 = (.bool t172) ∧ (
      ((((t172 = false) → (
      ∀ b173 : Nat, ∀ H174 : Heap, New H171 b173 [(.int .i64 2), (.int .i64 2), (.int .i64 0), (.bool true)] 46 H174 → (
      (Does Try.prog 28 [(.slice (some (⟨b173, 0, none⟩ : Addr)) 1 1)] H174 fun v175 H176 => ∃ t177 : Bool, v175 = (.bool t177) ∧ (
      (R (.bool (@decide (t177 = false) (Classical.propDecidable _))) H176)))))) ∧ (¬ (t172 = false) → (
      R (.bool false) H171))))))))) ∧ (¬ (t167 = false) → (
      R (.bool false) H166))))))))) ∧ (¬ (t162 = false) → (
      R (.bool false) H161))))))))) ∧ (¬ ((n157 : Int) = 0) → (
      R (.bool false) H156))))))) ∧ (¬ (((l153 : Int) : Int) = 0) → (
      R (.bool false) H151))))))) ∧ (t149 = false → (
      R (.bool false) H148)))))))))))
  := by
  refine ⟨?_, ?_⟩
  · refine (ancestors_ok (L := L5) 7 (by decide) hr).mono ?_
    rintro _ H1 ⟨a1, c1, rfl, ho1, _, hx1, _⟩
    refine ⟨_, _, _, rfl, fun b2 H2 hn2 => ?_⟩
    refine (same_ok (ys := [1, 2, 3, 7]) (by rw [anc57]; decide) ((Own.irow ho1).1.ext hn2.ext (by simp)) (new_ints hn2 rfl)).mono ?_
    rintro _ _ ⟨rfl, rfl⟩
    have hx2 := hx1.trans hn2.ext
    exact ⟨_, rfl, fun _ => tail_ok (hr.ext hx2 (by simp)) (hx.trans hx2) hR, fun e => absurd e (by simp [anc57])⟩
  · intro b2 H2 hn2
    refine (ancestors_ok (L := L5) 7 (by decide) (hr.ext hn2.ext (by simp))).mono ?_
    rintro _ H1 ⟨a1, c1, rfl, ho1, _, hx1, _⟩
    refine ⟨_, _, _, rfl, ?_⟩
    refine (same_ok (ys := [1, 2, 3, 7]) (by rw [anc57]; decide) (Own.irow ho1).1 ((new_ints hn2 rfl).ext hx1 (by simp))).mono ?_
    rintro _ _ ⟨rfl, rfl⟩
    have hx2 := hn2.ext.trans hx1
    exact ⟨_, rfl, fun _ => tail_ok (hr.ext hx2 (by simp)) (hx.trans hx2) hR, fun e => absurd e (by simp [anc57])⟩
end Go.Proofs
end

section
open Go Go.Vc
namespace Go.Proofs

theorem beL_byt : ∀ (n : Nat) (v : Int), Byt (beL n v)
  | 0, _ => fun z hz => by cases hz
  | n + 1, v => fun z hz => by
    rcases List.mem_cons.1 hz with rfl | hz
    · omega
    · exact beL_byt n v z hz
theorem Byt.append {l m : List Int} (h : Byt l) (k : Byt m) : Byt (l ++ m) := fun z hz => by
  rcases List.mem_append.1 hz with hz | hz
  · exact h z hz
  · exact k z hz
theorem layB_byt (L : List Ly) : Byt (layB L) := by
  refine (beL_byt _ _).append ?_
  intro z hz
  obtain ⟨l, hl, hz⟩ := List.mem_flatten.1 hz
  obtain ⟨x, _, rfl⟩ := List.mem_map.1 hl
  exact ((((beL_byt _ _).append (beL_byt _ _)).append (beL_byt _ _)).append (beL_byt _ _)) z hz

theorem layB_inj {L K : List Ly} (hL : rightB L = true) (hK : rightB K = true) (h : layB L = layB K) : L = K := by
  rw [← readL_lay (f := pos) rfl rfl hL, h, readL_lay rfl rfl hK]

theorem keep5 : keepL L5 [1, 2, 4] = [⟨1, 0, 0, true⟩, ⟨2, 1, 0, true⟩, ⟨4, 2, 0, false⟩] := by simp [keepL, L5]

set_option maxHeartbeats 1000000 in
theorem gknown_law (H : Heap) : Does Try.prog 9 [] H fun v H' => v = .bool true ∧ Ext [] H H' := by
  refine Fn_of_vc Try.mixed (vc_gknown _ _) ?_
  refine (four_ok H).mono ?_
  rintro _ H2 ⟨b3, rfl, ho2, hx2, hb3⟩
  refine ⟨_, _, _, rfl, fun b6 H7 hn7 => ?_⟩
  have ho7 := ho2.ext hn7.ext (by simp)
  refine ⟨rowsOf L4, (Ly.cells ⟨7, 3, 2, false⟩), ho7.row _ _, ⟨rfl, .inr rfl, fun i u hi => ?_⟩, ?_, by omega, fun hle => ho7.room (n := 1) hle, fun a10 c11 H12 happ => ?_⟩
  · show hcell H7 b6 (0 + i) = some u
    rw [Nat.zero_add, hn7.blk.cell]; exact hi
  · intro u hu
    simp only [Ly.cells, List.mem_cons, List.not_mem_nil, or_false] at hu
    rcases hu with rfl | rfl | rfl | rfl <;> rfl
  obtain ⟨ho12, hx12, hfr12⟩ := happ.own ho7 (ho7.row _ _) rfl rfl
  have hX12 : Ext [] H H12 := ext_new (hx2.trans hn7.ext) hx12 (fun i hi => by simp only [blkOf, List.mem_singleton] at hi; omega)
  have ho12' : Own H12 4 a10 (4 + 1) c11 (rowsOf L5) := ho12
  have hL12 : LRow H12 a10 L5 := (own_lrow ho12').1
  refine (lay_ok (L := L5) (by decide) ho12'.2.1 hL12).mono ?_
  rintro _ H14 ⟨hL, hx14⟩
  rcases hL with ⟨hw, _⟩ | ⟨_, a15, c17, rfl, ho14, hfr14⟩
  · rw [right5] at hw; cases hw
  refine ⟨_, _, _, _, rfl, ?_⟩
  refine (read_ok (layB_byt L5) (by rw [layB_length]; decide) (ho14.row _ _)).mono ?_
  rintro _ H20 ⟨hR, hx20⟩
  rcases hR with ⟨K, a21, c23, hK, hlay, rfl, ho20, hfr20⟩ | ⟨hno, _⟩
  rotate_left
  · exact absurd rfl (hno L5 right5)
  obtain rfl : K = L5 := layB_inj hK right5 hlay
  refine ⟨_, _, _, _, rfl, fun b25 H26 hn26 => ?_⟩
  have ho26 := (ho14.ext hx20 (by simp)).ext hn26.ext (by simp)
  refine ⟨u8s (layB L5), u8s [0], ho26.row _ _, ⟨rfl, .inr rfl, fun i u hi => ?_⟩, u8s_one _, by rw [layB_length]; decide, fun hle => by simpa using ho26.room (n := 1) hle, fun a29 c30 H31 happ31 => ?_⟩
  · show hcell H26 b25 (0 + i) = some u
    rw [Nat.zero_add, hn26.blk.cell]; exact hi
  obtain ⟨ho31, hx31, hfr31⟩ := happ31.own ho26 (ho26.row _ _) rfl rfl
  have hs14 := hx14.size
  have far31 : ∀ k ∈ blkOf a10, k ∉ blkOf a15 := fun k hk hm => by
    have h1 := hL12
    have := ho12'.lt k hk
    have := hfr14 k hm
    omega
  have hX20 := (hX12.trans hx14).trans hx20
  have hs12 := hX12.size
  have hX31 : Ext [] H H31 := ext_new (hX20.trans hn26.ext) hx31 (fun i hi => by have := hfr14 i hi; omega)
  have hL31 : LRow H31 a10 L5 := (((hL12.ext hx14 (by simp)).ext hx20 (by simp)).ext hn26.ext (by simp)).ext hx31 far31
  have hM31 : LRow H31 a21 L5 := ((own_lrow ho20).1.ext hn26.ext (by simp)).ext hx31 (fun k hk hm => by
    have := hfr20 k hk
    have := ho14.lt k hm
    omega)
  have e68 : (layB L5 ++ [0]).length = (layB L5).length + 1 := by simp
  have ho31' : Own H31 1 a29 (layB L5 ++ [0]).length c30 (u8s (layB L5 ++ [0])) := by
    rw [e68, u8s_append]; exact ho31
  have hB1 : Byt (layB L5 ++ [0]) := (layB_byt L5).append (fun z hz => by simp only [List.mem_singleton] at hz; omega)
  have hread := read_ok hB1 (by rw [e68, layB_length]; decide) (ho31'.row (layB L5 ++ [0]).length c30)
  rw [e68] at hread
  refine hread.mono ?_
  rintro _ H33 ⟨hR, hx33⟩
  rcases hR with ⟨K, _, _, hK, hlay, _⟩ | ⟨_, rfl⟩
  · have := congrArg List.length hlay
    rw [e68, layB_length, layB_length, show L5.length = 5 from rfl] at this
    omega
  refine ⟨_, _, _, _, rfl, fun b38 H39 hn39 => ?_⟩
  refine (lay_ok (L := [⟨0, 0, 0, false⟩]) (by decide) (Nat.le_refl _) (new_row hn39 rfl)).mono ?_
  rintro _ H41 ⟨hL, hx41⟩
  rcases hL with ⟨_, rfl⟩ | ⟨hw, _⟩
  rotate_left
  · exact absurd hw (by decide)
  refine ⟨_, _, _, _, rfl, fun b46 H47 hn47 => ?_⟩
  have hy47 := ((hx33.trans hn39.ext).trans hx41).trans hn47.ext
  have hL47 := hL31.ext hy47 (by simp)
  have hM47 := hM31.ext hy47 (by simp)
  refine (keep_ok (L := L5) (ids := [4]) (by decide) hL47 (by decide) (new_ints hn47 rfl)).mono ?_
  rintro _ H49 ⟨a50, c52, rfl, ho49, hx49, _⟩
  rw [kept5, keep5] at ho49 ⊢
  have hL49 := hL47.ext hx49 (by simp)
  refine ⟨_, _, _, rfl, (find_ok (L := L5) 7 (by decide) hL49).mono ?_⟩
  rintro _ H54 ⟨rfl, hx54⟩
  refine ⟨_, _, _, _, _, rfl, fun b60 H61 hn61 => ⟨hn61.blk.cells _ _ (by simp), fun H62 hp62 => ?_⟩⟩
  have hb62 := hp62.blk hn61.blk (by simp)
  have hx62 := ext_new hn61.ext hp62.ext (by have := hn61.eq; simp; omega)
  have hL62 := (hL49.ext hx54 (by simp)).ext hx62 (by simp)
  refine (find_ok (L := L5) 5 (by decide) hL62).mono ?_
  rintro _ H64 ⟨rfl, hx64⟩
  refine ⟨_, _, _, _, _, rfl, fun b70 H71 hn71 => ⟨hn71.blk.cells _ _ (by simp), fun H72 hp72 => ?_⟩⟩
  have hx72 := ext_new hn71.ext hp72.ext (by have := hn71.eq; simp; omega)
  refine (known13_ok H72).mono ?_
  rintro _ H74 ⟨rfl, hx74⟩
  have hy74 := (hx64.trans hx72).trans hx74
  have hL74 := hL62.ext hy74 (by simp)
  have hz74 := ((hx49.trans hx54).trans hx62).trans hy74
  have hM74 := hM47.ext hz74 (by simp)
  have hK74 := (own_lrow ho49).1.ext ((hx54.trans hx62).trans hy74) (by simp)
  have hb74 := hb62.ext hy74 (by simp)
  have hX74 := (hX31.trans hy47).trans hz74
  obtain ⟨b76, o77, e76, m0, m1, m2, m3⟩ := hM74.at (i := 4) (x := ⟨7, 3, 2, false⟩) rfl
  obtain ⟨b82, o83, e82, l0, l1, l2, l3⟩ := hL74.at (i := 4) (x := ⟨7, 3, 2, false⟩) rfl
  obtain ⟨b88, o89, e88, k0, _⟩ := hK74.at (i := 2) (x := ⟨4, 2, 0, false⟩) rfl
  have fin : ∀ H', Ext [] H H' → (fun (v : Value) (H' : Heap) => v = .bool true ∧ Ext [] H H') (.bool true) H' := fun H' h => ⟨rfl, h⟩
  refine ⟨_, rfl, fun _ => ⟨fun _ => ⟨fun _ => ⟨fun _ => ⟨fun _ => ⟨by decide, by decide, b76, o77, e76, _, m0, _, m1, _, m2, _, m3, by decide, by decide, b82, o83, e82, _, l0, _, l1, _, l2, _, l3, fun _ => ⟨fun _ => ⟨fun _ => ⟨fun _ => ⟨by decide, by decide, b88, o89, e88, _, k0, fun _ => ⟨fun _ => ⟨2, by rw [hb74.cell]; rfl, fun _ => ⟨fun _ => ⟨?_, ?_⟩, fun e => absurd (by decide) e⟩, fun e => absurd rfl e⟩, fun e => absurd e (by decide)⟩, fun e => absurd rfl e⟩, fun e => absurd (by decide) e⟩, fun e => absurd rfl e⟩, fun e => absurd rfl e⟩, fun e => absurd ⟨rfl, rfl, rfl, rfl⟩ e⟩, fun e => absurd (by decide) e⟩, fun e => absurd rfl e⟩, fun e => absurd (by rw [layB_length]; decide) e⟩, fun e => absurd rfl e⟩, fun e => absurd e (by decide)⟩
  · refine (chain_ok (L := L5) 7 (by decide) hL74).mono ?_
    rintro _ H1 ⟨a1, c1, rfl, ho1, hx1, _⟩
    refine ⟨_, _, _, rfl, fun b2 H2 hn2 => ?_⟩
    refine (same_ok (ys := [1, 2, 3, 7]) (by decide) ((Own.irow ho1).1.ext hn2.ext (by simp)) (new_ints hn2 rfl)).mono ?_
    rintro _ _ ⟨rfl, rfl⟩
    have hx2 := hx1.trans hn2.ext
    exact ⟨_, rfl, fun _ => mid_ok (R := fun v H' => v = .bool true ∧ Ext [] H H') (c := c11) (hL74.ext hx2 (by simp)) (hX74.trans hx2) fin, fun e => absurd e (by decide)⟩
  · intro b2 H2 hn2
    refine (chain_ok (L := L5) 7 (by decide) (hL74.ext hn2.ext (by simp))).mono ?_
    rintro _ H1 ⟨a1, c1, rfl, ho1, hx1, _⟩
    refine ⟨_, _, _, rfl, ?_⟩
    refine (same_ok (ys := [1, 2, 3, 7]) (by decide) (Own.irow ho1).1 ((new_ints hn2 rfl).ext hx1 (by simp))).mono ?_
    rintro _ _ ⟨rfl, rfl⟩
    have hx2 := hn2.ext.trans hx1
    exact ⟨_, rfl, fun _ => mid_ok (R := fun v H' => v = .bool true ∧ Ext [] H H') (c := c11) (hL74.ext hx2 (by simp)) (hX74.trans hx2) fin, fun e => absurd e (by decide)⟩
end Go.Proofs
end

