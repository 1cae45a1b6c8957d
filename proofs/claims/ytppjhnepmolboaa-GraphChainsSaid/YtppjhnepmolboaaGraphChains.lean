/-
  The law GraphChains is true and changes nothing that was there, whatever the input. No condition.
-/
import Derived.Test.YtppjhnepmolboaaGr
import Derived.Test.YtppjhnepmolboaaRows
import Derived.WalkKit
import Derived.ProofKit
import Derived.OpenShut
import Derived.ShutString
import Derived.ChangeOld
import Derived.Below
import Derived.Test.YtppjhnepmolboaaVd

section
open Go Go.Vc
namespace Go.Proofs

theorem raw_rows {z : List (List Value)} (w : ∀ r ∈ z, CellsAre [.i .i64, .i .i64, .i .i64, .b] r) : ∃ R : List Ly, z = R.map Ly.cells := by
  obtain ⟨xs, h, _⟩ := rows_map (f := Ly.cells) (good := fun _ => True) z (fun r hr => by
    have := w r hr
    match r, this with
    | [.int .i64 a, .int .i64 b, .int .i64 c, .bool d], _ => exact ⟨⟨a, b, c, d⟩, rfl, trivial⟩)
  exact ⟨xs, h⟩

theorem own_len {H : Heap} {a : Option Addr} {n c : Nat} {zs : List Int} (h : Own H 1 a n c (ints zs)) : zs.length = n := (Own.irow h).2

set_option maxHeartbeats 1000000 in
theorem gbases_law (H : Heap) (a : Option Addr) (len cap : Nat) (z : List (List Value)) (l : z.length = len) (m : len ≤ maxLen) (s : SRow H 4 len (.slice a len cap) z.flatten) (w : ∀ r ∈ z, CellsAre [.i .i64, .i .i64, .i .i64, .b] r)
    (x1 : Int) (_ : (Lit.int .i64 x1).wf = true) (x2 : Int) (_ : (Lit.int .i64 x2).wf = true) :
    Does Try.prog 7 [.slice a len cap, .int .i64 x1, .int .i64 x2] H fun v H' => v = .bool true ∧ Ext [] H H' := by
  obtain ⟨R, rfl⟩ := raw_rows w
  have hRl : R.length = len := by simpa using l
  subst hRl
  have hR : LRow H a R := SRow.cap s
  refine Fn_of_vc Try.mixed (vc_gbases _ _ _ _ _ _ _) ?_
  refine (list_ok 0 (by unfold maxLen at m; omega) hR).mono ?_
  rintro _ H2 ⟨L, a3, c5, rfl, hL16, ho2, hx2, hf2⟩
  refine ⟨_, _, _, rfl, (known13_ok H2).mono ?_⟩
  rintro _ H7 ⟨rfl, hx7⟩
  have ho7 := ho2.ext hx7 (by simp)
  obtain ⟨hr7, _⟩ := own_lrow ho7
  have hcap := ho7.2.1
  refine ⟨_, rfl, fun e => (by cases e), fun _ => (right_ok (by omega) hcap hr7).mono ?_⟩
  rintro _ H13 ⟨rfl, hx13⟩
  have hX13 := (hx2.trans hx7).trans hx13
  refine ⟨_, rfl, fun e => (known13_ok H13).mono ?_, fun e => ?_⟩
  · rintro _ H16 ⟨rfl, hx16⟩
    refine ⟨_, rfl, fun _ => ⟨yes ?_, hX13.trans hx16⟩, fun e => (by cases e)⟩
    cases L with
    | nil => exact absurd e (by decide)
    | cons x r => simp only [List.length_cons]; omega
  have hr : rightB L = true := by simpa using e
  obtain ⟨hasc, hfit, hl40⟩ := right_iff.1 hr
  refine ⟨fun _ => ⟨rfl, hX13⟩, fun hne => ?_⟩
  have hpos : (0 : Int) < L.length := by omega
  have hr13 := hr7.ext hx13 (by simp)
  refine (pick_ok x1 L.length H13 hpos (by omega)).mono ?_
  rintro _ _ ⟨rfl, rfl⟩
  have i0 := Int.emod_nonneg x1 (show (L.length : Int) ≠ 0 by omega)
  have i1 := Int.emod_lt_of_pos x1 hpos
  generalize x1 % (L.length : Int) = i at *
  have hLi : L[i.toNat]? = some L[i.toNat] := List.getElem?_eq_getElem (by omega)
  obtain ⟨b21, o22, ha3, g0, _⟩ := hr13.at hLi
  refine ⟨_, rfl, i0, i1, b21, o22, ha3, _, g0, (pick_ok x2 L.length H13 hpos (by omega)).mono ?_⟩
  rintro _ _ ⟨rfl, rfl⟩
  have j0 := Int.emod_nonneg x2 (show (L.length : Int) ≠ 0 by omega)
  have j1 := Int.emod_lt_of_pos x2 hpos
  generalize x2 % (L.length : Int) = j at *
  have hLj : L[j.toNat]? = some L[j.toNat] := List.getElem?_eq_getElem (by omega)
  obtain ⟨b27, o28, ha3', g1, _⟩ := hr13.at hLj
  have fa : (find L L[i.toNat].id).isSome = true := by rw [(find_iff hasc).2 ⟨List.getElem_mem _, rfl⟩]; rfl
  have fb : (find L L[j.toNat].id).isSome = true := by rw [(find_iff hasc).2 ⟨List.getElem_mem _, rfl⟩]; rfl
  refine ⟨_, rfl, j0, j1, b27, o28, ha3', _, g1, ?_⟩
  generalize L[i.toNat].id = x at *
  generalize L[j.toNat].id = y at *
  have pa := anc_asc L x
  have qa := anc_asc L y
  have hax := anc_self fa
  have hbs := base_sym pa qa
  have hcm := fun z => base_in (z := z) (p := anc L x) (q := anc L y) pa
  have hcn := base_none (p := anc L x) (q := anc L y)
  have hself : baseOf (anc L x) (anc L x) = x := by
    unfold baseOf
    rw [List.filter_eq_self.2 (fun k hk => by simpa using hk)]
    exact last_max pa hax (fun k hk => (anc_le hr hk).1)
  refine (base_ok x y (by omega) hr13).mono ?_
  rintro _ H31 ⟨rfl, hx31⟩
  have hr31 := hr13.ext hx31 (by simp)
  generalize hcd : baseOf (anc L x) (anc L y) = cc at *
  refine ⟨_, rfl, (ancestors_ok x (by omega) hr31).mono ?_⟩
  rintro _ H34 ⟨a35, c37, rfl, hp34, hpl, hx34, _⟩
  have hr34 := hr31.ext hx34 (by simp)
  refine ⟨_, _, _, rfl, (ancestors_ok y (by omega) hr34).mono ?_⟩
  rintro _ H39 ⟨a40, c42, rfl, hq39, hql, hx39, _⟩
  have hr39 := hr34.ext hx39 (by simp)
  have hp39 := hp34.ext hx39 (by simp)
  have hX39 := ((hX13.trans hx31).trans hx34).trans hx39
  refine ⟨_, _, _, rfl, (base_ok y x (by omega) hr39).mono ?_⟩
  rintro _ H44 ⟨rfl, hx44⟩
  have hr44 := hr39.ext hx44 (by simp)
  refine ⟨_, rfl, fun e => absurd hbs.symm e, fun _ => (base_ok x x (by omega) hr44).mono ?_⟩
  rintro _ H47 ⟨rfl, hx47⟩
  have hx3947 := hx44.trans hx47
  have hr47 := hr44.ext hx47 (by simp)
  have hp47 := (Own.irow (hp39.ext hx3947 (by simp))).1
  have hq47 := (Own.irow (hq39.ext hx3947 (by simp))).1
  have hX47 := hX39.trans hx3947
  refine ⟨_, rfl, fun e => absurd hself e, fun _ => (in_ok x (by omega) hp47).mono ?_⟩
  rintro _ _ ⟨rfl, rfl⟩
  refine ⟨_, rfl, fun e => absurd e (by simp [hax]), fun _ => ?_⟩
  generalize hpd : anc L x = p at *
  generalize hqd : anc L y = q at *
  refine ⟨fun H' => Ext [] H47 H', ⟨fun i H' => Ext [] H47 H' ∧ ∃ j : Nat, i = j ∧ j ≤ p.length, fun i _ => p.length - i.toNat, ⟨Ext.refl _ _, 0, rfl, by omega⟩, ?_⟩, ?_⟩
  · rintro _ H56 ⟨hx56, j, rfl, hjp⟩
    refine ⟨fun hlt => ?_, fun _ => hx56⟩
    have hpj : p[j]? = some p[j] := List.getElem?_eq_getElem (by omega)
    obtain ⟨b57, o58, ha35, hc⟩ := (hp47.ext hx56 (by simp)).at hpj
    have hzp : p[j] ∈ p := List.getElem_mem _
    generalize p[j] = z at *
    have next : ∀ {H' : Heap}, Ext [] H47 H' → In64 ((j : Int) + 1) ∧ (Ext [] H47 H' ∧ ∃ j' : Nat, (j : Int) + 1 = j' ∧ j' ≤ p.length) ∧ p.length - ((j : Int) + 1).toNat < p.length - (j : Int).toNat :=
      fun he => ⟨⟨by omega, by omega⟩, ⟨he, j + 1, by omega, by omega⟩, by omega⟩
    refine ⟨by omega, hlt, b57, o58, ha35, _, by rw [Int.toNat_natCast]; exact hc, (in_ok z (by omega) (hq47.ext hx56 (by simp))).mono ?_⟩
    rintro _ _ ⟨rfl, rfl⟩
    refine ⟨_, rfl, fun hzq => ?_, fun _ => next hx56⟩
    have hzq' : z ∈ q := by simpa using hzq
    obtain ⟨c1, c2, c3⟩ := hcm z hzp hzq'
    have c4 : 1 ≤ cc := by rw [← hpd] at c1; exact (anc_le hr c1).2
    refine ⟨fun e => absurd e (by omega), fun _ => ⟨by omega, hlt, b57, o58, ha35, _, by rw [Int.toNat_natCast]; exact hc, fun hzc => ⟨by omega, hlt, b57, o58, ha35, _, by rw [Int.toNat_natCast]; exact hc, ?_⟩, fun _ => next hx56⟩⟩
    refine (ancestors_ok z (by omega) (hr47.ext hx56 (by simp))).mono ?_
    rintro _ H70 ⟨a71, c73, rfl, hz70, hzl, hx70, _⟩
    refine ⟨_, _, _, rfl, (in_ok cc (by omega) (Own.irow hz70).1).mono ?_⟩
    rintro _ _ ⟨rfl, rfl⟩
    refine ⟨_, rfl, fun e => ?_, fun _ => next (hx56.trans hx70)⟩
    exfalso
    have : cc ∈ anc L z := by simpa using e
    have := (anc_le hr this).1
    omega
  intro H77 hx77 b78 H79 hn
  have hx79 := hx77.trans hn.ext
  have hir : IRow H79 (some ⟨b78, 0, none⟩) [x, y] := ⟨rfl, .inr rfl, fun k u hk => by
    show hcell H79 b78 (0 + k) = some u
    rw [Nat.zero_add, hn.blk.cell]; exact hk⟩
  refine (keep_ok (ids := [x, y]) (by omega) (hr47.ext hx79 (by simp)) (by simp) hir).mono ?_
  rintro _ H81 ⟨a82, c84, rfl, hk81, hx81, _⟩
  have hS := kept_closed L [x, y]
  have hSm : ∀ k, k ∈ keptOf L [x, y] ↔ k ∈ p ∨ k ∈ q := fun k => by
    rw [kept_mem, ← hpd, ← hqd]; simp
  have hrk := keepL_right hr hS
  generalize hKd : keepL L (keptOf L [x, y]) = K at *
  have hKl : K.length ≤ 16 := by
    have : K.length ≤ L.length := by rw [← hKd]; exact List.length_filter_le _ _
    omega
  have hx4781 := hx79.trans hx81
  obtain ⟨hkr, _⟩ := own_lrow hk81
  have hkcap := hk81.2.1
  refine ⟨_, _, _, rfl, fun i H' => Ext [] H81 H' ∧ ∃ j : Nat, i = j ∧ j ≤ K.length, fun i _ => K.length - i.toNat, ⟨Ext.refl _ _, 0, rfl, by omega⟩, ?_⟩
  rintro _ H88 ⟨hx88, j, rfl, hjK⟩
  have hp88 := hp47.ext (hx4781.trans hx88) (by simp)
  have hq88 := hq47.ext (hx4781.trans hx88) (by simp)
  have hX88 := (hX47.trans hx4781).trans hx88
  have hk88 := hkr.ext hx88 (by simp)
  refine ⟨fun hlt => ?_, fun _ => ?_⟩
  · have hKj : K[j]? = some K[j] := List.getElem?_eq_getElem (by omega)
    obtain ⟨b89, o90, ha82, k0, _⟩ := hk88.at hKj
    have hin : K[j].id ∈ p ∨ K[j].id ∈ q := by
      rw [← hSm]
      have : K[j] ∈ keepL L (keptOf L [x, y]) := by rw [hKd]; exact List.getElem_mem _
      exact (keepL_mem.1 this).2
    generalize K[j].id = kid at *
    refine ⟨by omega, hlt, b89, o90, ha82, _, by rw [Int.toNat_natCast]; exact k0, (in_ok kid (by omega) hp88).mono ?_⟩
    rintro _ _ ⟨rfl, rfl⟩
    refine ⟨_, rfl, fun e1 => ⟨by omega, hlt, b89, o90, ha82, _, by rw [Int.toNat_natCast]; exact k0, (in_ok kid (by omega) hq88).mono ?_⟩, fun _ => ⟨⟨by omega, by omega⟩, ⟨hx88, j + 1, by omega, by omega⟩, by simp only []; omega⟩⟩
    rintro _ _ ⟨rfl, rfl⟩
    refine ⟨_, rfl, fun e2 => ?_, fun _ => ⟨⟨by omega, by omega⟩, ⟨hx88, j + 1, by omega, by omega⟩, by simp only []; omega⟩⟩
    exfalso
    simp only [decide_eq_false_iff_not] at e1 e2
    rcases hin with h' | h'
    · exact e1 h'
    · exact e2 h'
  have hlen : p.length ≤ K.length := by
    rw [← hKd]
    refine keepL_len pa (fun k hk => ?_) (fun k hk => (hSm k).2 (.inl hk))
    rw [← hpd] at hk
    exact (anc_iff.1 hk).some
  have last : ∀ H', Ext [] H H' → LRow H' a82 K → Does Try.prog 28 [(.slice a82 K.length c84)] H' fun v110 H111 => ∃ t112 : Bool, v110 = (.bool t112) ∧
      ((t112 = true → (Value.bool (@decide (((p.length : Int) : Int) ≤ (K.length : Int)) (Classical.propDecidable _)) = .bool true ∧ Ext [] H H111)) ∧ (t112 = false → (Value.bool false = .bool true ∧ Ext [] H H111))) := by
    intro H' he hk
    refine (right_ok (by omega) hkcap hk).mono ?_
    rintro _ H111 ⟨rfl, hx111⟩
    exact ⟨_, rfl, fun _ => ⟨yes (by omega), he.trans hx111⟩, fun e => absurd e (by rw [hrk]; simp)⟩
  refine ⟨fun _ => last H88 hX88 hk88, fun hc0 => ?_⟩
  obtain ⟨d1, d2⟩ := hcn hc0
  refine (in_ok cc (by omega) hp88).mono ?_
  rintro _ _ ⟨rfl, rfl⟩
  refine ⟨_, rfl, fun _ => (in_ok cc (by omega) hq88).mono ?_, fun e => absurd e (by simp [d1])⟩
  rintro _ _ ⟨rfl, rfl⟩
  exact ⟨_, rfl, fun _ => last H88 hX88 hk88, fun e => absurd e (by simp [d2])⟩
end Go.Proofs
end

section
open Go Go.Vc
namespace Go.Proofs

theorem chain_head {L : List Ly} : ∀ (n : Nat) (id : Int), cnt L id ≤ n → (chainR L n id)[0]? = (find L id).map Ly.id
  | 0, id, h => by simp [chainR, cnt_zero (L := L) (id := id) (by omega)]
  | n + 1, id, h => by
    simp only [chainR]
    cases find L id <;> rfl

theorem chain_runs {L : List Ly} (hd : Down L) : ∀ (n : Nat) (id : Int), cnt L id ≤ n → ∀ (j : Nat) (k : Int), (chainR L n id)[j]? = some k → ∃ x, find L k = some x ∧ Up L id k ∧ (chainR L n id)[j + 1]? = (find L x.par).map Ly.id
  | 0, id, h, j, k, hj => by simp [chainR] at hj
  | n + 1, id, h, j, k, hj => by
    cases hf : find L id with
    | none => simp only [chainR, hf] at hj; simp at hj
    | some x =>
      have e : chainR L (n + 1) id = x.id :: chainR L n x.par := by simp only [chainR, hf]
      rw [e] at hj ⊢
      have hx := find_some hf
      have h1 := cnt_lt hx.2 (hd x hx.2)
      rw [hx.1] at h1
      cases j with
      | zero =>
        simp only [List.getElem?_cons_zero, Option.some.injEq] at hj
        subst hj
        refine ⟨x, by rw [hx.1]; exact hf, by rw [hx.1]; exact .refl (by rw [hf]; rfl), ?_⟩
        simpa using chain_head n x.par (by omega)
      | succ j =>
        obtain ⟨y, hy, hu, he⟩ := chain_runs hd n x.par (by omega) j k (by simpa using hj)
        exact ⟨y, hy, .step hf (.inl rfl) hu, by simpa using he⟩

/-- **What a chain is.** -/
theorem chain_say {L : List Ly} (hr : rightB L = true) {a : Int} (ha : (find L a).isSome = true) :
    0 < (chain L a).length ∧ (chain L a).length ≤ 12 ∧ (chain L a)[(chain L a).length - 1]? = some a ∧ ∀ (j : Nat) (k : Int), (chain L a)[j]? = some k → ∃ x, find L k = some x ∧ k ∈ anc L a ∧ (j = 0 → x.par = 0) ∧ ∀ i, j = i + 1 → (chain L a)[i]? = some x.par := by
  have hd := r_down hr
  have hc : cnt L a ≤ L.length + 1 := by have := cnt_le L a; omega
  have h0 := chain_head (L.length + 1) a hc
  have hs := chain_runs hd (L.length + 1) a hc
  obtain ⟨y, hy⟩ := Option.isSome_iff_exists.1 ha
  have hl := (r_find hr hy).1.len
  rw [(r_find hr hy).2] at hl
  rw [hy, Option.map_some, (find_some hy).1] at h0
  unfold chain
  generalize chainR L (L.length + 1) a = r at *
  have hpos : 0 < r.length := (List.getElem?_eq_some_iff.1 h0).1
  rw [List.length_reverse]
  refine ⟨hpos, hl, ?_, fun j k hj => ?_⟩
  · rw [List.getElem?_reverse (by omega), show r.length - 1 - (r.length - 1) = 0 by omega]; exact h0
  · have hjl : j < r.length := by have := (List.getElem?_eq_some_iff.1 hj).1; rwa [List.length_reverse] at this
    rw [List.getElem?_reverse hjl] at hj
    obtain ⟨x, hx, hu, he⟩ := hs _ _ hj
    refine ⟨x, hx, anc_iff.2 hu, fun e => ?_, fun i e => ?_⟩
    · subst e
      rw [List.getElem?_eq_none (by omega)] at he
      have hp : find L x.par = none := by cases hp : find L x.par <;> simp_all
      rcases (r_find hr hx).1.par with h | ⟨z, hz, e, _⟩
      · exact h
      · exact absurd e (find_none.1 hp z hz)
    · subst e
      rw [List.getElem?_reverse (by omega), show r.length - 1 - i = r.length - 1 - (i + 1) + 1 by omega, he]
      have hlt : r.length - 1 - (i + 1) + 1 < r.length := by omega
      rw [List.getElem?_eq_getElem hlt] at he
      cases hp : find L x.par with
      | none => rw [hp] at he; cases he
      | some z => rw [Option.map_some, (find_some hp).1]

theorem keepL_chainE {L : List Ly} (hr : rightB L = true) {S : List Int} (hS : Closed L S) {a : Int} (ha : a ∈ S) : chain (keepL L S) a = chain L a := by
  unfold chain; rw [keepL_chain' hr hS ha]

set_option maxHeartbeats 1000000 in
theorem gchains_law (H : Heap) (a : Option Addr) (len cap : Nat) (z : List (List Value)) (l : z.length = len) (m : len ≤ maxLen) (s : SRow H 4 len (.slice a len cap) z.flatten) (w : ∀ r ∈ z, CellsAre [.i .i64, .i .i64, .i .i64, .b] r)
    (a1 : Option Addr) (len1 cap1 : Nat) (z1 : List Int) (l1 : z1.length = len1) (m1 : len1 ≤ maxLen) (s1 : SRow H 1 len1 (.slice a1 len1 cap1) (z1.map fun n => .int .i64 n)) (_ : ∀ n ∈ z1, (Lit.int .i64 n).wf = true) :
    Does Try.prog 8 [.slice a len cap, .slice a1 len1 cap1] H fun v H' => v = .bool true ∧ Ext [] H H' := by
  obtain ⟨R, rfl⟩ := raw_rows w
  have hRl : R.length = len := by simpa using l
  subst hRl
  subst l1
  have hR : LRow H a R := SRow.cap s
  have hZ : IRow H a1 z1 := SRow.cap s1
  refine Fn_of_vc Try.mixed (vc_gchains _ _ _ _ _ _ _ _) ?_
  refine (list_ok 0 (by unfold maxLen at m; omega) hR).mono ?_
  rintro _ H2 ⟨L, a3, c5, rfl, hL16, ho2, hx2, hf2⟩
  refine ⟨_, _, _, rfl, (known13_ok H2).mono ?_⟩
  rintro _ H7 ⟨rfl, hx7⟩
  have ho7 := ho2.ext hx7 (by simp)
  obtain ⟨hr7, _⟩ := own_lrow ho7
  have hcap := ho7.2.1
  refine ⟨_, rfl, fun e => (by cases e), fun _ => ⟨fun e0 => (known13_ok H7).mono ?_, fun hne => ?_⟩⟩
  · rintro _ H13 ⟨rfl, hx13⟩
    exact ⟨_, rfl, rfl, (hx2.trans hx7).trans hx13⟩
  refine (right_ok (by omega) hcap hr7).mono ?_
  rintro _ H16 ⟨rfl, hx16⟩
  have hX16 := (hx2.trans hx7).trans hx16
  refine ⟨_, rfl, fun e => (known13_ok H16).mono ?_, fun e => ?_⟩
  · rintro _ H19 ⟨rfl, hx19⟩
    exact ⟨_, rfl, rfl, hX16.trans hx19⟩
  have hr : rightB L = true := by simpa using e
  obtain ⟨hasc, hfit, hl40⟩ := right_iff.1 hr
  have hpos : (0 : Int) < L.length := by omega
  have hr16 := hr7.ext hx16 (by simp)
  refine ⟨fun a45 l46 c47 H48 => Ext [] H16 H48 ∧ ∃ ids : List Int, ids.length = l46 ∧ l46 ≤ 3 ∧ Own H48 1 a45 l46 c47 (ints ids) ∧ ∀ k ∈ ids, (find L k).isSome = true, ?_, ?_⟩
  · refine ⟨fun a24 l25 c26 n H28 => Ext [] H16 H28 ∧ ∃ (j : Nat) (ids : List Int), n = j ∧ j ≤ 3 ∧ ids.length = j ∧ l25 = j ∧ Own H28 1 a24 l25 c26 (ints ids) ∧ (∀ k ∈ blkOf a24, H16.size ≤ k) ∧ ∀ k ∈ ids, (find L k).isSome = true, fun _ _ _ n _ => 3 - n.toNat, ⟨Ext.refl _ _, 0, [], rfl, by omega, rfl, rfl, Own.nil _ _, by simp [blkOf], by simp⟩, ?_⟩
    rintro a24 l25 c26 _ H28 ⟨hx28, j, ids, rfl, hj3, hil, e25, ho28, hfr28, hall⟩
    have e25 := e25.symm
    subst e25
    have out : Ext [] H16 H28 ∧ ∃ ids : List Int, ids.length = j ∧ j ≤ 3 ∧ Own H28 1 a24 j c26 (ints ids) ∧ ∀ k ∈ ids, (find L k).isSome = true := ⟨hx28, ids, hil, hj3, ho28, hall⟩
    refine ⟨fun hlt => ⟨fun hlt3 => ?_, fun _ => out⟩, fun _ => out⟩
    have hzj : z1[j]? = some z1[j] := List.getElem?_eq_getElem (by omega)
    obtain ⟨b29, o30, rfl, hc⟩ := (hZ.ext (hX16.trans hx28) (by simp)).at hzj
    refine ⟨by omega, hlt, b29, o30, rfl, _, by rw [Int.toNat_natCast]; exact hc, (pick_ok _ L.length H28 hpos (by omega)).mono ?_⟩
    rintro _ _ ⟨rfl, rfl⟩
    have i0 := Int.emod_nonneg z1[j] (show (L.length : Int) ≠ 0 by omega)
    have i1 := Int.emod_lt_of_pos z1[j] hpos
    generalize z1[j] % (L.length : Int) = i at *
    have hLi : L[i.toNat]? = some L[i.toNat] := List.getElem?_eq_getElem (by omega)
    obtain ⟨b35, o36, ha3, g0, _⟩ := (hr16.ext hx28 (by simp)).at hLi
    have hfi : (find L L[i.toNat].id).isSome = true := by rw [(find_iff hasc).2 ⟨List.getElem_mem _, rfl⟩]; rfl
    refine ⟨_, rfl, i0, i1, b35, o36, ha3, _, g0, fun b38 H39 hn39 => ?_⟩
    have ho39 := ho28.ext hn39.ext (by simp)
    refine ⟨ints ids, ints [L[i.toNat].id], ho39.row _ _, ⟨rfl, .inr rfl, fun k u hk => ?_⟩, ints_one _, by omega, fun hle => by simpa using ho39.room (n := 1) hle, ?_⟩
    · show hcell H39 b38 (0 + k) = some u
      rw [Nat.zero_add, hn39.blk.cell k]
      exact hk
    intro a42 c43 H44 happ
    obtain ⟨ho44, hx44, hfr44⟩ := happ.own ho39 (ho39.row _ _) (by rw [ints_length]; rfl) rfl
    refine ⟨⟨by omega, by omega⟩, ⟨(hx28.trans hn39.ext).trans' hx44 (fun k hk => .inl (hfr28 k hk)), j + 1, ids ++ [L[i.toNat].id], by omega, by omega, by simp [hil], rfl, ?_, ?_, ?_⟩, by simp only []; omega⟩
    · have : ints (ids ++ [L[i.toNat].id]) = ints ids ++ ints [L[i.toNat].id] := by simp [ints]
      rw [this]; exact ho44
    · intro k hk
      rcases hfr44 k hk with h' | h'
      · exact hfr28 k h'
      · have := hx28.size; have := hn39.ext.size; omega
    · intro k hk
      rcases List.mem_append.1 hk with h' | h'
      · exact hall k h'
      · simp only [List.mem_singleton] at h'; subst h'; exact hfi
  rintro a45 _ c47 H48 ⟨hx48, ids, rfl, hl3, ho48, hall⟩
  have hi48 := (Own.irow ho48).1
  have hr48 := hr16.ext hx48 (by simp)
  have hX48 := hX16.trans hx48
  refine (keep_ok (ids := ids) (by omega) hr48 (by omega) hi48).mono ?_
  rintro _ H50 ⟨a51, c53, rfl, hk50, hx50, _⟩
  have hS := kept_closed L ids
  have hin : ∀ k ∈ ids, k ∈ keptOf L ids := fun k hk => kept_mem.2 ⟨k, hk, anc_self (hall k hk)⟩
  have hrk := keepL_right hr hS
  have hch : ∀ k ∈ ids, chain (keepL L (keptOf L ids)) k = chain L k := fun k hk => keepL_chainE hr hS (hin k hk)
  have han : ∀ k ∈ ids, anc (keepL L (keptOf L ids)) k = anc L k := fun k hk => keepL_anc hr hS (hin k hk)
  have hKl : (keepL L (keptOf L ids)).length ≤ 16 := by
    have : (keepL L (keptOf L ids)).length ≤ L.length := List.length_filter_le _ _
    omega
  generalize keepL L (keptOf L ids) = K at *
  obtain ⟨hkr, _⟩ := own_lrow hk50
  have hkcap := hk50.2.1
  refine ⟨_, _, _, rfl, (right_ok (by omega) hkcap hkr).mono ?_⟩
  rintro _ H55 ⟨rfl, hx55⟩
  have hx4855 := hx50.trans hx55
  have hk55 := hkr.ext hx55 (by simp)
  have hr55 := hr48.ext hx4855 (by simp)
  have hi55 := hi48.ext hx4855 (by simp)
  have hX55 := hX48.trans hx4855
  refine ⟨_, rfl, fun e => absurd e (by rw [hrk]; simp), fun _ => ?_⟩
  refine ⟨fun n H' => Ext [] H55 H' ∧ ∃ j : Nat, n = j ∧ j ≤ ids.length, fun n _ => ids.length - n.toNat, ⟨Ext.refl _ _, 0, rfl, by omega⟩, ?_⟩
  rintro _ H60 ⟨hx60, j, rfl, hjl⟩
  refine ⟨fun hlt => ?_, fun _ => ⟨rfl, hX55.trans hx60⟩⟩
  have hij : ids[j]? = some ids[j] := List.getElem?_eq_getElem (by omega)
  have hmem : ids[j] ∈ ids := List.getElem_mem _
  generalize ids[j] = q at *
  have hfq := hall q hmem
  obtain ⟨c1, c2, c3, c4⟩ := chain_say hr hfq
  have rd : ∀ {H' : Heap}, Ext [] H55 H' → (0 : Int) ≤ (j : Int) ∧ (j : Int) < (ids.length : Int) ∧ ∃ b o : Nat, a45 = some (⟨b, o, none⟩ : Addr) ∧ hcell H' b (o + (Int.toNat (j : Int))) = some (.int .i64 q) := fun he => by
    obtain ⟨b, o, e, hc⟩ := (hi55.ext he (by simp)).at hij
    exact ⟨by omega, hlt, b, o, e, by rw [Int.toNat_natCast]; exact hc⟩
  have rd' : ∀ {H' : Heap} {P : Int → Prop}, Ext [] H55 H' → P q → (0 : Int) ≤ (j : Int) ∧ (j : Int) < (ids.length : Int) ∧ ∃ b o : Nat, a45 = some (⟨b, o, none⟩ : Addr) ∧ ∃ n : Int, hcell H' b (o + (Int.toNat (j : Int))) = some (.int .i64 n) ∧ P n := fun he hp => by
    obtain ⟨h1, h2, b, o, e, hc⟩ := rd he
    exact ⟨h1, h2, b, o, e, q, hc, hp⟩
  refine rd' hx60 ((chain_ok q (by omega) (hr55.ext hx60 (by simp))).mono ?_)
  rintro _ H65 ⟨a66, c68, rfl, ho65, hx65, _⟩
  have hy65 := hx60.trans hx65
  refine ⟨_, _, _, rfl, rd' hy65 ((chain_ok q (by omega) (hk55.ext hy65 (by simp))).mono ?_)⟩
  rintro _ H73 ⟨a74, c76, rfl, ho73, hx73, _⟩
  rw [hch q hmem] at ho73 ⊢
  have hy73 := hy65.trans hx73
  refine ⟨_, _, _, rfl, rd' hy73 ((ancestors_ok q (by omega) (hr55.ext hy73 (by simp))).mono ?_)⟩
  rintro _ H81 ⟨a82, c84, rfl, ho81, hl81, hx81, _⟩
  have hy81 := hy73.trans hx81
  refine ⟨_, _, _, rfl, rd' hy81 ((ancestors_ok q (by omega) (hk55.ext hy81 (by simp))).mono ?_)⟩
  rintro _ H89 ⟨a90, c92, rfl, ho89, hl89, hx89, _⟩
  rw [han q hmem] at ho89 ⊢
  have hy89 := hy81.trans hx89
  have hC89 := (((Own.irow ho65).1.ext hx73 (by simp)).ext hx81 (by simp)).ext hx89 (by simp)
  have hD89 := ((Own.irow ho73).1.ext hx81 (by simp)).ext hx89 (by simp)
  have hA89 := (Own.irow ho81).1.ext hx89 (by simp)
  have hr89 := hr55.ext hy89 (by simp)
  refine ⟨_, _, _, rfl, fun e => absurd e (by omega), fun _ => ⟨fun e => absurd rfl e, fun _ => ⟨fun e => absurd rfl e, fun _ => ?_⟩⟩⟩
  generalize chain L q = C at *
  generalize anc L q = A at *
  obtain ⟨b93, o94, ea66, hlast⟩ := hC89.at c3
  refine ⟨⟨by omega, by omega⟩, by omega, by omega, b93, o94, ea66, q, by rw [show ((C.length : Int) - 1).toNat = C.length - 1 by omega]; exact hlast, rd' hy89 ⟨fun e => absurd rfl e, fun _ => ?_⟩⟩
  refine ⟨fun n H' => Ext [] H89 H' ∧ ∃ i : Nat, n = i ∧ i ≤ C.length, fun n _ => C.length - n.toNat, ⟨Ext.refl _ _, 0, rfl, by omega⟩, ?_⟩
  rintro _ H102 ⟨hx102, i, rfl, hiC⟩
  refine ⟨fun hlti => ?_, fun _ => ⟨⟨by omega, by omega⟩, ⟨hy89.trans hx102, j + 1, by omega, by omega⟩, by simp only []; omega⟩⟩
  have hCi : C[i]? = some C[i] := List.getElem?_eq_getElem (by omega)
  obtain ⟨x, hx, hxA, hx0, hxp⟩ := c4 i _ hCi
  have hgx : getL L C[i] = x := by simp [getL, hx]
  generalize C[i] = k at *
  have rc : ∀ {H' : Heap} {P : Int → Prop}, Ext [] H89 H' → P k → (0 : Int) ≤ (i : Int) ∧ (i : Int) < (C.length : Int) ∧ ∃ b o : Nat, a66 = some (⟨b, o, none⟩ : Addr) ∧ ∃ n : Int, hcell H' b (o + (Int.toNat (i : Int))) = some (.int .i64 n) ∧ P n := fun he hp => by
    obtain ⟨b, o, e, hc⟩ := (hC89.ext he (by simp)).at hCi
    exact ⟨by omega, hlti, b, o, e, k, by rw [Int.toNat_natCast]; exact hc, hp⟩
  have rdd : ∀ {H' : Heap} {P : Int → Prop}, Ext [] H89 H' → P k → (0 : Int) ≤ (i : Int) ∧ (i : Int) < (C.length : Int) ∧ ∃ b o : Nat, a74 = some (⟨b, o, none⟩ : Addr) ∧ ∃ n : Int, hcell H' b (o + (Int.toNat (i : Int))) = some (.int .i64 n) ∧ P n := fun he hp => by
    obtain ⟨b, o, e, hc⟩ := (hD89.ext he (by simp)).at hCi
    exact ⟨by omega, hlti, b, o, e, k, by rw [Int.toNat_natCast]; exact hc, hp⟩
  refine rc hx102 ((find_ok k (by omega) (hr89.ext hx102 (by simp))).mono ?_)
  rintro _ H107 ⟨rfl, hx107⟩
  rw [hgx]
  refine ⟨_, _, _, _, _, rfl, fun b113 H114 hn114 => ⟨hn114.blk.cells _ _ (by simp), fun H115 hp115 => ?_⟩⟩
  have hb115 := hp115.blk hn114.blk (by simp)
  have hx115 : Ext [] H89 H115 := ((hx102.trans hx107).trans hn114.ext).trans' hp115.ext (by
    intro i hi; simp only [List.mem_singleton] at hi; have := hn114.eq; have := (hx102.trans hx107).size; omega)
  refine ⟨fun e => absurd e (by rw [hx]; simp), fun _ => rc hx115 (rdd hx115 ⟨fun e => absurd rfl e, fun _ => rc hx115 ((in_ok k (by omega) (hA89.ext hx115 (by simp))).mono ?_)⟩)⟩
  rintro _ _ ⟨rfl, rfl⟩
  have next : In64 ((i : Int) + 1) ∧ (Ext [] H89 H115 ∧ ∃ i' : Nat, (i : Int) + 1 = i' ∧ i' ≤ C.length) ∧ C.length - ((i : Int) + 1).toNat < C.length - (i : Int).toNat := ⟨⟨by omega, by omega⟩, ⟨hx115, i + 1, by omega, by omega⟩, by omega⟩
  have hpar : hcell H115 b113 (0 + 1) = some (.int .i64 x.par) := by rw [hb115.cell]; rfl
  refine ⟨_, rfl, fun e => absurd e (by simp [hxA]), fun _ => ⟨fun e0 => ⟨_, hpar, fun e => absurd (hx0 (by omega)) e, fun _ => ⟨fun e => absurd e (by omega), fun _ => next⟩⟩, fun e0 => ⟨fun _ => ?_, fun _ => next⟩⟩⟩
  obtain ⟨i', rfl⟩ : ∃ i', i = i' + 1 := ⟨i - 1, by omega⟩
  obtain ⟨b134, o135, e134, hc134⟩ := (hC89.ext hx115 (by simp)).at (hxp i' rfl)
  exact ⟨_, hpar, ⟨by omega, by omega⟩, by omega, by omega, b134, o135, e134, _, by rw [show (((i' + 1 : Nat) : Int) - 1).toNat = i' by omega]; exact hc134, fun e => absurd rfl e, fun _ => next⟩
end Go.Proofs
end

namespace Go.Proofs.Ytppjhnepmolboaa.graphChains
open Go.ChangeShapes Go.WideShapes Go.ChangeAt Go.RowKit
open Go.ChangeMaps (open_string shut_string)
set_option linter.unusedVariables false

theorem own : ownKnob Try.prog.godebug = none := by kernel_rfl
theorem laidOut : laidOutB Try.prog = true := by kernel_rfl

set_option maxRecDepth 100000 in
theorem lifted (os : Os) (started : os.Started) (H : Type) (enc : TypeId × Value → H) :
    ReturnsInHanded {} Try.checked os 8 .any (Rows.graphChainsSpec.pre6 enc Try.prog Try.f8 Rows.graphChainsRow.domain false) (Rows.graphChainsSpec.post enc Try.prog Try.f8 false true false false) := by
  refine returnsInHanded_of_change (C := Try.checked) own started (by kernel_rfl) Try.func8
    (ChangeSpec.witness6 (enc := enc) (C := Try.checked) false ⟨#[], #[.slice none 0 0, .slice none 0 0], []⟩ 8 (by kernel_rfl) (by kernel_rfl) (by kernel_rfl) (by kernel_rfl)) ?_
  intro W base args ds gs before hval0 hW hcnd _
  have hval : ∀ (j : Nat) t v, Try.f8.params[j]? = some t → args[j]? = some v → Value.okWide Try.prog W .any base t v := hval0
  have hW' := hW
  obtain ⟨p, q, hA0, hV, rfl, hfz, hnd⟩ := hW
  have hA : DataW.TrodAll enc Try.prog W 0 (fun _ => true) true Try.f8.params.toList args.toList ds p := hA0
  rw [Try.params8] at hA hval
  obtain ⟨v0, vs0, d0, ds0, p0, q0, hargs, rfl, rfl, h0, r0⟩ := trodAll_cons hA
  obtain ⟨v1, vs1, d1, ds1, p1, q1, rfl, rfl, rfl, h1, r1⟩ := trodAll_cons r0
  obtain ⟨rfl, rfl, rfl⟩ := trodAll_nil r1
  obtain rfl : args = #[v0, v1] := by cases args; simp_all
  obtain ⟨rfl, rfl⟩ := trodVars_none hV
  obtain ⟨a0, len0, cap0, rfl⟩ := okWide_slice Try.underlying41 (hval 0 41 v0 rfl rfl)
  have k0 := h0
  have lt0 : ∀ x ∈ p0, x.block < W.heap.size := by obtain ⟨m, hm⟩ := k0; exact DataW.trod_lt m _ _ _ hm
  have sp0 := Go.Vc.okWide_spot Try.underlying41 (hval 0 41 _ rfl rfl)
  obtain ⟨z0, l0, m0, s0, w0⟩ := Go.Vc.arg_rows Try.underlying41 (n := 4) (e := 74) (ks := [.i .i64, .i .i64, .i .i64, .b]) (c := 4) (by kernel_rfl) (by kernel_rfl) sp0 h0
  obtain ⟨a1, len1, cap1, rfl⟩ := okWide_slice Try.underlying22 (hval 1 22 v1 rfl rfl)
  have k1 := h1
  have lt1 : ∀ x ∈ p1, x.block < W.heap.size := by obtain ⟨m, hm⟩ := k1; exact DataW.trod_lt m _ _ _ hm
  have sp1 := Go.Vc.okWide_spot Try.underlying22 (hval 1 22 _ rfl rfl)
  obtain ⟨z1, l1, m1, s1, w1⟩ := Go.Vc.arg_ints Try.underlying22 Try.underlying3 (by kernel_rfl) sp1 h1
  clear hA0 hval0
  refine (Go.Vc.Does.below (Go.Proofs.gchains_law W.heap a0 len0 cap0 z0 l0 m0 s0 w0 a1 len1 cap1 z1 l1 m1 s1 w1)).mono fun e W' ⟨he, bel⟩ => ?_
  subst he
  exact ⟨_, rfl, _, _, _, [], _, [], hW', trodAll_mk1 (shut_bool Try.underlying4 _), (trodAll_cons_mk (Below.trod laidOut (by kernel_rfl) (of_decide_eq_true (by kernel_rfl)) k0 bel lt0) (trodAll_cons_mk (Below.trod laidOut (by kernel_rfl) (of_decide_eq_true (by kernel_rfl)) k1 bel lt1) trodAll_mk0)), rfl, bel.frame _, fun h => by cases h⟩

theorem over : Rows.graphChainsRow.holds Try.pinned (OpenSpec.ofChange Rows.graphChainsSpec) :=
  OpenClaim.holds_of_wide 8 Try.f8 rfl rfl rfl rfl rfl rfl rfl ⟨rfl, rfl, rfl, rfl, rfl⟩ rfl rfl rfl rfl rfl (by kernel_rfl) Try.func8 (by kernel_rfl)
    (of_decide_eq_true (by kernel_rfl)) (by unfold Func.isWrapper; first | (rw [if_pos (by decide +kernel)]; kernel_rfl) | (rw [if_neg (by decide +kernel)]; exact ⟨rfl, rfl⟩))
    (fun os started H enc _ => lifted os started H enc)

theorem proved : Rows.GraphChainsSaid := over
#print axioms proved
end Go.Proofs.Ytppjhnepmolboaa.graphChains

