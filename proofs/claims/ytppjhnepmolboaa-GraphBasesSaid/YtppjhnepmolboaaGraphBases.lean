/-
  The law GraphBases is true and changes nothing that was there, whatever the input. No condition.
-/
import Derived.Test.YtppjhnepmolboaaGr
import Derived.Test.YtppjhnepmolboaaRows
import Derived.WalkKit
import Derived.ProofKit
import Derived.OpenShut
import Derived.ShutString
import Derived.ChangeOld
import Derived.Below
import Derived.Test.YtppjhnepmolboaaVd

section
open Go Go.Vc
namespace Go.Proofs

theorem raw_rows {z : List (List Value)} (w : ∀ r ∈ z, CellsAre [.i .i64, .i .i64, .i .i64, .b] r) : ∃ R : List Ly, z = R.map Ly.cells := by
  obtain ⟨xs, h, _⟩ := rows_map (f := Ly.cells) (good := fun _ => True) z (fun r hr => by
    have := w r hr
    match r, this with
    | [.int .i64 a, .int .i64 b, .int .i64 c, .bool d], _ => exact ⟨⟨a, b, c, d⟩, rfl, trivial⟩)
  exact ⟨xs, h⟩

theorem own_len {H : Heap} {a : Option Addr} {n c : Nat} {zs : List Int} (h : Own H 1 a n c (ints zs)) : zs.length = n := (Own.irow h).2

set_option maxHeartbeats 1000000 in
theorem gbases_law (H : Heap) (a : Option Addr) (len cap : Nat) (z : List (List Value)) (l : z.length = len) (m : len ≤ maxLen) (s : SRow H 4 len (.slice a len cap) z.flatten) (w : ∀ r ∈ z, CellsAre [.i .i64, .i .i64, .i .i64, .b] r)
    (x1 : Int) (_ : (Lit.int .i64 x1).wf = true) (x2 : Int) (_ : (Lit.int .i64 x2).wf = true) :
    Does Try.prog 7 [.slice a len cap, .int .i64 x1, .int .i64 x2] H fun v H' => v = .bool true ∧ Ext [] H H' := by
  obtain ⟨R, rfl⟩ := raw_rows w
  have hRl : R.length = len := by simpa using l
  subst hRl
  have hR : LRow H a R := SRow.cap s
  refine Fn_of_vc Try.mixed (vc_gbases _ _ _ _ _ _ _) ?_
  refine (list_ok 0 (by unfold maxLen at m; omega) hR).mono ?_
  rintro _ H2 ⟨L, a3, c5, rfl, hL16, ho2, hx2, hf2⟩
  refine ⟨_, _, _, rfl, (known13_ok H2).mono ?_⟩
  rintro _ H7 ⟨rfl, hx7⟩
  have ho7 := ho2.ext hx7 (by simp)
  obtain ⟨hr7, _⟩ := own_lrow ho7
  have hcap := ho7.2.1
  refine ⟨_, rfl, fun e => (by cases e), fun _ => (right_ok (by omega) hcap hr7).mono ?_⟩
  rintro _ H13 ⟨rfl, hx13⟩
  have hX13 := (hx2.trans hx7).trans hx13
  refine ⟨_, rfl, fun e => (known13_ok H13).mono ?_, fun e => ?_⟩
  · rintro _ H16 ⟨rfl, hx16⟩
    refine ⟨_, rfl, fun _ => ⟨yes ?_, hX13.trans hx16⟩, fun e => (by cases e)⟩
    cases L with
    | nil => exact absurd e (by decide)
    | cons x r => simp only [List.length_cons]; omega
  have hr : rightB L = true := by simpa using e
  obtain ⟨hasc, hfit, hl40⟩ := right_iff.1 hr
  refine ⟨fun _ => ⟨rfl, hX13⟩, fun hne => ?_⟩
  have hpos : (0 : Int) < L.length := by omega
  have hr13 := hr7.ext hx13 (by simp)
  refine (pick_ok x1 L.length H13 hpos (by omega)).mono ?_
  rintro _ _ ⟨rfl, rfl⟩
  have i0 := Int.emod_nonneg x1 (show (L.length : Int) ≠ 0 by omega)
  have i1 := Int.emod_lt_of_pos x1 hpos
  generalize x1 % (L.length : Int) = i at *
  have hLi : L[i.toNat]? = some L[i.toNat] := List.getElem?_eq_getElem (by omega)
  obtain ⟨b21, o22, ha3, g0, _⟩ := hr13.at hLi
  refine ⟨_, rfl, i0, i1, b21, o22, ha3, _, g0, (pick_ok x2 L.length H13 hpos (by omega)).mono ?_⟩
  rintro _ _ ⟨rfl, rfl⟩
  have j0 := Int.emod_nonneg x2 (show (L.length : Int) ≠ 0 by omega)
  have j1 := Int.emod_lt_of_pos x2 hpos
  generalize x2 % (L.length : Int) = j at *
  have hLj : L[j.toNat]? = some L[j.toNat] := List.getElem?_eq_getElem (by omega)
  obtain ⟨b27, o28, ha3', g1, _⟩ := hr13.at hLj
  have fa : (find L L[i.toNat].id).isSome = true := by rw [(find_iff hasc).2 ⟨List.getElem_mem _, rfl⟩]; rfl
  have fb : (find L L[j.toNat].id).isSome = true := by rw [(find_iff hasc).2 ⟨List.getElem_mem _, rfl⟩]; rfl
  refine ⟨_, rfl, j0, j1, b27, o28, ha3', _, g1, ?_⟩
  generalize L[i.toNat].id = x at *
  generalize L[j.toNat].id = y at *
  have pa := anc_asc L x
  have qa := anc_asc L y
  have hax := anc_self fa
  have hbs := base_sym pa qa
  have hcm := fun z => base_in (z := z) (p := anc L x) (q := anc L y) pa
  have hcn := base_none (p := anc L x) (q := anc L y)
  have hself : baseOf (anc L x) (anc L x) = x := by
    unfold baseOf
    rw [List.filter_eq_self.2 (fun k hk => by simpa using hk)]
    exact last_max pa hax (fun k hk => (anc_le hr hk).1)
  refine (base_ok x y (by omega) hr13).mono ?_
  rintro _ H31 ⟨rfl, hx31⟩
  have hr31 := hr13.ext hx31 (by simp)
  generalize hcd : baseOf (anc L x) (anc L y) = cc at *
  refine ⟨_, rfl, (ancestors_ok x (by omega) hr31).mono ?_⟩
  rintro _ H34 ⟨a35, c37, rfl, hp34, hpl, hx34, _⟩
  have hr34 := hr31.ext hx34 (by simp)
  refine ⟨_, _, _, rfl, (ancestors_ok y (by omega) hr34).mono ?_⟩
  rintro _ H39 ⟨a40, c42, rfl, hq39, hql, hx39, _⟩
  have hr39 := hr34.ext hx39 (by simp)
  have hp39 := hp34.ext hx39 (by simp)
  have hX39 := ((hX13.trans hx31).trans hx34).trans hx39
  refine ⟨_, _, _, rfl, (base_ok y x (by omega) hr39).mono ?_⟩
  rintro _ H44 ⟨rfl, hx44⟩
  have hr44 := hr39.ext hx44 (by simp)
  refine ⟨_, rfl, fun e => absurd hbs.symm e, fun _ => (base_ok x x (by omega) hr44).mono ?_⟩
  rintro _ H47 ⟨rfl, hx47⟩
  have hx3947 := hx44.trans hx47
  have hr47 := hr44.ext hx47 (by simp)
  have hp47 := (Own.irow (hp39.ext hx3947 (by simp))).1
  have hq47 := (Own.irow (hq39.ext hx3947 (by simp))).1
  have hX47 := hX39.trans hx3947
  refine ⟨_, rfl, fun e => absurd hself e, fun _ => (in_ok x (by omega) hp47).mono ?_⟩
  rintro _ _ ⟨rfl, rfl⟩
  refine ⟨_, rfl, fun e => absurd e (by simp [hax]), fun _ => ?_⟩
  generalize hpd : anc L x = p at *
  generalize hqd : anc L y = q at *
  refine ⟨fun H' => Ext [] H47 H', ⟨fun i H' => Ext [] H47 H' ∧ ∃ j : Nat, i = j ∧ j ≤ p.length, fun i _ => p.length - i.toNat, ⟨Ext.refl _ _, 0, rfl, by omega⟩, ?_⟩, ?_⟩
  · rintro _ H56 ⟨hx56, j, rfl, hjp⟩
    refine ⟨fun hlt => ?_, fun _ => hx56⟩
    have hpj : p[j]? = some p[j] := List.getElem?_eq_getElem (by omega)
    obtain ⟨b57, o58, ha35, hc⟩ := (hp47.ext hx56 (by simp)).at hpj
    have hzp : p[j] ∈ p := List.getElem_mem _
    generalize p[j] = z at *
    have next : ∀ {H' : Heap}, Ext [] H47 H' → In64 ((j : Int) + 1) ∧ (Ext [] H47 H' ∧ ∃ j' : Nat, (j : Int) + 1 = j' ∧ j' ≤ p.length) ∧ p.length - ((j : Int) + 1).toNat < p.length - (j : Int).toNat :=
      fun he => ⟨⟨by omega, by omega⟩, ⟨he, j + 1, by omega, by omega⟩, by omega⟩
    refine ⟨by omega, hlt, b57, o58, ha35, _, by rw [Int.toNat_natCast]; exact hc, (in_ok z (by omega) (hq47.ext hx56 (by simp))).mono ?_⟩
    rintro _ _ ⟨rfl, rfl⟩
    refine ⟨_, rfl, fun hzq => ?_, fun _ => next hx56⟩
    have hzq' : z ∈ q := by simpa using hzq
    obtain ⟨c1, c2, c3⟩ := hcm z hzp hzq'
    have c4 : 1 ≤ cc := by rw [← hpd] at c1; exact (anc_le hr c1).2
    refine ⟨fun e => absurd e (by omega), fun _ => ⟨by omega, hlt, b57, o58, ha35, _, by rw [Int.toNat_natCast]; exact hc, fun hzc => ⟨by omega, hlt, b57, o58, ha35, _, by rw [Int.toNat_natCast]; exact hc, ?_⟩, fun _ => next hx56⟩⟩
    refine (ancestors_ok z (by omega) (hr47.ext hx56 (by simp))).mono ?_
    rintro _ H70 ⟨a71, c73, rfl, hz70, hzl, hx70, _⟩
    refine ⟨_, _, _, rfl, (in_ok cc (by omega) (Own.irow hz70).1).mono ?_⟩
    rintro _ _ ⟨rfl, rfl⟩
    refine ⟨_, rfl, fun e => ?_, fun _ => next (hx56.trans hx70)⟩
    exfalso
    have : cc ∈ anc L z := by simpa using e
    have := (anc_le hr this).1
    omega
  intro H77 hx77 b78 H79 hn
  have hx79 := hx77.trans hn.ext
  have hir : IRow H79 (some ⟨b78, 0, none⟩) [x, y] := ⟨rfl, .inr rfl, fun k u hk => by
    show hcell H79 b78 (0 + k) = some u
    rw [Nat.zero_add, hn.blk.cell]; exact hk⟩
  refine (keep_ok (ids := [x, y]) (by omega) (hr47.ext hx79 (by simp)) (by simp) hir).mono ?_
  rintro _ H81 ⟨a82, c84, rfl, hk81, hx81, _⟩
  have hS := kept_closed L [x, y]
  have hSm : ∀ k, k ∈ keptOf L [x, y] ↔ k ∈ p ∨ k ∈ q := fun k => by
    rw [kept_mem, ← hpd, ← hqd]; simp
  have hrk := keepL_right hr hS
  generalize hKd : keepL L (keptOf L [x, y]) = K at *
  have hKl : K.length ≤ 16 := by
    have : K.length ≤ L.length := by rw [← hKd]; exact List.length_filter_le _ _
    omega
  have hx4781 := hx79.trans hx81
  obtain ⟨hkr, _⟩ := own_lrow hk81
  have hkcap := hk81.2.1
  refine ⟨_, _, _, rfl, fun i H' => Ext [] H81 H' ∧ ∃ j : Nat, i = j ∧ j ≤ K.length, fun i _ => K.length - i.toNat, ⟨Ext.refl _ _, 0, rfl, by omega⟩, ?_⟩
  rintro _ H88 ⟨hx88, j, rfl, hjK⟩
  have hp88 := hp47.ext (hx4781.trans hx88) (by simp)
  have hq88 := hq47.ext (hx4781.trans hx88) (by simp)
  have hX88 := (hX47.trans hx4781).trans hx88
  have hk88 := hkr.ext hx88 (by simp)
  refine ⟨fun hlt => ?_, fun _ => ?_⟩
  · have hKj : K[j]? = some K[j] := List.getElem?_eq_getElem (by omega)
    obtain ⟨b89, o90, ha82, k0, _⟩ := hk88.at hKj
    have hin : K[j].id ∈ p ∨ K[j].id ∈ q := by
      rw [← hSm]
      have : K[j] ∈ keepL L (keptOf L [x, y]) := by rw [hKd]; exact List.getElem_mem _
      exact (keepL_mem.1 this).2
    generalize K[j].id = kid at *
    refine ⟨by omega, hlt, b89, o90, ha82, _, by rw [Int.toNat_natCast]; exact k0, (in_ok kid (by omega) hp88).mono ?_⟩
    rintro _ _ ⟨rfl, rfl⟩
    refine ⟨_, rfl, fun e1 => ⟨by omega, hlt, b89, o90, ha82, _, by rw [Int.toNat_natCast]; exact k0, (in_ok kid (by omega) hq88).mono ?_⟩, fun _ => ⟨⟨by omega, by omega⟩, ⟨hx88, j + 1, by omega, by omega⟩, by simp only []; omega⟩⟩
    rintro _ _ ⟨rfl, rfl⟩
    refine ⟨_, rfl, fun e2 => ?_, fun _ => ⟨⟨by omega, by omega⟩, ⟨hx88, j + 1, by omega, by omega⟩, by simp only []; omega⟩⟩
    exfalso
    simp only [decide_eq_false_iff_not] at e1 e2
    rcases hin with h' | h'
    · exact e1 h'
    · exact e2 h'
  have hlen : p.length ≤ K.length := by
    rw [← hKd]
    refine keepL_len pa (fun k hk => ?_) (fun k hk => (hSm k).2 (.inl hk))
    rw [← hpd] at hk
    exact (anc_iff.1 hk).some
  have last : ∀ H', Ext [] H H' → LRow H' a82 K → Does Try.prog 28 [(.slice a82 K.length c84)] H' fun v110 H111 => ∃ t112 : Bool, v110 = (.bool t112) ∧
      ((t112 = true → (Value.bool (@decide (((p.length : Int) : Int) ≤ (K.length : Int)) (Classical.propDecidable _)) = .bool true ∧ Ext [] H H111)) ∧ (t112 = false → (Value.bool false = .bool true ∧ Ext [] H H111))) := by
    intro H' he hk
    refine (right_ok (by omega) hkcap hk).mono ?_
    rintro _ H111 ⟨rfl, hx111⟩
    exact ⟨_, rfl, fun _ => ⟨yes (by omega), he.trans hx111⟩, fun e => absurd e (by rw [hrk]; simp)⟩
  refine ⟨fun _ => last H88 hX88 hk88, fun hc0 => ?_⟩
  obtain ⟨d1, d2⟩ := hcn hc0
  refine (in_ok cc (by omega) hp88).mono ?_
  rintro _ _ ⟨rfl, rfl⟩
  refine ⟨_, rfl, fun _ => (in_ok cc (by omega) hq88).mono ?_, fun e => absurd e (by simp [d1])⟩
  rintro _ _ ⟨rfl, rfl⟩
  exact ⟨_, rfl, fun _ => last H88 hX88 hk88, fun e => absurd e (by simp [d2])⟩
end Go.Proofs
end

namespace Go.Proofs.Ytppjhnepmolboaa.graphBases
open Go.ChangeShapes Go.WideShapes Go.ChangeAt Go.RowKit
open Go.ChangeMaps (open_string shut_string)
set_option linter.unusedVariables false

theorem own : ownKnob Try.prog.godebug = none := by kernel_rfl
theorem laidOut : laidOutB Try.prog = true := by kernel_rfl

set_option maxRecDepth 100000 in
theorem lifted (os : Os) (started : os.Started) (H : Type) (enc : TypeId × Value → H) :
    ReturnsInHanded {} Try.checked os 7 .any (Rows.graphBasesSpec.pre6 enc Try.prog Try.f7 Rows.graphBasesRow.domain false) (Rows.graphBasesSpec.post enc Try.prog Try.f7 false true false false) := by
  refine returnsInHanded_of_change (C := Try.checked) own started (by kernel_rfl) Try.func7
    (ChangeSpec.witness6 (enc := enc) (C := Try.checked) false ⟨#[], #[.slice none 0 0, .int .i64 0, .int .i64 0], []⟩ 8 (by kernel_rfl) (by kernel_rfl) (by kernel_rfl) (by kernel_rfl)) ?_
  intro W base args ds gs before hval0 hW hcnd _
  have hval : ∀ (j : Nat) t v, Try.f7.params[j]? = some t → args[j]? = some v → Value.okWide Try.prog W .any base t v := hval0
  have hW' := hW
  obtain ⟨p, q, hA0, hV, rfl, hfz, hnd⟩ := hW
  have hA : DataW.TrodAll enc Try.prog W 0 (fun _ => true) true Try.f7.params.toList args.toList ds p := hA0
  rw [Try.params7] at hA hval
  obtain ⟨v0, vs0, d0, ds0, p0, q0, hargs, rfl, rfl, h0, r0⟩ := trodAll_cons hA
  obtain ⟨v1, vs1, d1, ds1, p1, q1, rfl, rfl, rfl, h1, r1⟩ := trodAll_cons r0
  obtain ⟨v2, vs2, d2, ds2, p2, q2, rfl, rfl, rfl, h2, r2⟩ := trodAll_cons r1
  obtain ⟨rfl, rfl, rfl⟩ := trodAll_nil r2
  obtain rfl : args = #[v0, v1, v2] := by cases args; simp_all
  obtain ⟨rfl, rfl⟩ := trodVars_none hV
  obtain ⟨a0, len0, cap0, rfl⟩ := okWide_slice Try.underlying41 (hval 0 41 v0 rfl rfl)
  have k0 := h0
  have lt0 : ∀ x ∈ p0, x.block < W.heap.size := by obtain ⟨m, hm⟩ := k0; exact DataW.trod_lt m _ _ _ hm
  have sp0 := Go.Vc.okWide_spot Try.underlying41 (hval 0 41 _ rfl rfl)
  obtain ⟨z0, l0, m0, s0, w0⟩ := Go.Vc.arg_rows Try.underlying41 (n := 4) (e := 74) (ks := [.i .i64, .i .i64, .i .i64, .b]) (c := 4) (by kernel_rfl) (by kernel_rfl) sp0 h0
  obtain ⟨a1, rfl, rfl, rfl, w1⟩ := open_int Try.underlying3 (hval 1 3 v1 rfl rfl) h1
  obtain ⟨a2, rfl, rfl, rfl, w2⟩ := open_int Try.underlying3 (hval 2 3 v2 rfl rfl) h2
  clear hA0 hval0
  refine (Go.Vc.Does.below (Go.Proofs.gbases_law W.heap a0 len0 cap0 z0 l0 m0 s0 w0 a1 w1 a2 w2)).mono fun e W' ⟨he, bel⟩ => ?_
  subst he
  exact ⟨_, rfl, _, _, _, [], _, [], hW', trodAll_mk1 (shut_bool Try.underlying4 _), (trodAll_cons_mk (Below.trod laidOut (by kernel_rfl) (of_decide_eq_true (by kernel_rfl)) k0 bel lt0) (trodAll_cons_mk (shut_int Try.underlying3 w1) (trodAll_cons_mk (shut_int Try.underlying3 w2) trodAll_mk0))), rfl, bel.frame _, fun h => by cases h⟩

theorem over : Rows.graphBasesRow.holds Try.pinned (OpenSpec.ofChange Rows.graphBasesSpec) :=
  OpenClaim.holds_of_wide 7 Try.f7 rfl rfl rfl rfl rfl rfl rfl ⟨rfl, rfl, rfl, rfl, rfl⟩ rfl rfl rfl rfl rfl (by kernel_rfl) Try.func7 (by kernel_rfl)
    (of_decide_eq_true (by kernel_rfl)) (by unfold Func.isWrapper; first | (rw [if_pos (by decide +kernel)]; kernel_rfl) | (rw [if_neg (by decide +kernel)]; exact ⟨rfl, rfl⟩))
    (fun os started H enc _ => lifted os started H enc)

theorem proved : Rows.GraphBasesSaid := over
#print axioms proved
end Go.Proofs.Ytppjhnepmolboaa.graphBases

