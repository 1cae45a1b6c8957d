/-
  What the law rests on, part 5. No condition.
-/
import Derived.Test.YtopjnbmggagloaaGreatDoorPd
import Derived.Test.YtopjnbmggagloaaGreatDoorPb
import Derived.Tactics
import Derived.Tactics2
import Derived.Defers
import Derived.Recover
import Derived.Laws.Pointers
import Derived.Laws.NewBlocks
import Derived.Deep.RegionHeld
import Derived.RowKit3
import Derived.Laws.IdiomCopy
import Derived.Test.YtopjnbmggagloaaGreatDoorProg
import Derived.Shelf.Small.Strs
import Derived.Shelf.Strings.Search1
import Derived.Shelf.Strings.Count

namespace Go.Ex
open Go Go.Vc Go.Proofs
set_option maxHeartbeats 2000000 in
theorem o_cpy_ok {Ok : St → Prop} [Okay Ok] {S : Sy} {cH : He} {n : Nat} {k : Sy → He → Nat → St} (h : Ok (o_cpy S cH n k)) : ∃ S' cH' n', Ok (k S' cH' n') ∧
    ∀ E Pr aS H X K, SR E 0 S aS → Rel E Pr n cH H → (∀ E' aS' H', E.le E' → SR E' 0 S' aS' → Rel E' Pr n' cH' H' → K.ret aS' H') → Sem Tryz.prog X Tryz.f53.ntmps c94T K aS H := by
  unfold o_cpy at h
  obtain ⟨b1, h, eS1⟩ := onP0_ok h
  obtain ⟨b3, h, eS3⟩ := onP0_ok h
  obtain ⟨b2, h, eS2⟩ := onP0_ok h
  obtain ⟨k1, N1, t1, eb1, hN1, h⟩ := onC_ok h
  obtain ⟨k3, N3, t3, eb3, hN3, h⟩ := onC_ok h
  obtain ⟨m1, em1, h⟩ := onMap_ok h
  obtain ⟨m2, em2, h⟩ := onMap_ok h
  obtain ⟨l1, el1, h⟩ := onMB_ok h
  obtain ⟨el2, h⟩ := onMB0_ok h
  obtain ⟨c1, h⟩ := bi_ok h
  rw [Bool.and_eq_true] at c1
  obtain ⟨hm2s, cH2, h, e2, o2⟩ := hset_ok h
  obtain ⟨c2, h⟩ := bi_ok h
  rw [Bool.and_eq_true] at c2
  obtain ⟨cH3, h, hw3⟩ := wrC_ok h
  obtain ⟨S', hS1, hS2, hS3⟩ := ss_law 2 (.ptr b2 0) S0 (by omega)
  rw [hS1] at h
  refine ⟨S', cH3, n, h, ?_⟩
  clear h hS1
  have hne12 : m1 ≠ m2 := fun e => by
    have := c1.2
    rw [e, Nat.beq_refl] at this
    cases this
  intro E Pr aS H X K hs hr hK a w ha hw
  subst hw
  obtain ⟨s1, g1, v1⟩ := hs.get 1 (by omega)
  obtain ⟨s3, g3, v3⟩ := hs.get 3 (by omega)
  obtain ⟨s2, g2, v2⟩ := hs.get 2 (by omega)
  have t1' := ha.agree 1 s1 g1
  have t3' := ha.agree 3 s3 g3
  have t2' := ha.agree 2 s2 g2
  rw [eS1] at v1
  rw [eS3] at v3
  rw [eS2] at v2
  obtain ⟨r1, q1, hE1, e1⟩ := v1
  obtain ⟨r3, q3, hE3, e3⟩ := v3
  obtain ⟨r2, q2, hE2, e2'⟩ := v2
  rw [e1] at t1'
  rw [e3] at t3'
  rw [e2'] at t2'
  obtain ⟨u1, hu1, hv1⟩ := hr.cellI eb1 (i := 2) (by omega) hE1
  rw [em1] at hv1
  obtain ⟨rm1, qm1, hEm1, rfl⟩ := hv1
  obtain ⟨u2, hu2, hv2⟩ := hr.cellI eb3 (i := 2) (by omega) hE3
  rw [em2] at hv2
  obtain ⟨rm2, qm2, hEm2, rfl⟩ := hv2
  obtain ⟨hlt1, l1', hM1, hR1⟩ := (⟨(hr.blk m1 rm1 qm1 hEm1).1, by have := (hr.blk m1 rm1 qm1 hEm1).2; rw [el1] at this; exact this⟩ : rm1 < w.heap.size ∧ BR E qm1 (.map l1) w.heap[rm1]?)
  obtain ⟨hlt2, l2', hM2, hR2⟩ := (⟨(hr.blk m2 rm2 qm2 hEm2).1, by have := (hr.blk m2 rm2 qm2 hEm2).2; rw [el2] at this; exact this⟩ : rm2 < w.heap.size ∧ BR E qm2 (.map .nil) w.heap[rm2]?)
  have hl2 : l2' = [] := by
    rcases l2' with _ | ⟨x, l2'⟩
    · rfl
    · have := hR2.2 x.1
      simp only [lk] at this
      exact absurd List.mem_cons_self (this x.2)
  subst hl2
  have hM1' : MapIs w.heap rm1 l1' := hM1
  have hM2' : MapIs w.heap rm2 [] := hM2
  have hrne : rm1 ≠ rm2 := fun e => by
    subst e
    exact hne12 (hr.inj m1 m2 rm1 qm1 qm2 hEm1 hEm2 (by rw [el1]; trivial) (by rw [el2]; simp))
  have hr3 : r3 ≠ rm2 := fun e => by
    subst e
    obtain ⟨es, clock, hx, _⟩ := hM2
    rw [show hcell w.heap r3 2 = none by simp [hcell, hx]] at hu2
    cases hu2
  have haB : Ag Tryz.f53.ntmps [(1, .v (.pointer (some ⟨r1, 0, none⟩))), (3, .v (.pointer (some ⟨r3, 0, none⟩))), (2, .v (.pointer (some ⟨r2, 0, none⟩)))] a :=
    ag_of ha.size ha.defers [(1, .pointer (some ⟨r1, 0, none⟩)), (3, .pointer (some ⟨r3, 0, none⟩)), (2, .pointer (some ⟨r2, 0, none⟩))] (by
      intro x hx; simp only [List.mem_cons, List.mem_nil_iff, or_false] at hx; rcases hx with rfl | rfl | rfl <;> assumption)
  unfold c94T
  refine wp_seq (wp_mono (partS_wp Tryz.mixed (Cp2 r1 r3 w.heap fun _ H' => w.heap.size + 1 = H'.size ∧ (∀ j, j < w.heap.size → j ≠ rm2 → H'[j]? = w.heap[j]?) ∧ ∃ l2, MapIs H' rm2 l2 ∧ (l2.map (·.1)).Nodup ∧ (∀ p ∈ l2, p ∈ l1') ∧ ∀ p ∈ l1', p.1 ∈ l2.map (·.1)) ?_ Tryz.func53 rfl rfl haB (haB.pick (by
    intro x hx; simp only [List.mem_cons, List.mem_nil_iff, or_false] at hx; rcases hx with rfl | rfl <;> rfl)) rfl) ?_)
  · refine ⟨some rm1, hu1, rm1, l1', rfl, hM1', fun r4 H5 hn => ?_⟩
    obtain ⟨rfl, hs5, hk5, hi5⟩ := hn
    have hM25 : MapIs H5 rm2 [] := by
      obtain ⟨es, clock, hx, hy⟩ := hM2'
      exact ⟨es, clock, by rw [hk5 rm2 hlt2]; exact hx, hy⟩
    refine ⟨CpI H5 w.heap.size rm1 rm2 l1', fun H => ((l1'.map (·.1)).filter fun x => !(keysAt H rm2).contains x).length, ⟨[], [], rfl, fun _ _ _ => rfl, hi5, hM25, rfl, List.nodup_nil, fun p hp => (by cases hp)⟩, ?_⟩
    rintro H8 ⟨done, l2, hs8, hk8, hi8, hm8, hkeys, hnd, hsub⟩
    refine ⟨rm1, l1', done, hi8, ?_, fun hall => ?_⟩
    · intro k12 v13 H14 hmem hnot hst
      obtain ⟨hs14, hk14, hi14⟩ := hst
      refine ⟨fun _ => ?_, fun h => by cases h⟩
      obtain ⟨ya, yl, yc, rfl⟩ : ∃ ya yl yc, v13 = .slice ya yl yc := by
        have := hR1.2 k12
        split at this
        · rename_i cv hcv
          obtain ⟨v, h1, h2⟩ := this
          obtain ⟨a', l', c', rfl⟩ := isSl_ok (allSlC_ok c1.1 _ _ hcv) h2
          have := nodup_map_inj hR1.1 h1 hmem rfl
          cases this
          exact ⟨_, _, _, rfl⟩
        · exact absurd hmem (this v13)
      have hm14 : MapIs H14 rm2 l2 := by
        obtain ⟨es, clock, hx, hy⟩ := hm8
        exact ⟨es, clock, by rw [hk14 rm2 (by omega)]; exact hx, hy⟩
      have hc14 : hcell H14 r3 2 = some (.map (some rm2)) := by
        have hlt3 := hcell_lt hu2
        unfold hcell at hu2 ⊢
        rw [hk14 r3 (by omega), hk8 r3 (by omega) hr3, hk5 r3 hlt3]
        exact hu2
      refine ⟨rm1, l1', done, k12, hi14, ya, yl, yc, hmem, some rm2, hc14, rm2, l2, rfl, hm14, fun H25 hp => ?_⟩
      have hkn : k12 ∉ l2.map (·.1) := by rw [hkeys]; exact hnot
      rw [mapSet_new hkn] at hp
      obtain ⟨hm25, hx25⟩ := Go.Proofs.MapPut.is hp (by rw [hs14, hs8]; omega)
      have hp' := hp
      obtain ⟨es, clock, _, rfl, _⟩ := hp'
      have hmu1 : keysAt H8 rm2 = done := by rw [keysAt_is hm8, hkeys]
      have hmu2 : keysAt (H14.setIfInBounds rm2 (.map es clock)) rm2 = done ++ [k12] := by rw [keysAt_is hm25, List.map_append, hkeys]; rfl
      refine ⟨⟨done ++ [k12], _, by simp [hs14, hs8], fun j hj1 hj2 => ?_, MIter.set hi14 (by omega) hrne, hm25, by rw [List.map_append, hkeys]; rfl, ?_, fun p hp => ?_⟩, ?_⟩
      · rw [Array.getElem?_setIfInBounds_ne (Ne.symm hj2), hk14 j hj1, hk8 j hj1 hj2]
      · rw [List.nodup_append]
        refine ⟨hnd, by simp, fun a ha b hb => ?_⟩
        simp only [List.mem_singleton] at hb
        subst hb
        rintro rfl
        exact hnot ha
      · rcases List.mem_append.1 hp with h | h
        · exact hsub p h
        · simp only [List.mem_singleton] at h
          subst h
          exact hmem
      · show List.length _ < List.length _
        simp only [hmu1, hmu2]
        exact filter_less (List.mem_map.2 ⟨_, hmem, rfl⟩) hnot
    · refine ⟨(fun h => by cases h), fun _ => ⟨by omega, fun j hj hne => ?_, l2, hm8, by rw [hkeys]; exact hnd, hsub, fun p hp => by rw [hkeys]; exact hall p hp⟩⟩
      rw [hk8 j (by omega) hne, hk5 j hj]
  · rintro e a1 w1 ⟨rfl, hs1, vs, hl, ⟨hsz, hkp, l2, hm, hnd, hsub, hall⟩, ha1⟩
    have haC : Ag Tryz.f53.ntmps [(3, .v (.pointer (some ⟨r3, 0, none⟩))), (2, .v (.pointer (some ⟨r2, 0, none⟩)))] a1 := ha1.pick (by
      intro x hx; simp only [List.mem_cons, List.mem_nil_iff, or_false] at hx; rcases hx with rfl | rfl <;> rfl)
    have hMR : MR E l1 l2 := by
      refine ⟨hnd, fun n => ?_⟩
      have := hR1.2 n
      split at this
      · rename_i cv hcv
        obtain ⟨v, h1, h2⟩ := this
        have := hall _ h1
        obtain ⟨p, hp, hpe⟩ := List.mem_map.1 this
        have := nodup_map_inj hR1.1 (hsub p hp) h1 hpe
        subst this
        exact ⟨v, hp, h2⟩
      · intro v hv
        exact this v (hsub _ hv)
    have hr1 : Rel E Pr n cH2 w1.heap := by
      have hg := hr.garb (w1.heap[w.heap.size]'(by omega))
      refine hg.put hEm2 (by rw [el2]; trivial) e2 o2 (by simp; omega) (fun j hj => ?_) ⟨l2, hm, hMR⟩
      by_cases hj2 : j < w.heap.size
      · rw [hkp j hj2 hj, Array.getElem?_push, if_neg (by omega)]
      · by_cases hj3 : j = w.heap.size
        · subst hj3
          rw [Array.getElem?_eq_getElem (by omega), Array.getElem?_push, if_pos rfl]
        · rw [Array.getElem?_eq_none (by omega), Array.getElem?_eq_none (by simp; omega)]
    have hb3 : b3 ≠ m2 := fun e => by rw [e, el2] at eb3; cases eb3
    have eb3' : hg b3 cH2 = .cells k3 N3 t3 := by rw [o2 b3 (hr.small _ _ hE3) hb3]; exact eb3
    obtain ⟨z0, hz0, hy0⟩ := hr1.cellI eb3' (i := 0) (by omega) hE3
    obtain ⟨z1, hz1, hy1⟩ := hr1.cellI eb3' (i := 1) (by omega) hE3
    obtain ⟨z2, hz2, hy2⟩ := hr1.cellI eb3' (i := 2) (by omega) hE3
    obtain ⟨ya, yl, yc, rfl⟩ := isSl_ok c2.1 hy0
    obtain ⟨pr, po, rfl⟩ := isPtr_ok c2.2 hy1
    have hy2' := hy2
    rw [em2] at hy2'
    obtain ⟨rq, qq, hq1, rfl⟩ := hy2'
    obtain ⟨f1, _, f2⟩ := hw3 E Pr n w1.heap r2 q2 _ hE2 hr1 (LR.cons' hy0 (LR.cons' hy1 (LR.cons' hy2 LR.nil')))
    refine wp_seq (wp_mono (part_wp Tryz.mixed (Cp6 r3 r2 w1.heap fun _ H' => Rel E Pr n cH3 H') ⟨ya, yl, yc, hz0, _, hz1, _, hz2, f1, fun H6 hp => f2 H6 hp⟩ Tryz.func53 rfl rfl haC haC rfl) ?_)
    rintro e a2 w2 ⟨rfl, hs2, vs, hl, hr2, ha2⟩
    refine wp_ret ⟨(List.range 256).map fun t => (t, .v (a2.tmps.getD t undef)), w2, ha2.size, fun t s ht => ?_, by rw [ha2.defers]; rfl, hs1.trans hs2, hK E _ _ (En.le.refl E) ?_ hr2⟩
    · rw [get_tab] at ht
      split at ht
      · cases ht; rfl
      · cases ht
    · refine ⟨fun t ht => ⟨.v (a2.tmps.getD t undef), by rw [get_tab, if_pos (by simpa using ht)], ?_⟩, fun g hg => by omega, by rw [get_tab, if_neg (by simp [wideKey])]⟩
      by_cases e : t = 2
      · subst e
        rw [hS2]
        exact ⟨r2, q2, hE2, ha2.agree 2 (.v (.pointer (some ⟨r2, 0, none⟩))) rfl⟩
      · rw [hS3 t ht e, sg_S0 t ht]; trivial
end Go.Ex

section
open Go Go.Vc
namespace Go.Proofs
theorem assert229 (W : World) (v : Value) : (Instr.typeAssert (.iface 256 v) 20 256 true).run Tryz.prog W = .ok (.tuple #[v, .bool true]) W := by kernel_rfl
theorem eqIn143 (d : Nat) (a : Addr) (W : World) : (Op.equalIn (d + 1) 128 (.pointer (some a)) (.pointer (some a))).run Tryz.prog W = .ok true W := by
  simp [Op.equalIn, run_underlying Tryz.underlying128, sameAddr]
theorem neq143 (a : Addr) (W : World) : (binOp .neq 128 (.pointer (some a)) (.pointer (some a))).run Tryz.prog W = .ok (.bool false) W := by
  have h : (Op.equal 128 (.pointer (some a)) (.pointer (some a))).run Tryz.prog W = .ok true W := eqIn143 9999 a W
  simp only [binOp]
  simp [h]
set_option linter.unusedSimpArgs false in
set_option maxHeartbeats 400000 in
theorem back_given (g e : Nat) (n m : Int) (w : World) (hg : w.cell? ⟨g, 0, none⟩ = some (.int .i64 n)) (he : w.cell? ⟨e, 0, none⟩ = some (.int .i64 m)) (hz : w.frozen? ⟨e, 0, none⟩ = false) :
    CallsD Tryz.prog 115 #[.pointer (some ⟨g, 0, none⟩), .pointer (some ⟨e, 0, none⟩)] (.panicking ({ v := .iface 256 (.agg #[.pointer (some ⟨g, 0, none⟩)]), recovered := false } :: [])) w fun en u' w' =>
      en = .returned (.tuple #[]) ∧ u' = .panicking ({ v := .iface 256 (.agg #[.pointer (some ⟨g, 0, none⟩)]), recovered := true } :: []) ∧ w' = (w.alloc (.cells #[.pointer (some ⟨g, 0, none⟩)] 256)).setCell ⟨e, 0, none⟩ (.int .i64 n) := by
  refine callsD_of_wpS Tryz.func115 rfl fun c₀ cs hu => ?_
  apply wpS_seq
  apply wpS_region
  simp [wpOpsS, go_sem, recoverD, hu, Tryz.ntmps115, Exit.thenS]
  refine wpS_of_wp ?_
  apply wp_block
  apply wp_seq
  apply wp_region
  simp [wpOps, go_sem, Exit.then]
  repeat left
  refine wp_cond (t := false) (by simp [Act.eval]) ?_
  simp only [Bool.false_eq_true, if_false]
  apply wp_seq
  apply wp_region
  simp [wpOps, go_sem, Exit.then, assert229]
  repeat left
  refine wp_cond (t := true) (by simp [Act.eval]) ?_
  simp only [if_true]
  apply wp_seq
  apply wp_region
  simp [wpOps, go_sem, Exit.then]
  repeat left
  apply wp_seq
  apply wp_seq
  apply wp_region
  simp [wpOps, go_sem, Exit.then, neq143]
  repeat left
  refine wp_cond (t := false) (by simp [Act.eval]) ?_
  simp only [Bool.false_eq_true, if_false]
  apply wp_skip
  simp only [Exit.then]
  have lt_of : ∀ {b : Nat} {v : Value}, w.cell? ⟨b, 0, none⟩ = some v → b < w.heap.size := fun {b v} h => by
    rw [Go.Vc.cell_hcell] at h
    exact Go.Vc.hcell_lt h
  have hgl := lt_of hg
  have hel := lt_of he
  have hg2 : (w.alloc (.cells #[.pointer (some ⟨g, 0, none⟩)] 256)).cell? ⟨g, 0, none⟩ = some (.int .i64 n) := by
    rw [World.cell?_alloc_some _ _ _ (by rw [hg]; rfl)]; exact hg
  have he2 : (w.alloc (.cells #[.pointer (some ⟨g, 0, none⟩)] 256)).cell? ⟨e, 0, none⟩ = some (.int .i64 m) := by
    rw [World.cell?_alloc_some _ _ _ (by rw [he]; rfl)]; exact he
  have hz2 : (w.alloc (.cells #[.pointer (some ⟨g, 0, none⟩)] 256)).frozen? ⟨e, 0, none⟩ = false := by
    rw [Go.RowKit.frozen?_alloc_cells]
    exact hz
  apply wp_region
  simp [wpOps, go_sem, Exit.then, hg2, he2, hz2]
  repeat left
  exact ⟨rfl, _, rfl, .tuple #[], by simp [results, Tryz.results115], rfl, rfl, rfl⟩
set_option linter.unusedSimpArgs false in
set_option maxHeartbeats 400000 in
theorem back_idle (g e : Nat) (w : World) :
    CallsD Tryz.prog 115 #[.pointer (some ⟨g, 0, none⟩), .pointer (some ⟨e, 0, none⟩)] .returning w fun en u' w' =>
      en = .returned (.tuple #[]) ∧ u' = .returning ∧ w' = w := by
  refine callsD_of_wpS Tryz.func115 rfl fun c₀ cs hu => ?_
  apply wpS_seq
  apply wpS_region
  simp [wpOpsS, go_sem, recoverD, hu, Tryz.ntmps115, Exit.thenS]
  refine wpS_of_wp ?_
  apply wp_block
  apply wp_seq
  apply wp_region
  simp [wpOps, go_sem, Exit.then]
  repeat left
  refine wp_cond (t := true) (by simp [Act.eval]) ?_
  simp only [if_true]
  apply wp_region
  simp [wpOps, go_sem]
  repeat left
  cases c₀
  simp_all [bodyPostS, results, Tryz.results115]
theorem eqIn151 (d : Nat) (k : FuncId) (first cap : Array Value) (W : World) : (Op.equalIn (d + 1) 131 (.func (.func k) first cap) .nilFunc).run Tryz.prog W = .ok false W := by
  simp [Op.equalIn, run_underlying Tryz.underlying131]
theorem eql151 (k : FuncId) (first cap : Array Value) (W : World) : (binOp .eql 131 (.func (.func k) first cap) .nilFunc).run Tryz.prog W = .ok (.bool false) W := by
  have h : (Op.equal 131 (.func (.func k) first cap) .nilFunc).run Tryz.prog W = .ok false W := eqIn151 9999 k first cap W
  simp only [binOp]
  simp [h]
theorem build225 (W : World) : (Instr.build 186 #[]).run Tryz.prog W = .ok (.agg #[.int .i64 0]) W := by kernel_rfl
set_option linter.unusedSimpArgs false in
set_option maxHeartbeats 400000 in
theorem do_walk (k : FuncId) (first cap : Array Value) (w : World) {R : Ending → World → Prop} (hcf : ∀ args w, (callFunc k args).run Tryz.prog w = .ok (.enter k args) w) {Q : World → Prop} {X : Int → World → Prop}
    (h : Calls Tryz.prog k (first.push (.pointer (some ⟨w.heap.size + 1, 0, none⟩)) ++ cap) ((w.alloc (.cells #[.int .i64 0] 22)).alloc (.cells #[.int .i64 0] 186)) fun e w' =>
      (e = .returned (.tuple #[]) ∧ w'.cell? ⟨w.heap.size, 0, none⟩ = some (.int .i64 0) ∧ w'.frozen? ⟨w.heap.size, 0, none⟩ = false ∧ Q (w'.setCell ⟨w.heap.size, 0, none⟩ (.int .i64 0))) ∨
      ∃ n, e = .panicked [{ v := .iface 256 (.agg #[.pointer (some ⟨w.heap.size + 1, 0, none⟩)]), recovered := false }] ∧ w'.cell? ⟨w.heap.size + 1, 0, none⟩ = some (.int .i64 n) ∧ w'.cell? ⟨w.heap.size, 0, none⟩ = some (.int .i64 0) ∧ w'.frozen? ⟨w.heap.size, 0, none⟩ = false ∧
        X n ((w'.alloc (.cells #[.pointer (some ⟨w.heap.size + 1, 0, none⟩)] 256)).setCell ⟨w.heap.size, 0, none⟩ (.int .i64 n)))
    (hQ : ∀ w', Q w' → w'.cell? ⟨w.heap.size, 0, none⟩ = some (.int .i64 0) → R (.returned (.int .i64 0)) w') (hX : ∀ n w', X n w' → w'.cell? ⟨w.heap.size, 0, none⟩ = some (.int .i64 n) → R (.returned (.int .i64 n)) w') : Calls Tryz.prog 56 #[.func (.func k) first cap] w R := by
  refine calls_of_wp_defers Tryz.func56 rfl ?_
  apply wp_seq
  apply wp_region
  simp [wpOps, go_sem, Tryz.ntmps56, Exit.then]
  repeat left
  apply wp_seq
  apply wp_seq
  apply wp_region
  simp [wpOps, go_sem, Exit.then, eql151]
  repeat left
  refine wp_cond (t := false) (by simp [Act.eval]) ?_
  simp only [Bool.false_eq_true, if_false]
  apply wp_skip
  simp only [Exit.then]
  apply wp_seq
  apply wp_region
  simp [wpOps, go_sem, Exit.then, build225]
  repeat left
  apply wp_seq
  apply wp_region
  simp [wpOps, go_sem, Exit.then]
  repeat left
  apply wp_seq
  apply wp_region
  simp [wpOps, go_sem, Exit.then, hcf]
  repeat left
  refine h.mono ?_
  rintro e w' (⟨rfl, hc, hz, hq⟩ | ⟨n, rfl, hg, hc, hz, hx⟩)
  · show Code.wp _ _ _ _ _
    apply wp_seq
    apply wp_region
    simp [wpOps, go_sem, Exit.then, hc, hz]
    repeat left
    apply wp_ret
    refine leaves_cons (f := 115) (args := #[.pointer (some ⟨w.heap.size + 1, 0, none⟩), .pointer (some ⟨w.heap.size, 0, none⟩)]) (by simp) (by simp [go_sem]) ?_
    refine (back_idle _ _ _).mono ?_
    rintro e u' w'' ⟨rfl, rfl, rfl⟩
    have hc2 : (w'.setCell ⟨w.heap.size, 0, none⟩ (.int .i64 0)).cell? ⟨w.heap.size, 0, none⟩ = some (.int .i64 0) := by simp [go_sem, hc]
    refine ⟨.int .i64 0, ?_, hQ _ hq hc2⟩
    simp [results, Tryz.results56, go_sem, hc]
  · show bodyPostD _ _ _ _ _ _
    refine leaves_cons (f := 115) (args := #[.pointer (some ⟨w.heap.size + 1, 0, none⟩), .pointer (some ⟨w.heap.size, 0, none⟩)]) (by simp) (by simp [go_sem]) ?_
    refine (back_given _ _ _ _ _ hg hc hz).mono ?_
    rintro e u' w'' ⟨rfl, rfl, rfl⟩
    have hc3 : (w'.alloc (.cells #[.pointer (some ⟨w.heap.size + 1, 0, none⟩)] 256)).cell? ⟨w.heap.size, 0, none⟩ = some (.int .i64 0) := by
      rw [World.cell?_alloc_some _ _ _ (by rw [hc]; rfl)]; exact hc
    have hc2 : ((w'.alloc (.cells #[.pointer (some ⟨w.heap.size + 1, 0, none⟩)] 256)).setCell ⟨w.heap.size, 0, none⟩ (.int .i64 n)).cell? ⟨w.heap.size, 0, none⟩ = some (.int .i64 n) := by simp [go_sem, hc3]
    refine ⟨.int .i64 n, ?_, hX _ _ hx hc2⟩
    simp [results, Tryz.results56, go_sem, hc3]
end Go.Proofs
end

section
open Go Go.Vc
namespace Go.Proofs
theorem sim_set (w : World) (b o : Nat) (v : Value) : Sim w (w.setCell ⟨b, o, none⟩ v) := (heap_setCells b [v] o w).2
/-- A call within a guard: what is done goes well, or is given up; its own panic is recovered. -/
theorem guard_ok {H : Heap} {k : FuncId} {first cap : List Value} {Q : Value → Heap → Prop}
    (hcf : ∀ args w, (callFunc k args).run Tryz.prog w = .ok (.enter k args) w)
    (h : ∀ e g H1 H2, New H e [.int .i64 0] 22 H1 → New H1 g [.int .i64 0] 186 H2 →
      DoesX Tryz.prog k (first ++ [.pointer (some ⟨g, 0, none⟩)] ++ cap) H2
        (fun v H' => v = .tuple #[] ∧ Blk H' e [.int .i64 0] ∧ ∀ H3, Puts H' e 0 [.int .i64 0] H3 → Q (.int .i64 0) H3)
        (fun p H' => ∃ n, p = .iface 256 (.agg #[.pointer (some ⟨g, 0, none⟩)]) ∧ hcell H' g 0 = some (.int .i64 n) ∧ Blk H' e [.int .i64 0] ∧ ∀ b H3 H4, New H' b [.pointer (some ⟨g, 0, none⟩)] 256 H3 → Puts H3 e 0 [.int .i64 n] H4 → Q (.int .i64 n) H4)) :
    Does Tryz.prog 56 [.func (.func k) first.toArray cap.toArray] H Q := by
  intro w hw
  subst hw
  have hd := h w.heap.size (w.heap.size + 1) (w.heap.push (.cells #[.int .i64 0] 22)) ((w.heap.push (.cells #[.int .i64 0] 22)).push (.cells #[.int .i64 0] 186)) ⟨rfl, rfl⟩ ⟨by simp, rfl⟩
  have hd2 := hd ((w.alloc (.cells #[.int .i64 0] 22)).alloc (.cells #[.int .i64 0] 186)) rfl
  refine do_walk k first.toArray cap.toArray w hcf (Q := fun w' => Sim w w' ∧ Q (.int .i64 0) w'.heap) (X := fun n w' => Sim w w' ∧ Q (.int .i64 n) w'.heap) ?_ ?_ ?_
  · have ea : first.toArray.push (Value.pointer (some ⟨w.heap.size + 1, 0, none⟩)) ++ cap.toArray = (first ++ [Value.pointer (some ⟨w.heap.size + 1, 0, none⟩)] ++ cap).toArray := by simp
    rw [ea]
    refine hd2.mono ?_
    rintro e w' (⟨v, rfl, hs, rfl, hb, hq⟩ | ⟨p, rfl, hs, n, rfl, hg, hb, hx⟩)
    · left
      have hs' : Sim w w' := ⟨hs.os, hs.tape, hs.output⟩
      have hs2 := sim_set w' w.heap.size 0 (.int .i64 0)
      refine ⟨rfl, by rw [cell_hcell, hb.cell]; rfl, by rw [frozen_eq]; exact hb.free 0, ⟨hs2.os.trans hs'.os, hs2.tape.trans hs'.tape, hs2.output.trans hs'.output⟩, ?_⟩
      rw [heap_setCell]
      exact hq _ rfl
    · right
      have hs' : Sim w w' := ⟨hs.os, hs.tape, hs.output⟩
      have hs2 := sim_set (w'.alloc (.cells #[.pointer (some ⟨w.heap.size + 1, 0, none⟩)] 256)) w.heap.size 0 (.int .i64 n)
      have hs3 := sim_alloc w' (.cells #[.pointer (some ⟨w.heap.size + 1, 0, none⟩)] 256)
      refine ⟨n, rfl, by rw [cell_hcell]; exact hg, by rw [cell_hcell, hb.cell]; rfl, by rw [frozen_eq]; exact hb.free 0, ⟨(hs2.os.trans hs3.os).trans hs'.os, (hs2.tape.trans hs3.tape).trans hs'.tape, (hs2.output.trans hs3.output).trans hs'.output⟩, ?_⟩
      rw [heap_setCell]
      exact hx w'.heap.size _ _ ⟨rfl, rfl⟩ rfl
  · rintro w' ⟨hs, hq⟩ _
    exact ⟨_, rfl, hs, hq⟩
  · rintro n w' ⟨hs, hq⟩ _
    exact ⟨_, rfl, hs, hq⟩
end Go.Proofs
end

namespace Go.Ex
open Go Go.Vc Go.Proofs
theorem gd_ok (M : Mc) (hP : M.P = Tryz.prog) (hG : M.G = ⟨56, 256⟩) : GdOk M := by
  unfold GdOk
  rw [hP, hG]
  refine ⟨22, 186, 256, fun k first cap H Q hh h => guard_ok (fun args w => ?_) h⟩
  unfold hb at hh
  split at hh
  · rename_i fn hf
    simp only [Bool.and_eq_true, Bool.not_eq_true'] at hh
    obtain ⟨h1, h2⟩ := hh
    have hb' : fn.body.isNone = false := by cases e : fn.body with
      | none => rw [e] at h1; cases h1
      | some _ => rfl
    simp only [Sem.run_bind, Sem.run_pure, Result.andThen_ok, callFunc, run_program, hf, h2, hb', Bool.false_eq_true, if_false]
  · cases hh
end Go.Ex

section
open Go Go.Vc
namespace Go.Proofs
section
open Go.Sort Go.RowKit Go.Shelf
theorem Tryz.slices_Sort_int (blk off cap : Nat) (zs : List Int) (w : World) (hH : Holds (Value.int .i64) w blk off zs.toArray) (hblk : blk < w.heap.size) (hsz : zs.length < 4611686018427387904) :
    Calls Tryz.prog 186 #[.slice (some ⟨blk, off, none⟩) zs.length cap] w fun e w' =>
      e = .returned (.tuple #[]) ∧ ∃ n os, w' = grow (putRow (Value.int .i64) (Sort.ahead w n) blk off (zs.mergeSort fun x y => decide (x ≤ y)).toArray) os := AnyM.slices_Sort_int Tryz.sortA blk off cap zs w hH hblk hsz
theorem Tryz.slices_Sort_int_none (p : Option Addr) (cap : Nat) (w : World) :
    Calls Tryz.prog 186 #[.slice p 0 cap] w fun e w' => e = .returned (.tuple #[]) ∧ w' = w := AnyM.slices_Sort_int_none Tryz.sortA p cap w
end
open Go.Shelf Go.Sort
theorem put_cells {enc : Int → Value} (d : Array Int) (xs tail : List Value) (h : xs.length = d.size) : (putCells enc 0 d (xs ++ tail).toArray) = (d.toList.map enc ++ tail).toArray := by
  apply Array.ext_getElem?
  intro k
  simp only [putCells, Array.getElem?_mapIdx, List.getElem?_toArray, Nat.zero_le, true_and, Nat.zero_add, Nat.sub_zero]
  by_cases hk : k < d.size
  · rw [List.getElem?_append_left (by omega), List.getElem?_append_left (by simpa using hk), List.getElem?_eq_getElem (by omega)]
    simp [hk]
  · rw [List.getElem?_append_right (by omega), List.getElem?_append_right (by simpa using hk)]
    simp only [if_neg hk, List.length_map, Array.length_toList, h]
    cases tail[k - d.size]? <;> rfl


/-- slices.Sort of ints, of a slice of one's own. -/
theorem sort_ok {H : Heap} {a : Option Addr} {n c : Nat} {zs : List Int} (ho : Own H 1 a n c (ints zs)) (hN : n ≤ 1000000) : Does Tryz.prog 186 [.slice a n c] H fun v H' => v = .tuple #[] ∧ Own H' 1 a n c (ints (sorted zs)) ∧ Ext (blkOf a) H H' := by
  obtain ⟨h1, h2, h3, h4⟩ := ho
  have hn : zs.length = n := by simpa [ints] using h1
  intro w hw
  subst hw
  rcases h4 with ⟨rfl, rfl⟩ | ⟨b, tail, rfl, hb, hl⟩
  · obtain rfl : n = 0 := by omega
    obtain rfl : zs = [] := by simpa using hn
    refine (Tryz.slices_Sort_int_none none 0 w).mono ?_
    rintro e w' ⟨rfl, rfl⟩
    refine ⟨_, rfl, ⟨rfl, rfl, rfl⟩, rfl, ?_, Ext.refl _ _⟩
    have : sorted [] = [] := by simp [sorted]
    rw [this]
    exact Own.nil _ _
  · subst hn
    have hsz : (ints zs ++ tail).length = c := by simpa using hl
    refine (Tryz.slices_Sort_int b 0 c zs w ?_ hb.lt ?_).mono ?_
    · intro j hj
      have hj' : j < zs.length := by simpa using hj
      have hc := hb.cell j
      rw [List.getElem?_append_left (by simpa [ints] using hj')] at hc
      constructor
      · show w.cell? ⟨b, 0 + j, none⟩ = _
        rw [Nat.zero_add, cell_eq, hc]
        simp [ints, hj']
      · rw [Nat.zero_add, frozen_eq]
        exact hb.free j
    · omega
    · rintro e w' ⟨rfl, k, os, rfl⟩
      refine ⟨_, rfl, ⟨rfl, rfl, rfl⟩, rfl, ?_, ?_⟩
      · obtain ⟨e, hb⟩ := hb
        have hlt := (Array.getElem?_eq_some_iff.1 hb).1
        have hs : (sorted zs).length = zs.length := by simp [sorted]
        refine ⟨by simp [ints, hs], h2, h3, .inr ⟨b, tail, rfl, ⟨e, ?_⟩, ?_⟩⟩
        · show (w.heap.modify b (onCells (putCells (Value.int .i64) 0 (sorted zs).toArray)) ++ os)[b]? = _
          rw [Array.getElem?_append_left (by simpa using hlt)]
          simp only [Array.getElem?_modify, if_true, hb, Option.map_some, onCells]
          rw [put_cells _ _ _ (by simp [ints, hs])]
          rfl
        · rw [Nat.mul_one, ← hsz]; simp [ints, hs]
      · refine ⟨?_, fun i hi hm => ?_⟩
        · show w.heap.size ≤ (w.heap.modify b _ ++ os).size
          simp
        · show (w.heap.modify b (onCells _) ++ os)[i]? = _
          rw [Array.getElem?_append_left (by simpa using hi)]
          simp only [Array.getElem?_modify]
          rw [if_neg (fun e => hm (by simp [blkOf, e]))]

end Go.Proofs
end

section
open Go Go.Vc
namespace Go.Proofs
set_option maxRecDepth 100000
/-- pentimento/graph.Find$1 -/
theorem vc_findcl (x0_0 : Int) (x0_1 : Int) (x0_2 : Int) (x0_3 : Bool) (pb1 : Nat) (H : Heap) (R : Value → Heap → Prop) : Walk Tryz.prog 202 [] [(.agg #[(.int .i64 x0_0), (.int .i64 x0_1), (.int .i64 x0_2), (.bool x0_3)]), (.pointer (some (⟨pb1, 0, none⟩ : Addr)))] H R = (
 ∀ b1 : Nat, ∀ H2 : Heap, New H b1 [(.int .i64 x0_0), (.int .i64 x0_1), (.int .i64 x0_2), (.bool x0_3)] 122 H2 → (
 ∃ n3 : Int, hcell H2 b1 0 = some (.int .i64 n3) ∧ (
 ∃ n4 : Int, hcell H2 pb1 0 = some (.int .i64 n4) ∧ (
 R (.bool (@decide ((n3 : Int) = n4) (Classical.propDecidable _))) H2)))) := by kernel_rfl


/-- pentimento/graph.Find -/
theorem vc_find (x0 : Option Addr) (x0l : Nat) (x0c : Nat) (x1 : Int) (H : Heap) (R : Value → Heap → Prop) : Walk Tryz.prog 128 [] [(.slice x0 x0l x0c), (.int .i64 x1)] H R = (
 ∀ b1 : Nat, ∀ H2 : Heap, New H b1 [(.int .i64 x1)] 3 H2 → (
 ∀ b3 : Nat, ∀ H4 : Heap, New H2 b3 [(.int .i64 0), (.int .i64 0), (.int .i64 0), (.bool false)] 122 H4 → (
 Does Tryz.prog 201 [(.slice x0 x0l x0c), (.func (.func 202) #[] #[(.pointer (some (⟨b1, 0, none⟩ : Addr)))])] H4 fun v5 H6 => ∃ n7 : Int, v5 = (.int .i64 n7) ∧ (
 ((((n7 : Int) < 0) → (
 Cells H6 b3 0 4 ∧ ∀ H8 : Heap, Puts H6 b3 0 [(.int .i64 0), (.int .i64 0), (.int .i64 0), (.bool false)] H8 → (
 ∃ n9 : Int, hcell H8 b3 0 = some (.int .i64 n9) ∧ (
 ∃ n10 : Int, hcell H8 b3 (0 + 1) = some (.int .i64 n10) ∧ (
 ∃ n11 : Int, hcell H8 b3 ((0 + 1) + 1) = some (.int .i64 n11) ∧ (
 ∃ t12 : Bool, hcell H8 b3 (((0 + 1) + 1) + 1) = some (.bool t12) ∧ (
 R (.tuple #[(.agg #[(.int .i64 n9), (.int .i64 n10), (.int .i64 n11), (.bool t12)]), (.bool false)]) H8))))))) ∧ (¬ ((n7 : Int) < 0) → (
 (0 : Int) ≤ n7 ∧ (n7 : Int) < (x0l : Int) ∧ ∃ b13 o14 : Nat, x0 = some (⟨b13, o14, none⟩ : Addr) ∧ (
 ∃ n15 : Int, hcell H6 b13 (o14 + (Int.toNat n7) * 4) = some (.int .i64 n15) ∧ (
 ∃ n16 : Int, hcell H6 b13 ((o14 + (Int.toNat n7) * 4) + 1) = some (.int .i64 n16) ∧ (
 ∃ n17 : Int, hcell H6 b13 (((o14 + (Int.toNat n7) * 4) + 1) + 1) = some (.int .i64 n17) ∧ (
 ∃ t18 : Bool, hcell H6 b13 ((((o14 + (Int.toNat n7) * 4) + 1) + 1) + 1) = some (.bool t18) ∧ (
 Cells H6 b3 0 4 ∧ ∀ H19 : Heap, Puts H6 b3 0 [(.int .i64 n15), (.int .i64 n16), (.int .i64 n17), (.bool t18)] H19 → (
 ∃ n20 : Int, hcell H19 b3 0 = some (.int .i64 n20) ∧ (
 ∃ n21 : Int, hcell H19 b3 (0 + 1) = some (.int .i64 n21) ∧ (
 ∃ n22 : Int, hcell H19 b3 ((0 + 1) + 1) = some (.int .i64 n22) ∧ (
 ∃ t23 : Bool, hcell H19 b3 (((0 + 1) + 1) + 1) = some (.bool t23) ∧ (
 R (.tuple #[(.agg #[(.int .i64 n20), (.int .i64 n21), (.int .i64 n22), (.bool t23)]), (.bool true)]) H19))))))))))))))))) := by kernel_rfl


/-- slices.IndexFunc[[]pentimento/graph.Layer,pentimento/graph.Layer] -/
theorem vc_indexfunc (x0 : Option Addr) (x0l : Nat) (x0c : Nat) (x1_0 : Option Addr) (H : Heap) (R : Value → Heap → Prop) : Walk Tryz.prog 201 [] [(.slice x0 x0l x0c), (.func (.func 202) #[] #[(.pointer x1_0)])] H R = (
 ∃ I1 : Int → Heap → Prop, ∃ μ2 : Int → Heap → Nat, (I1 0 H) ∧
 ∀ n3 : Int, ∀ H4 : Heap, I1 n3 H4 → (
 ((((n3 : Int) < (x0l : Int)) → (
 (0 : Int) ≤ n3 ∧ (n3 : Int) < (x0l : Int) ∧ ∃ b5 o6 : Nat, x0 = some (⟨b5, o6, none⟩ : Addr) ∧ (
 ∃ n7 : Int, hcell H4 b5 (o6 + (Int.toNat n3) * 4) = some (.int .i64 n7) ∧ (
 ∃ n8 : Int, hcell H4 b5 ((o6 + (Int.toNat n3) * 4) + 1) = some (.int .i64 n8) ∧ (
 ∃ n9 : Int, hcell H4 b5 (((o6 + (Int.toNat n3) * 4) + 1) + 1) = some (.int .i64 n9) ∧ (
 ∃ t10 : Bool, hcell H4 b5 ((((o6 + (Int.toNat n3) * 4) + 1) + 1) + 1) = some (.bool t10) ∧ (
 Does Tryz.prog 202 [(.agg #[(.int .i64 n7), (.int .i64 n8), (.int .i64 n9), (.bool t10)]), (.pointer x1_0)] H4 fun v11 H12 => ∃ t13 : Bool, v11 = (.bool t13) ∧ (
 ((t13 = true → (
 R (.int .i64 n3) H12)) ∧ (t13 = false → (
 (In64 (n3 + 1)) ∧
 (I1 (n3 + 1) H12) ∧ μ2 (n3 + 1) H12 < μ2 n3 H4))))))))))) ∧ (¬ ((n3 : Int) < (x0l : Int)) → (
 R (.int .i64 (-1)) H4))))) := by kernel_rfl


/-- pentimento/graph.mayStand -/
theorem vc_maystand (x0 : Option Addr) (x0l : Nat) (x0c : Nat) (x1 : Int) (H : Heap) (R : Value → Heap → Prop) : Walk Tryz.prog 315 [] [(.slice x0 x0l x0c), (.int .i64 x1)] H R = (
 Does Tryz.prog 128 [(.slice x0 x0l x0c), (.int .i64 x1)] H fun v1 H2 => ∃ n3 : Int, ∃ n4 : Int, ∃ n5 : Int, ∃ t6 : Bool, ∃ t7 : Bool, v1 = (.tuple #[(.agg #[(.int .i64 n3), (.int .i64 n4), (.int .i64 n5), (.bool t6)]), (.bool t7)]) ∧ (
 ∀ b8 : Nat, ∀ H9 : Heap, New H2 b8 [(.int .i64 0), (.int .i64 0), (.int .i64 0), (.bool false)] 122 H9 → (
 Cells H9 b8 0 4 ∧ ∀ H10 : Heap, Puts H9 b8 0 [(.int .i64 n3), (.int .i64 n4), (.int .i64 n5), (.bool t6)] H10 → (
 ((((x1 : Int) = 0) → (
 R (.bool true) H10)) ∧ (¬ ((x1 : Int) = 0) → (
 ((t7 = true → (
 ∃ t11 : Bool, hcell H10 b8 (0 + 3) = some (.bool t11) ∧ (
 R (.bool t11) H10))) ∧ (t7 = false → (
 R (.bool false) H10)))))))))) := by kernel_rfl


/-- pentimento/graph.Chain -/
theorem vc_chain (x0 : Option Addr) (x0l : Nat) (x0c : Nat) (x1 : Int) (H : Heap) (R : Value → Heap → Prop) : Walk Tryz.prog 147 [] [(.slice x0 x0l x0c), (.int .i64 x1)] H R = (
 Does Tryz.prog 128 [(.slice x0 x0l x0c), (.int .i64 x1)] H fun v1 H2 => ∃ n3 : Int, ∃ n4 : Int, ∃ n5 : Int, ∃ t6 : Bool, ∃ t7 : Bool, v1 = (.tuple #[(.agg #[(.int .i64 n3), (.int .i64 n4), (.int .i64 n5), (.bool t6)]), (.bool t7)]) ∧ (
 ∀ b8 : Nat, ∀ H9 : Heap, New H2 b8 [(.int .i64 0), (.int .i64 0), (.int .i64 0), (.bool false)] 122 H9 → (
 Cells H9 b8 0 4 ∧ ∀ H10 : Heap, Puts H9 b8 0 [(.int .i64 n3), (.int .i64 n4), (.int .i64 n5), (.bool t6)] H10 → (
 ∃ I11 : Option Addr → Nat → Nat → Option Addr → Bool → Heap → Prop, ∃ μ12 : Option Addr → Nat → Nat → Option Addr → Bool → Heap → Nat, (I11 none 0 0 (some (⟨b8, 0, none⟩ : Addr)) t7 H10) ∧
 ∀ a13 : Option Addr, ∀ l14 : Nat, ∀ c15 : Nat, ∀ p16 : Option Addr, ∀ t17 : Bool, ∀ H18 : Heap, I11 a13 l14 c15 p16 t17 H18 → (
 ((t17 = true → (
 (((((l14 : Int) : Int) ≤ (x0l : Int)) → (
 withA p16 (fun (b19 : Nat) (o20 : Nat) => (
 ∃ n21 : Int, hcell H18 b19 o20 = some (.int .i64 n21) ∧ (
 ∀ b22 : Nat, ∀ H23 : Heap, New H18 b22 [(.int .i64 n21)] 3 H23 → (
 ∃ old24 new25 : List Value, SRow H23 1 l14 (.slice a13 l14 c15) old24 ∧ SRow H23 1 1 (.slice (some (⟨b22, 0, none⟩ : Addr)) 1 1) new25 ∧ (∀ u ∈ new25, Value.oneCell' u = true) ∧ (l14 + 1) * 8 ≤ 140737488355328 ∧ (l14 + 1 ≤ c15 → roomOf H23 a13 (l14 * 1) (1 * 1)) ∧ ∀ a26 : Option Addr, ∀ c27 : Nat, ∀ H28 : Heap, App H23 1 3 [(.int .i64 0)] a13 l14 c15 old24 new25 1 a26 c27 H28 → (
 withA p16 (fun (b29 : Nat) (o30 : Nat) => (
 ∃ n31 : Int, hcell H28 b29 o30 = some (.int .i64 n31) ∧ (
 ∃ n32 : Int, hcell H28 b29 (o30 + 1) = some (.int .i64 n32) ∧ (
 ∃ n33 : Int, hcell H28 b29 ((o30 + 1) + 1) = some (.int .i64 n33) ∧ (
 ∃ t34 : Bool, hcell H28 b29 (((o30 + 1) + 1) + 1) = some (.bool t34) ∧ (
 ∀ b35 : Nat, ∀ H36 : Heap, New H28 b35 [(.int .i64 0), (.int .i64 0), (.int .i64 0), (.bool false)] 122 H36 → (
 Cells H36 b35 0 4 ∧ ∀ H37 : Heap, Puts H36 b35 0 [(.int .i64 n31), (.int .i64 n32), (.int .i64 n33), (.bool t34)] H37 → (
 ∃ n38 : Int, hcell H37 b35 (0 + 1) = some (.int .i64 n38) ∧ (
 Does Tryz.prog 128 [(.slice x0 x0l x0c), (.int .i64 n38)] H37 fun v39 H40 => ∃ n41 : Int, ∃ n42 : Int, ∃ n43 : Int, ∃ t44 : Bool, ∃ t45 : Bool, v39 = (.tuple #[(.agg #[(.int .i64 n41), (.int .i64 n42), (.int .i64 n43), (.bool t44)]), (.bool t45)]) ∧ (
 Cells H40 b35 0 4 ∧ ∀ H46 : Heap, Puts H40 b35 0 [(.int .i64 n41), (.int .i64 n42), (.int .i64 n43), (.bool t44)] H46 → (
 (I11 a26 (l14 + 1) c27 (some (⟨b35, 0, none⟩ : Addr)) t45 H46) ∧ μ12 a26 (l14 + 1) c27 (some (⟨b35, 0, none⟩ : Addr)) t45 H46 < μ12 a13 l14 c15 p16 t17 H18)))))))))))))))))) ∧ (¬ (((l14 : Int) : Int) ≤ (x0l : Int)) → (
 Does Tryz.prog 229 [(.slice a13 l14 c15)] H18 fun v47 H48 => v47 = (.tuple #[]) ∧ (
 R (.slice a13 l14 c15) H48)))))) ∧ (t17 = false → (
 Does Tryz.prog 229 [(.slice a13 l14 c15)] H18 fun v49 H50 => v49 = (.tuple #[]) ∧ (
 R (.slice a13 l14 c15) H50))))))))) := by kernel_rfl


/-- slices.Reverse[[]int,int] -/
theorem vc_reverse (x0 : Option Addr) (x0l : Nat) (x0c : Nat) (H : Heap) (R : Value → Heap → Prop) : Walk Tryz.prog 229 [] [(.slice x0 x0l x0c)] H R = (
 (In64 ((x0l : Int) - 1)) ∧
 ∃ I1 : Int → Int → Heap → Prop, ∃ μ2 : Int → Int → Heap → Nat, (I1 0 ((x0l : Int) - 1) H) ∧
 ∀ n3 : Int, ∀ n4 : Int, ∀ H5 : Heap, I1 n3 n4 H5 → (
 ((((n3 : Int) < n4) → (
 (0 : Int) ≤ n4 ∧ (n4 : Int) < (x0l : Int) ∧ ∃ b6 o7 : Nat, x0 = some (⟨b6, o7, none⟩ : Addr) ∧ (
 ∃ n8 : Int, hcell H5 b6 (o7 + (Int.toNat n4)) = some (.int .i64 n8) ∧ (
 (0 : Int) ≤ n3 ∧ (n3 : Int) < (x0l : Int) ∧ ∃ b9 o10 : Nat, x0 = some (⟨b9, o10, none⟩ : Addr) ∧ (
 ∃ n11 : Int, hcell H5 b9 (o10 + (Int.toNat n3)) = some (.int .i64 n11) ∧ (
 (0 : Int) ≤ n3 ∧ (n3 : Int) < (x0l : Int) ∧ ∃ b12 o13 : Nat, x0 = some (⟨b12, o13, none⟩ : Addr) ∧ (
 Cells H5 b12 (o13 + (Int.toNat n3)) 1 ∧ ∀ H14 : Heap, Puts H5 b12 (o13 + (Int.toNat n3)) [(.int .i64 n8)] H14 → (
 ((0 : Int) ≤ n4 ∧ (n4 : Int) < (x0l : Int) ∧ ∃ b15 o16 : Nat, x0 = some (⟨b15, o16, none⟩ : Addr) ∧ (
 Cells H14 b15 (o16 + (Int.toNat n4)) 1 ∧ ∀ H17 : Heap, Puts H14 b15 (o16 + (Int.toNat n4)) [(.int .i64 n11)] H17 → (
 ((In64 (n3 + 1)) ∧
 (In64 (n4 - 1)) ∧
 (I1 (n3 + 1) (n4 - 1) H17) ∧ μ2 (n3 + 1) (n4 - 1) H17 < μ2 n3 n4 H5)))))))))))) ∧ (¬ ((n3 : Int) < n4) → (
 R (.tuple #[]) H5))))) := by kernel_rfl


/-- pentimento/graph.Ancestors -/
theorem vc_ancestors (x0 : Option Addr) (x0l : Nat) (x0c : Nat) (x1 : Int) (H : Heap) (R : Value → Heap → Prop) : Walk Tryz.prog 287 [] [(.slice x0 x0l x0c), (.int .i64 x1)] H R = (
 ∀ r1 : Nat, ∀ H2 : Heap, NewMap H r1 H2 → (
 ∀ b3 : Nat, ∀ H4 : Heap, New H2 b3 [(.int .i64 x1)] 3 H4 → (
 ∃ I5 : Option Addr → Nat → Nat → Option Addr → Nat → Nat → Heap → Prop, ∃ μ6 : Option Addr → Nat → Nat → Option Addr → Nat → Nat → Heap → Nat, (I5 none 0 0 (some (⟨b3, 0, none⟩ : Addr)) 1 1 H4) ∧
 ∀ a7 : Option Addr, ∀ l8 : Nat, ∀ c9 : Nat, ∀ a10 : Option Addr, ∀ l11 : Nat, ∀ c12 : Nat, ∀ H13 : Heap, I5 a7 l8 c9 a10 l11 c12 H13 → (
 ((((0 : Int) < (l11 : Int)) → (
 (0 : Int) ≤ 0 ∧ (0 : Int) < (l11 : Int) ∧ ∃ b14 o15 : Nat, a10 = some (⟨b14, o15, none⟩ : Addr) ∧ (
 ∃ n16 : Int, hcell H13 b14 (o15 + (Int.toNat 0)) = some (.int .i64 n16) ∧ (
 Does Tryz.prog 128 [(.slice x0 x0l x0c), (.int .i64 n16)] H13 fun v17 H18 => ∃ n19 : Int, ∃ n20 : Int, ∃ n21 : Int, ∃ t22 : Bool, ∃ t23 : Bool, v17 = (.tuple #[(.agg #[(.int .i64 n19), (.int .i64 n20), (.int .i64 n21), (.bool t22)]), (.bool t23)]) ∧ (
 ∀ b24 : Nat, ∀ H25 : Heap, New H18 b24 [(.int .i64 0), (.int .i64 0), (.int .i64 0), (.bool false)] 122 H25 → (
 Cells H25 b24 0 4 ∧ ∀ H26 : Heap, Puts H25 b24 0 [(.int .i64 n19), (.int .i64 n20), (.int .i64 n21), (.bool t22)] H26 → (
 (0 : Int) ≤ 1 ∧ (1 : Int) ≤ (l11 : Int) ∧ ∀ a27 : Option Addr, a27 = (if c12 = (Int.toNat 1) then a10 else Option.map (fun x => Addr.add x ((Int.toNat 1) * 1)) a10) → (
 ((t23 = true → (
 ∃ n28 : Int, hcell H26 b24 0 = some (.int .i64 n28) ∧ (
 ∃ r29 : Nat, ∃ l30 : List (Int × Value), (some r1) = some r29 ∧ MapIs H26 r29 l30 ∧ ∃ t31 : Bool, (.bool t31) = mapGet l30 n28 (.bool false) ∧ (
 (((t31 = false) → (
 ∃ n32 : Int, hcell H26 b24 0 = some (.int .i64 n32) ∧ (
 ∃ r33 : Nat, ∃ l34 : List (Int × Value), (some r1) = some r33 ∧ MapIs H26 r33 l34 ∧ ∀ H35 : Heap, MapPut H26 r33 (mapSet l34 n32 (.bool true)) H35 → (
 ∃ n36 : Int, hcell H35 b24 0 = some (.int .i64 n36) ∧ (
 ∀ b37 : Nat, ∀ H38 : Heap, New H35 b37 [(.int .i64 n36)] 3 H38 → (
 ∃ old39 new40 : List Value, SRow H38 1 l8 (.slice a7 l8 c9) old39 ∧ SRow H38 1 1 (.slice (some (⟨b37, 0, none⟩ : Addr)) 1 1) new40 ∧ (∀ u ∈ new40, Value.oneCell' u = true) ∧ (l8 + 1) * 8 ≤ 140737488355328 ∧ (l8 + 1 ≤ c9 → roomOf H38 a7 (l8 * 1) (1 * 1)) ∧ ∀ a41 : Option Addr, ∀ c42 : Nat, ∀ H43 : Heap, App H38 1 3 [(.int .i64 0)] a7 l8 c9 old39 new40 1 a41 c42 H43 → (
 ∃ n44 : Int, hcell H43 b24 (0 + 1) = some (.int .i64 n44) ∧ (
 ∃ n45 : Int, hcell H43 b24 (0 + 2) = some (.int .i64 n45) ∧ (
 ∀ b46 : Nat, ∀ H47 : Heap, New H43 b46 [(.int .i64 n44), (.int .i64 n45)] 3 H47 → (
 ∃ old48 new49 : List Value, SRow H47 1 (l11 - (Int.toNat 1)) (.slice a27 (l11 - (Int.toNat 1)) (c12 - (Int.toNat 1))) old48 ∧ SRow H47 1 2 (.slice (some (⟨b46, 0, none⟩ : Addr)) 2 2) new49 ∧ (∀ u ∈ new49, Value.oneCell' u = true) ∧ ((l11 - (Int.toNat 1)) + 2) * 8 ≤ 140737488355328 ∧ ((l11 - (Int.toNat 1)) + 2 ≤ (c12 - (Int.toNat 1)) → roomOf H47 a27 ((l11 - (Int.toNat 1)) * 1) (2 * 1)) ∧ ∀ a50 : Option Addr, ∀ c51 : Nat, ∀ H52 : Heap, App H47 1 3 [(.int .i64 0)] a27 (l11 - (Int.toNat 1)) (c12 - (Int.toNat 1)) old48 new49 2 a50 c51 H52 → (
 (I5 a41 (l8 + 1) c42 a50 ((l11 - (Int.toNat 1)) + 2) c51 H52) ∧ μ6 a41 (l8 + 1) c42 a50 ((l11 - (Int.toNat 1)) + 2) c51 H52 < μ6 a7 l8 c9 a10 l11 c12 H13))))))))))) ∧ (¬ (t31 = false) → (
 (I5 a7 l8 c9 a27 (l11 - (Int.toNat 1)) (c12 - (Int.toNat 1)) H26) ∧ μ6 a7 l8 c9 a27 (l11 - (Int.toNat 1)) (c12 - (Int.toNat 1)) H26 < μ6 a7 l8 c9 a10 l11 c12 H13))))))) ∧ (t23 = false → (
 (I5 a7 l8 c9 a27 (l11 - (Int.toNat 1)) (c12 - (Int.toNat 1)) H26) ∧ μ6 a7 l8 c9 a27 (l11 - (Int.toNat 1)) (c12 - (Int.toNat 1)) H26 < μ6 a7 l8 c9 a10 l11 c12 H13))))))))))) ∧ (¬ ((0 : Int) < (l11 : Int)) → (
 Does Tryz.prog 186 [(.slice a7 l8 c9)] H13 fun v53 H54 => v53 = (.tuple #[]) ∧ (
 R (.slice a7 l8 c9) H54)))))))) := by kernel_rfl


/-- slices.Index[[]int,int] -/
theorem vc_index (x0 : Option Addr) (x0l : Nat) (x0c : Nat) (x1 : Int) (H : Heap) (R : Value → Heap → Prop) : Walk Tryz.prog 349 [] [(.slice x0 x0l x0c), (.int .i64 x1)] H R = (
 ∃ I1 : Int → Heap → Prop, ∃ μ2 : Int → Heap → Nat, (I1 0 H) ∧
 ∀ n3 : Int, ∀ H4 : Heap, I1 n3 H4 → (
 ((((n3 : Int) < (x0l : Int)) → (
 (0 : Int) ≤ n3 ∧ (n3 : Int) < (x0l : Int) ∧ ∃ b5 o6 : Nat, x0 = some (⟨b5, o6, none⟩ : Addr) ∧ (
 ∃ n7 : Int, hcell H4 b5 (o6 + (Int.toNat n3)) = some (.int .i64 n7) ∧ (
 ((((x1 : Int) = n7) → (
 R (.int .i64 n3) H4)) ∧ (¬ ((x1 : Int) = n7) → (
 (In64 (n3 + 1)) ∧
 (I1 (n3 + 1) H4) ∧ μ2 (n3 + 1) H4 < μ2 n3 H4))))))) ∧ (¬ ((n3 : Int) < (x0l : Int)) → (
 R (.int .i64 (-1)) H4))))) := by kernel_rfl


/-- slices.Contains[[]int,int] -/
theorem vc_contains (x0 : Option Addr) (x0l : Nat) (x0c : Nat) (x1 : Int) (H : Heap) (R : Value → Heap → Prop) : Walk Tryz.prog 290 [] [(.slice x0 x0l x0c), (.int .i64 x1)] H R = (
 Does Tryz.prog 349 [(.slice x0 x0l x0c), (.int .i64 x1)] H fun v1 H2 => ∃ n3 : Int, v1 = (.int .i64 n3) ∧ (
 R (.bool (@decide ((0 : Int) ≤ n3) (Classical.propDecidable _))) H2)) := by kernel_rfl


/-- slices.Clone[[]pentimento/graph.Layer,pentimento/graph.Layer] -/
theorem vc_clonel (x0 : Option Addr) (x0l : Nat) (x0c : Nat) (H : Heap) (R : Value → Heap → Prop) : Walk Tryz.prog 126 [] [(.slice x0 x0l x0c)] H R = (
 ((((x0 : Option Addr) = none) → (
 R (.slice none 0 0) H)) ∧ (¬ ((x0 : Option Addr) = none) → (
 ∀ b1 : Nat, ∀ H2 : Heap, New H b1 [] 122 H2 → (
 ∃ old3 new4 : List Value, SRow H2 4 0 (.slice (some (⟨b1, 0, none⟩ : Addr)) 0 0) old3 ∧ SRow H2 4 x0l (.slice x0 x0l x0c) new4 ∧ (∀ u ∈ new4, Value.oneCell' u = true) ∧ (0 + x0l) * 32 ≤ 140737488355328 ∧ (0 + x0l ≤ 0 → roomOf H2 (some (⟨b1, 0, none⟩ : Addr)) (0 * 4) (x0l * 4)) ∧ ∀ a5 : Option Addr, ∀ c6 : Nat, ∀ H7 : Heap, App H2 4 122 [(.int .i64 0), (.int .i64 0), (.int .i64 0), (.bool false)] (some (⟨b1, 0, none⟩ : Addr)) 0 0 old3 new4 x0l a5 c6 H7 → (
 R (.slice a5 (0 + x0l) c6) H7)))))) := by kernel_rfl


/-- (*pentimento/room.Room).Layers -/
theorem vc_layers (pb0 : Nat) (H : Heap) (R : Value → Heap → Prop) : Walk Tryz.prog 175 [] [(.pointer (some (⟨pb0, 0, none⟩ : Addr)))] H R = (
 ∃ b1 o2 : Nat, (some (⟨pb0, 0, none⟩ : Addr)) = some (⟨b1, o2, none⟩ : Addr) ∧ (
 ∃ a3 : Option Addr, ∃ l4 : Nat, ∃ c5 : Nat, hcell H b1 (o2 + 1) = some (.slice a3 l4 c5) ∧ (
 Does Tryz.prog 126 [(.slice a3 l4 c5)] H fun v6 H7 => ∃ a8 : Option Addr, ∃ l9 : Nat, ∃ c10 : Nat, v6 = (.slice a8 l9 c10) ∧ (
 R (.slice a8 l9 c10) H7)))) := by kernel_rfl


end Go.Proofs
end

section
open Go Go.Vc
namespace Go.Proofs


/-- A layer of a graph. -/
structure Ly where
  id : Int
  par : Int
  sec : Int
  fr : Bool

def Ly.cells (x : Ly) : List Value := [.int .i64 x.id, .int .i64 x.par, .int .i64 x.sec, .bool x.fr]
def Ly.v (x : Ly) : Value := .agg #[.int .i64 x.id, .int .i64 x.par, .int .i64 x.sec, .bool x.fr]
def Ly.zero : Ly := ⟨0, 0, 0, false⟩
def rowsOf (L : List Ly) : List Value := (L.map Ly.cells).flatten

def find (L : List Ly) (id : Int) : Option Ly := match L with
  | [] => none
  | x :: r => if x.id = id then some x else find r id

theorem find_some {L : List Ly} {id : Int} {x : Ly} (h : find L id = some x) : x.id = id ∧ x ∈ L := by
  induction L with
  | nil => cases h
  | cons y r ih =>
    simp only [find] at h
    split at h
    · simp only [Option.some.injEq] at h; subst h; exact ⟨‹_›, by simp⟩
    · obtain ⟨h1, h2⟩ := ih h; exact ⟨h1, by simp [h2]⟩

theorem find_at {L : List Ly} {id : Int} : ∀ {i : Nat} {x : Ly}, L[i]? = some x → x.id = id → (∀ j y, j < i → L[j]? = some y → y.id ≠ id) → find L id = some x := by
  induction L with
  | nil => intro i x h; simp at h
  | cons y r ih =>
    intro i x h hx hn
    cases i with
    | zero => simp at h; subst h; simp [find, hx]
    | succ i =>
      have h0 := hn 0 y (by omega) rfl
      simp only [find, if_neg h0]
      exact ih (by simpa using h) hx (fun j z hj hz => hn (j + 1) z (by omega) (by simpa using hz))

theorem find_none {L : List Ly} {id : Int} : find L id = none ↔ ∀ x ∈ L, x.id ≠ id := by
  induction L with
  | nil => simp [find]
  | cons y r ih =>
    simp only [find]
    split
    · simp; exact fun h => absurd ‹y.id = id› h
    · rw [ih]; simp [*]

/-- A row of layers. -/
def LRow (H : Heap) (a : Option Addr) (L : List Ly) : Prop := SRow H 4 L.length (.slice a L.length L.length) (rowsOf L)

theorem cells_len (L : List Ly) : ∀ r ∈ L.map Ly.cells, r.length = 4 := by
  intro r hr
  obtain ⟨x, _, rfl⟩ := List.mem_map.1 hr
  rfl

theorem rowsOf_length (L : List Ly) : (rowsOf L).length = L.length * 4 := by
  unfold rowsOf
  rw [flatten_len (cells_len L)]; simp

theorem rowsOf_at {L : List Ly} {i : Nat} {x : Ly} (h : L[i]? = some x) {j : Nat} (hj : j < 4) : (rowsOf L)[i * 4 + j]? = x.cells[j]? :=
  flatten_at (cells_len L) (by simp [h]) hj

theorem LRow.at {H : Heap} {a : Option Addr} {L : List Ly} (h : LRow H a L) {i : Nat} {x : Ly} (hi : L[i]? = some x) :
    ∃ b o, a = some ⟨b, o, none⟩ ∧ hcell H b (o + i * 4) = some (.int .i64 x.id) ∧ hcell H b (o + i * 4 + 1) = some (.int .i64 x.par) ∧ hcell H b (o + i * 4 + 1 + 1) = some (.int .i64 x.sec) ∧ hcell H b (o + i * 4 + 1 + 1 + 1) = some (.bool x.fr) := by
  obtain ⟨b, o, rfl, h0⟩ := SRow.at h (j := i * 4 + 0) (u := .int .i64 x.id) (by rw [rowsOf_at hi (by decide)]; rfl)
  have get : ∀ j u, j < 4 → x.cells[j]? = some u → hcell H b (o + (i * 4 + j)) = some u := by
    intro j u hj hu
    obtain ⟨b', o', e, h1⟩ := SRow.at h (j := i * 4 + j) (u := u) (by rw [rowsOf_at hi hj]; exact hu)
    simp only [Option.some.injEq, Addr.mk.injEq] at e
    obtain ⟨rfl, rfl, _⟩ := e
    exact h1
  refine ⟨b, o, rfl, ?_, ?_, ?_, ?_⟩
  · have := get 0 _ (by decide) rfl; exact this
  · have := get 1 _ (by decide) rfl; exact this
  · have := get 2 _ (by decide) rfl; exact this
  · have := get 3 _ (by decide) rfl; exact this

theorem LRow.ext {M : List Nat} {H H' : Heap} {a : Option Addr} {L : List Ly} (h : LRow H a L) (he : Ext M H H') (hm : ∀ k, k ∈ blkOf a → k ∉ M) : LRow H' a L := SRow.ext h he hm

/-! ### Find -/
theorem findcl_ok (x : Ly) (id : Int) {b : Nat} {H : Heap} (hb : hcell H b 0 = some (.int .i64 id)) : Does Tryz.prog 202 [x.v, .pointer (some ⟨b, 0, none⟩)] H fun v H' => v = .bool (decide (x.id = id)) ∧ Ext [] H H' := by
  refine Fn_of_vc Tryz.mixed (vc_findcl _ _ _ _ _ _ _) ?_
  intro b1 H2 hn
  refine ⟨x.id, by rw [hn.blk.cell]; rfl, id, hcell_ext hb hn.ext (by simp), ?_, hn.ext⟩
  exact congrArg _ (dec_eq Iff.rfl)

theorem indexfunc_ok {L : List Ly} {a : Option Addr} {c : Nat} {id : Int} {b : Nat} {H : Heap} (hl : L.length ≤ 1000000) (h : LRow H a L) (hb : hcell H b 0 = some (.int .i64 id)) :
    Does Tryz.prog 201 [.slice a L.length c, .func (.func 202) #[] #[.pointer (some ⟨b, 0, none⟩)]] H fun v H' =>
      ((∃ (i : Nat) (x : Ly), L[i]? = some x ∧ find L id = some x ∧ x.id = id ∧ v = .int .i64 i) ∨ (find L id = none ∧ v = .int .i64 (-1))) ∧ Ext [] H H' := by
  refine Fn_of_vc Tryz.mixed (vc_indexfunc _ _ _ _ _ _) ?_
  refine ⟨fun i H' => Ext [] H H' ∧ ∃ j : Nat, i = j ∧ j ≤ L.length ∧ ∀ k y, k < j → L[k]? = some y → y.id ≠ id, fun i _ => L.length - i.toNat, ⟨Ext.refl _ _, 0, rfl, by omega, by omega⟩, ?_⟩
  rintro _ H4 ⟨hx, j, rfl, hj, hall⟩
  refine ⟨fun hlt => ⟨by omega, hlt, ?_⟩, fun hlt => ⟨.inr ⟨?_, rfl⟩, hx⟩⟩
  · have hi : L[j]? = some L[j] := List.getElem?_eq_getElem (by omega)
    obtain ⟨b', o, rfl, c0, c1, c2, c3⟩ := (h.ext hx (by simp)).at hi
    refine ⟨b', o, rfl, _, by rw [Int.toNat_natCast]; exact c0, _, by rw [Int.toNat_natCast]; exact c1, _, by rw [Int.toNat_natCast]; exact c2, _, by rw [Int.toNat_natCast]; exact c3, (findcl_ok L[j] id (hcell_ext hb hx (by simp))).mono ?_⟩
    rintro _ H12 ⟨rfl, hx12⟩
    refine ⟨_, rfl, fun e => ⟨.inl ⟨j, _, hi, find_at hi (by simpa using e) hall, by simpa using e, rfl⟩, hx.trans hx12⟩, fun e => ⟨⟨by omega, by omega⟩, ⟨hx.trans hx12, j + 1, by omega, by omega, ?_⟩, by simp only []; omega⟩⟩
    intro k y hk hy
    rcases Nat.lt_or_ge k j with h' | h'
    · exact hall k y h' hy
    · have : k = j := by omega
      subst this
      rw [hi] at hy
      simp only [Option.some.injEq] at hy
      subst hy
      simpa using e
  · rw [find_none]
    intro y hy
    obtain ⟨k, hk, rfl⟩ := List.mem_iff_getElem.1 hy
    exact hall k _ (by omega) (List.getElem?_eq_getElem hk)

def getL (L : List Ly) (id : Int) : Ly := (find L id).getD Ly.zero

theorem find_ok {L : List Ly} {a : Option Addr} {c : Nat} (id : Int) {H : Heap} (hl : L.length ≤ 1000000) (h : LRow H a L) :
    Does Tryz.prog 128 [.slice a L.length c, .int .i64 id] H fun v H' => v = .tuple #[(getL L id).v, .bool (find L id).isSome] ∧ Ext [] H H' := by
  refine Fn_of_vc Tryz.mixed (vc_find _ _ _ _ _ _) ?_
  intro b1 H2 hn1 b3 H4 hn3
  have hx4 := hn1.ext.trans hn3.ext
  refine (indexfunc_ok (id := id) (b := b1) hl (h.ext hx4 (by simp)) (by rw [(hn1.blk.ext hn3.ext (by simp)).cell]; rfl)).mono ?_
  rintro _ H6 ⟨hv, hx6⟩
  have hb3 := hn3.blk.ext hx6 (by simp)
  have last : ∀ H', Ext [b3] H6 H' → Ext [] H H' := fun H' he => (hx4.trans hx6).trans' he (by
    intro i hi; simp only [List.mem_singleton] at hi; have := hn3.eq; have := hn1.size; omega)
  rcases hv with ⟨i, x, hi, hf, _, rfl⟩ | ⟨hf, rfl⟩
  · have hlt : i < L.length := (List.getElem?_eq_some_iff.1 hi).1
    refine ⟨_, rfl, fun e => absurd e (by omega), fun _ => ⟨by omega, by omega, ?_⟩⟩
    obtain ⟨b, o, rfl, c0, c1, c2, c3⟩ := (h.ext (hx4.trans hx6) (by simp)).at hi
    refine ⟨b, o, rfl, _, by rw [Int.toNat_natCast]; exact c0, _, by rw [Int.toNat_natCast]; exact c1, _, by rw [Int.toNat_natCast]; exact c2, _, by rw [Int.toNat_natCast]; exact c3, hb3.cells _ _ (by simp), fun H19 hp => ?_⟩
    have hb := hp.blk hb3 (by simp)
    refine ⟨x.id, by rw [hb.cell]; rfl, x.par, by rw [hb.cell]; rfl, x.sec, by rw [hb.cell]; rfl, x.fr, by rw [hb.cell]; rfl, ?_, last _ hp.ext⟩
    simp [getL, hf, Ly.v]
  · refine ⟨_, rfl, fun _ => ⟨hb3.cells _ _ (by simp), fun H8 hp => ?_⟩, fun e => absurd (by omega) e⟩
    have hb := hp.blk hb3 (by simp)
    refine ⟨0, by rw [hb.cell]; rfl, 0, by rw [hb.cell]; rfl, 0, by rw [hb.cell]; rfl, false, by rw [hb.cell]; rfl, ?_, last _ hp.ext⟩
    simp [getL, hf, Ly.v, Ly.zero]

end Go.Proofs
end

section
open Go Go.Vc
namespace Go.Proofs

theorem ints_one (zs : List Int) : ∀ u ∈ ints zs, Value.oneCell' u = true := by
  intro u hu
  obtain ⟨z, _, rfl⟩ := List.mem_map.1 hu
  rfl

/-- A row of ints that is only read. -/
def IRow (H : Heap) (a : Option Addr) (zs : List Int) : Prop := SRow H 1 zs.length (.slice a zs.length zs.length) (ints zs)
theorem IRow.ext {M : List Nat} {H H' : Heap} {a : Option Addr} {zs : List Int} (h : IRow H a zs) (he : Ext M H H') (hm : ∀ k, k ∈ blkOf a → k ∉ M) : IRow H' a zs := SRow.ext h he hm
theorem IRow.at {H : Heap} {a : Option Addr} {zs : List Int} (h : IRow H a zs) {i : Nat} {z : Int} (hi : zs[i]? = some z) : ∃ b o, a = some ⟨b, o, none⟩ ∧ hcell H b (o + i) = some (.int .i64 z) := SRow.at h (ints_at hi)
theorem Own.irow {H : Heap} {a : Option Addr} {n c : Nat} {zs : List Int} (h : Own H 1 a n c (ints zs)) : IRow H a zs ∧ zs.length = n := by
  have h1 : zs.length = n := by have := h.1; rw [ints_length] at this; omega
  refine ⟨?_, h1⟩
  have := h.row zs.length zs.length
  rw [← h1] at this
  exact this

theorem index_ok {zs : List Int} {a : Option Addr} {c : Nat} (z : Int) {H : Heap} (hl : zs.length ≤ 1000000) (h : IRow H a zs) :
    Does Tryz.prog 349 [.slice a zs.length c, .int .i64 z] H fun v H' => ((z ∈ zs ∧ ∃ i : Nat, v = .int .i64 i) ∨ (z ∉ zs ∧ v = .int .i64 (-1))) ∧ H' = H := by
  refine Fn_of_vc Tryz.mixed (vc_index _ _ _ _ _ _) ?_
  refine ⟨fun i H' => H' = H ∧ ∃ j : Nat, i = j ∧ j ≤ zs.length ∧ ∀ (k : Nat) (y : Int), k < j → zs[k]? = some y → y ≠ z, fun i _ => zs.length - i.toNat, ⟨rfl, 0, rfl, by omega, by omega⟩, ?_⟩
  rintro _ H4 ⟨e, j, rfl, hj, hall⟩
  obtain rfl : H = H4 := e.symm
  refine ⟨fun hlt => ⟨by omega, hlt, ?_⟩, fun hlt => ⟨.inr ⟨?_, rfl⟩, rfl⟩⟩
  · have hi : zs[j]? = some zs[j] := List.getElem?_eq_getElem (by omega)
    obtain ⟨b, o, rfl, hc⟩ := h.at hi
    refine ⟨b, o, rfl, _, by rw [Int.toNat_natCast]; exact hc, fun e => ⟨.inl ⟨by rw [e]; exact List.getElem_mem _, j, rfl⟩, rfl⟩, fun e => ⟨⟨by omega, by omega⟩, ⟨rfl, j + 1, by omega, by omega, ?_⟩, by simp only []; omega⟩⟩
    intro k y hk hy
    rcases Nat.lt_or_ge k j with h' | h'
    · exact hall k y h' hy
    · have : k = j := by omega
      subst this
      rw [hi] at hy
      simp only [Option.some.injEq] at hy
      subst hy
      exact fun h => e h.symm
  · intro hm
    obtain ⟨k, hk, rfl⟩ := List.mem_iff_getElem.1 hm
    exact hall k _ (by omega) (List.getElem?_eq_getElem hk) rfl

theorem contains_ok {zs : List Int} {a : Option Addr} {c : Nat} (z : Int) {H : Heap} (hl : zs.length ≤ 1000000) (h : IRow H a zs) :
    Does Tryz.prog 290 [.slice a zs.length c, .int .i64 z] H fun v H' => v = .bool (decide (z ∈ zs)) ∧ H' = H := by
  refine Fn_of_vc Tryz.mixed (vc_contains _ _ _ _ _ _) ?_
  refine (index_ok z hl h).mono ?_
  rintro v H' ⟨hv, rfl⟩
  rcases hv with ⟨hm, i, rfl⟩ | ⟨hm, rfl⟩
  · exact ⟨_, rfl, congrArg _ (by rw [Bool.eq_iff_iff]; simp [hm]), rfl⟩
  · exact ⟨_, rfl, congrArg _ (by rw [Bool.eq_iff_iff]; simp [hm]), rfl⟩

end Go.Proofs
end

section
open Go Go.Vc
namespace Go.Proofs

/-! ### A slice of one's own that stands wherever it does in its block -/
theorem OwnO.tail {H : Heap} {a : Option Addr} {n c : Nat} {x : Value} {xs : List Value} (h : OwnO H a n c (x :: xs)) : OwnO H (if c = 1 then a else Option.map (fun x => Addr.add x (1 * 1)) a) (n - 1) (c - 1) xs := by
  obtain ⟨h1, h2, ⟨rfl, rfl⟩ | ⟨b, o, cs, rfl, hb, h3, h4⟩⟩ := h
  · simp at h1; omega
  · simp only [List.length_cons] at h1
    have hlen : ((cs.drop o).take n).length = n := by rw [h4]; simpa using h1
    refine ⟨by omega, by omega, .inr ?_⟩
    by_cases hc : c = 1
    · rw [if_pos hc]
      refine ⟨b, o, cs, rfl, hb, by omega, ?_⟩
      have : n = 1 := by omega
      subst this
      have : xs = [] := by simpa using h1
      rw [this]; rfl
    · rw [if_neg hc]
      refine ⟨b, o + 1, cs, rfl, hb, by omega, ?_⟩
      have : (cs.drop o).take n = x :: xs := h4
      have hd : cs.drop (o + 1) = (cs.drop o).drop 1 := by rw [List.drop_drop]
      rw [hd]
      obtain ⟨m, rfl⟩ : ∃ m, n = m + 1 := ⟨n - 1, by omega⟩
      cases hcs : cs.drop o with
      | nil => rw [hcs] at this; simp at this
      | cons y ys =>
        rw [hcs] at this
        simp only [List.take_succ_cons, List.cons.injEq] at this
        simpa using this.2

theorem App.ownO {H H' : Heap} {e : TypeId} {z : List Value} {a : Option Addr} {n c : Nat} {old news xs : List Value} {k : Nat} {a' : Option Addr} {c' : Nat} (h : App H 1 e z a n c old news k a' c' H') (ho : OwnO H a n c xs)
    (hro : SRow H 1 n (.slice a n c) old) (hn : news.length = k) (hz : z.length = 1) : OwnO H' a' (n + k) c' (xs ++ news) ∧ Ext (blkOf a) H H' ∧ (∀ j ∈ blkOf a', j ∈ blkOf a ∨ H.size ≤ j) := by
  have hxs : old = xs := by
    have h2 := ho.row n c
    apply List.ext_getElem?
    intro j
    have e1 : old.length = xs.length := by rw [hro.1, h2.1]
    by_cases hj : j < xs.length
    · obtain ⟨_, h3⟩ := hro
      obtain ⟨_, h4⟩ := h2
      cases a with
      | none => simp only at h3 h4; rw [h3, h4]
      | some ad =>
        have h5 := h3.2 j _ (List.getElem?_eq_getElem (by omega))
        have h6 := h4.2 j _ (List.getElem?_eq_getElem hj)
        rw [h6] at h5
        rw [List.getElem?_eq_getElem (by omega), List.getElem?_eq_getElem hj]
        exact h5.symm
    · rw [List.getElem?_eq_none (by omega), List.getElem?_eq_none (by omega)]
  subst hxs
  obtain ⟨o1, o2, o4⟩ := ho
  rcases h with ⟨hle, rfl, rfl, hH⟩ | ⟨hlt, rfl, hge, hm, rfl⟩
  · rcases o4 with ⟨rfl, rfl⟩ | ⟨b, o, cs, rfl, hb, h3, h4⟩
    · simp only at hH
      subst hH
      have e2 : news = [] := by have : k = 0 := by omega
                                subst this; simpa using hn
      subst e2
      have e0 : n = 0 := by omega
      have e1 : k = 0 := by simpa using hn.symm
      subst e0; subst e1
      have e3 : old = [] := by simpa using o1
      subst e3
      exact ⟨⟨rfl, by omega, .inl ⟨rfl, rfl⟩⟩, Ext.refl _ _, fun j hj => .inl hj⟩
    · simp only at hH
      subst hH
      have hb' := hsets_blk news (o + n * 1) H _ hb (by omega)
      refine ⟨⟨by simp [o1, hn], hle, .inr ⟨b, o, _, rfl, hb', ?_, ?_⟩⟩, (hsets_ext news _).1, fun j hj => .inl hj⟩
      · rw [splice_length _ _ _ (by omega)]; exact h3
      · unfold splice
        rw [Nat.mul_one, List.append_assoc, List.drop_append_of_le_length (by rw [List.length_take]; omega), List.drop_take, show o + n - o = n by omega, h4, ← List.append_assoc, List.take_append_of_le_length (by simp; omega), List.take_of_length_le (by simp; omega)]
  · have hblk : Blk (H.push (.cells (old ++ news ++ (List.replicate (c' - (n + k)) z).flatten).toArray e)) H.size (old ++ news ++ (List.replicate (c' - (n + k)) z).flatten) := ⟨e, by simp⟩
    refine ⟨⟨by simp [o1, hn], hge, .inr ⟨H.size, 0, _, rfl, hblk, ?_, ?_⟩⟩, ⟨by simp, fun j hj _ => by rw [Array.getElem?_push, if_neg (by omega)]⟩, fun j hj => .inr (by
      simp only [blkOf, List.mem_singleton] at hj; omega)⟩
    · have : (List.replicate (c' - (n + k)) z).flatten.length = c' - (n + k) := by simp [hz]
      rw [List.length_append, List.length_append, this, o1, hn]; omega
    · rw [List.drop_zero, List.take_append_of_le_length (by simp; omega), List.take_of_length_le (by simp; omega)]

/-! ### Ancestors -/
def bfs (L : List Ly) : Nat → List Int → List Int → List Int
  | 0, _, out => out
  | _ + 1, [], out => out
  | k + 1, t :: r, out => match find L t with
    | none => bfs L k r out
    | some x => if x.id ∈ out then bfs L k r out else bfs L k (r ++ [x.par, x.sec]) (out ++ [x.id])
def ancU (L : List Ly) (id : Int) : List Int := bfs L (2 * L.length + 1) [id] []
def anc (L : List Ly) (id : Int) : List Int := sorted (ancU L id)

theorem bfs_nil (L : List Ly) (k : Nat) (out : List Int) : bfs L k [] out = out := by cases k <;> rfl

theorem nodup_le : ∀ (ids out : List Int), out.Nodup → (∀ k ∈ out, k ∈ ids) → out.length ≤ ids.length
  | [], out, _, h => by
    cases out with
    | nil => simp
    | cons x r => exact absurd (h x (by simp)) (by simp)
  | x :: ids, out, hn, h => by
    by_cases hx : x ∈ out
    · have h1 := nodup_le ids (out.erase x) (hn.erase x) (fun k hk => by
        rw [hn.mem_erase_iff] at hk
        rcases List.mem_cons.1 (h k hk.2) with e | e
        · exact absurd e hk.1
        · exact e)
      rw [List.length_erase_of_mem hx] at h1
      have : 0 < out.length := List.length_pos_of_mem hx
      simp only [List.length_cons]; omega
    · have h1 := nodup_le ids out hn (fun k hk => by
        rcases List.mem_cons.1 (h k hk) with e | e
        · subst e; exact absurd hk hx
        · exact e)
      simp only [List.length_cons]; omega

def Marks (H : Heap) (r : Nat) (out : List Int) : Prop := ∃ l, MapIs H r l ∧ ∀ k, mapGet l k (.bool false) = .bool (decide (k ∈ out))

theorem Marks.ext {M : List Nat} {H H' : Heap} {r : Nat} {out : List Int} (h : Marks H r out) (he : Ext M H H') (hm : r ∉ M) : Marks H' r out := by
  obtain ⟨l, h1, h2⟩ := h
  exact ⟨l, MapIs.ext h1 he hm, h2⟩

theorem mapGet_set (l : List (Int × Value)) (k j : Int) (v z : Value) : mapGet (mapSet l k v) j z = if j = k then v else mapGet l j z := by
  induction l with
  | nil =>
    simp only [mapSet, mapGet]
    by_cases h : j = k
    · rw [if_pos h, if_pos h.symm]
    · rw [if_neg h, if_neg (fun e => h e.symm)]
  | cons p r ih =>
    simp only [mapSet]
    by_cases hp : p.1 = k
    · rw [if_pos hp]
      simp only [mapGet]
      by_cases h : j = k
      · rw [if_pos h, if_pos h.symm]
      · rw [if_neg h, if_neg (fun e => h e.symm), if_neg (fun e => h (by rw [← e, hp]))]
    · rw [if_neg hp]
      simp only [mapGet, ih]
      by_cases h : j = k
      · rw [if_pos h, if_neg (fun e => hp (by rw [e, h])), if_pos h]
      · rw [if_neg h, if_neg h]

theorem not_blk_map {H : Heap} {b r : Nat} {cs : List Value} {out : List Int} (hb : Blk H b cs) (hm : Marks H r out) : b ≠ r := by
  rintro rfl
  obtain ⟨e, h1⟩ := hb
  obtain ⟨l, ⟨es, c, h2, _⟩, _⟩ := hm
  rw [h1] at h2
  cases h2
end Go.Proofs
end

section
open Go Go.Vc
namespace Go.Proofs

theorem marks_new {H H' : Heap} {r : Nat} (h : NewMap H r H') : Marks H' r [] := by
  obtain ⟨rfl, rfl⟩ := h
  exact ⟨[], ⟨#[], 0, by simp, rfl, MapKept.stamped_empty _⟩, fun k => by simp [mapGet]⟩

/-- What is put off within what was not there at the start. -/
theorem ext_new {A B C : Heap} {M : List Nat} (h : Ext [] A B) (k : Ext M B C) (hm : ∀ i ∈ M, A.size ≤ i) : Ext [] A C := h.trans' k (fun i hi => .inl (hm i hi))

theorem none_of {o : Option Ly} (h : o.isSome = false) : o = none := by
  cases o with
  | none => rfl
  | some x => cases h

set_option maxHeartbeats 1000000 in
theorem ancestors_ok {L : List Ly} {a : Option Addr} {c : Nat} (id : Int) {H : Heap} (hl : L.length ≤ 100000) (h : LRow H a L) :
    Does Tryz.prog 287 [.slice a L.length c, .int .i64 id] H fun v H' => ∃ a' c', v = .slice a' (anc L id).length c' ∧ Own H' 1 a' (anc L id).length c' (ints (anc L id)) ∧ (anc L id).length ≤ L.length ∧ Ext [] H H' ∧ ∀ k ∈ blkOf a', H.size ≤ k := by
  have hl' : L.length ≤ 1000000 := by omega
  refine Fn_of_vc Tryz.mixed (vc_ancestors _ _ _ _ _ _) ?_
  intro r1 H2 hm b3 H4 hn3
  have hr1 : r1 = H.size := hm.1
  have hs2 : H2.size = H.size + 1 := by rw [hm.2]; simp
  have hb3 : b3 = H2.size := hn3.eq
  refine ⟨fun a7 n7 c7 a10 n10 c10 H' => ∃ out todo, Own H' 1 a7 n7 c7 (ints out) ∧ OwnO H' a10 n10 c10 (ints todo) ∧ Marks H' r1 out ∧ out.Nodup ∧ (∀ k ∈ out, k ∈ L.map Ly.id) ∧
      ancU L id = bfs L (2 * L.length + n10 - 2 * n7) todo out ∧ n10 ≤ 2 * n7 + 1 ∧ (∀ k ∈ blkOf a7, H.size ≤ k ∧ k ∉ blkOf a10) ∧ (∀ k ∈ blkOf a10, H.size ≤ k) ∧ Ext [] H H', fun _ n7 _ _ n10 _ _ => 2 * L.length + n10 - 2 * n7, ?_, ?_⟩
  · refine ⟨[], [id], Own.nil _ _, ⟨rfl, by decide, .inr ⟨b3, 0, _, rfl, hn3.blk, by simp, rfl⟩⟩, (marks_new hm).ext hn3.ext (by simp), by simp, by simp, rfl, by decide, by simp [blkOf], ?_, hm.ext.trans hn3.ext⟩
    intro k hk
    simp only [blkOf, List.mem_singleton] at hk
    omega
  rintro a7 n7 c7 a10 n10 c10 H13 ⟨out, todo, ho, ht, hmk, hnd, hsub, hbfs, hle, hd7, hd10, hx⟩
  have hout : out.length = n7 := (Own.irow ho).2
  have htd : todo.length = n10 := by have := ht.1; rw [ints_length] at this; exact this
  have hol : n7 ≤ L.length := by
    have := nodup_le (L.map Ly.id) out hnd hsub
    rw [List.length_map] at this
    omega
  have hr13 : r1 < H13.size := by
    obtain ⟨l, ⟨es, cl, e1, _⟩, _⟩ := hmk
    exact (Array.getElem?_eq_some_iff.1 e1).1
  refine ⟨fun hpos => ?_, fun hpos => ?_⟩
  · obtain ⟨t, rest, rfl⟩ : ∃ t rest, todo = t :: rest := by
      cases todo with
      | nil => simp at htd; omega
      | cons t rest => exact ⟨t, rest, rfl⟩
    simp only [List.length_cons] at htd
    have hrow := ht.row n10 c10
    obtain ⟨b14, o15, rfl, h16⟩ := SRow.at hrow (j := 0) (u := .int .i64 t) rfl
    refine ⟨by omega, hpos, b14, o15, rfl, t, h16, (find_ok t hl' (h.ext hx (by simp))).mono ?_⟩
    rintro _ H18 ⟨rfl, hx18⟩
    refine ⟨_, _, _, _, _, rfl, fun b24 H25 hn24 => ⟨hn24.blk.cells _ _ (by simp), fun H26 hp26 => ⟨by omega, by omega, ?_⟩⟩⟩
    have hb24 := hp26.blk hn24.blk (by simp)
    have hsz18 := hx18.size
    have e24 := hn24.eq
    have s24 := hn24.size
    have hxs := hx.size
    have p26 : ∀ k, k < H13.size → k ∉ [b24] := fun k hk hm => by simp only [List.mem_singleton] at hm; omega
    have hx26 : Ext [] H13 H26 := (hx18.trans hn24.ext).trans' hp26.ext (fun i hi => by simp only [List.mem_singleton] at hi; left; omega)
    have ho26 := ho.ext hx26 (by simp)
    have ht26 := (OwnO.tail (x := .int .i64 t) (xs := ints rest) (by simpa [ints] using ht)).ext hx26 (by simp)
    have hmk26 := hmk.ext hx26 (by simp)
    have hX26 := hx.trans hx26
    intro a27 ha27
    have hb27 : ∀ k ∈ blkOf a27, k = b14 := by
      intro k hk
      rw [ha27] at hk
      by_cases e : c10 = Int.toNat 1
      · rw [if_pos e] at hk; simpa [blkOf] using hk
      · rw [if_neg e] at hk; simpa [blkOf, Addr.add_lit] using hk
    have ha27' : OwnO H26 a27 (n10 - 1) (c10 - 1) (ints rest) := by
      rw [ha27]; exact ht26
    have hk : 2 * L.length + n10 - 2 * n7 = (2 * L.length + (n10 - 1) - 2 * n7) + 1 := by omega
    have h14 : H.size ≤ b14 := hd10 b14 (by simp [blkOf])
    have d7 : ∀ k ∈ blkOf a7, H.size ≤ k ∧ k ∉ blkOf a27 := fun k hk => ⟨(hd7 k hk).1, fun hm => (hd7 k hk).2 (by rw [hb27 k hm]; simp [blkOf])⟩
    have d10 : ∀ k ∈ blkOf a27, H.size ≤ k := fun k hk => by rw [hb27 k hk]; exact h14
    have skip : (find L t = none ∨ ∃ x, find L t = some x ∧ x.id ∈ out) → ancU L id = bfs L (2 * L.length + (n10 - 1) - 2 * n7) rest out := by
      intro hs
      rw [hbfs, hk]
      simp only [bfs]
      rcases hs with hs | ⟨x, hs, hi⟩
      · rw [hs]
      · simp only [hs]; rw [if_pos hi]
    have stay : (find L t = none ∨ ∃ x, find L t = some x ∧ x.id ∈ out) → (∃ out todo, Own H26 1 a7 n7 c7 (ints out) ∧ OwnO H26 a27 (n10 - Int.toNat 1) (c10 - Int.toNat 1) (ints todo) ∧ Marks H26 r1 out ∧ out.Nodup ∧ (∀ k ∈ out, k ∈ L.map Ly.id) ∧
      ancU L id = bfs L (2 * L.length + (n10 - Int.toNat 1) - 2 * n7) todo out ∧ (n10 - Int.toNat 1) ≤ 2 * n7 + 1 ∧ (∀ k ∈ blkOf a7, H.size ≤ k ∧ k ∉ blkOf a27) ∧ (∀ k ∈ blkOf a27, H.size ≤ k) ∧ Ext [] H H26) ∧ 2 * L.length + (n10 - Int.toNat 1) - 2 * n7 < 2 * L.length + n10 - 2 * n7 := by
      intro hs
      exact ⟨⟨out, rest, ho26, ha27', hmk26, hnd, hsub, skip hs, by show n10 - 1 ≤ _; omega, d7, d10, hX26⟩, by show 2 * L.length + (n10 - 1) - 2 * n7 < _; omega⟩
    refine ⟨fun hs => ?_, fun hs => stay (.inl (none_of hs))⟩
    obtain ⟨x, hf⟩ := Option.isSome_iff_exists.1 hs
    have hg : getL L t = x := by simp [getL, hf]
    rw [hg] at hb24
    obtain ⟨l, hml, hlg⟩ := hmk26
    refine ⟨x.id, by rw [hb24.cell]; rfl, r1, l, rfl, hml, decide (x.id ∈ out), (hlg x.id).symm, fun hnew => ?_, fun hold => stay (.inr ⟨x, hf, by simpa using hold⟩)⟩
    have hnew' : x.id ∉ out := by simpa using hnew
    refine ⟨x.id, by rw [hb24.cell]; rfl, r1, l, rfl, hml, fun H35 hput => ?_⟩
    obtain ⟨hm35, hx35⟩ := MapPut.is hput (by have := hx26.size; omega)
    have nr : ∀ {b : Nat} {cs : List Value}, Blk H26 b cs → b ∉ [r1] := fun hb hm => by
      simp only [List.mem_singleton] at hm
      exact not_blk_map hb ⟨l, hml, hlg⟩ hm
    have nro : ∀ k ∈ blkOf a7, k ∉ [r1] := by
      intro k hk
      obtain ⟨_, _, _, ⟨rfl, _⟩ | ⟨b, tail, rfl, hb, _⟩⟩ := ho26
      · cases hk
      · simp only [blkOf, List.mem_singleton] at hk; subst hk; exact nr hb
    have nrt : ∀ k ∈ blkOf a27, k ∉ [r1] := by
      intro k hk
      obtain ⟨_, _, ⟨rfl, _⟩ | ⟨b, o, cs, rfl, hb, _⟩⟩ := ha27'
      · cases hk
      · simp only [blkOf, List.mem_singleton] at hk; subst hk; exact nr hb
    have hb35 := hb24.ext hx35 (nr hb24)
    have ho35 := ho26.ext hx35 nro
    have ht35 := ha27'.ext hx35 nrt
    have hmk35 : Marks H35 r1 (out ++ [x.id]) := ⟨_, hm35, fun k => by
      rw [mapGet_set, hlg]
      by_cases e : k = x.id
      · rw [if_pos e]; simp [e]
      · rw [if_neg e]; simp [e]⟩
    have hX35 : Ext [] H H35 := ext_new hX26 hx35 (fun i hi => by simp only [List.mem_singleton] at hi; omega)
    have b24lt : b24 < H35.size := hb35.lt
    have r1lt : r1 < H35.size := by have := hx35.size; have := hx26.size; omega
    refine ⟨x.id, by rw [hb35.cell]; rfl, fun b37 H38 hn37 => ?_⟩
    have e37 := hn37.eq
    have s37 := hn37.size
    have ho38 := ho35.ext hn37.ext (by simp)
    refine ⟨ints out, ints [x.id], ho38.row _ _, ⟨rfl, .inr rfl, fun j u hj => ?_⟩, ints_one _, by omega, fun hle => by simpa using ho38.room (n := 1) hle, ?_⟩
    · show hcell H38 b37 (0 + j) = some u
      rw [Nat.zero_add, hn37.blk.cell]
      exact hj
    intro a41 c42 H43 happ
    obtain ⟨ho43, hx43, hfr43⟩ := happ.own ho38 (ho38.row _ _) (by rw [ints_length]; rfl) rfl
    have lt7 := ho35.lt
    have lt27 := ht35.lt
    have hb43 : Blk H43 b24 x.cells := (hb35.ext hn37.ext (by simp)).ext hx43 (fun hm => by
      have h1 := ho.lt _ hm
      omega)
    have hmk43 := (hmk35.ext hn37.ext (by simp)).ext hx43 (fun hm => nro _ hm (by simp))
    have ht43 := (ht35.ext hn37.ext (by simp)).ext hx43 (fun k hk hm => (d7 k hm).2 hk)
    have hX43 : Ext [] H H43 := ext_new (hX35.trans hn37.ext) hx43 (fun i hi => (d7 i hi).1)
    have s43 := hx43.size
    refine ⟨x.par, by rw [hb43.cell]; rfl, x.sec, by rw [hb43.cell]; rfl, fun b46 H47 hn46 => ?_⟩
    have e46 := hn46.eq
    have s46 := hn46.size
    have ht47 := ht43.ext hn46.ext (by simp)
    refine ⟨ints rest, ints [x.par, x.sec], ht47.row _ _, ⟨rfl, .inr rfl, fun j u hj => ?_⟩, ints_one _, by show (n10 - 1 + 2) * 8 ≤ _; omega, fun hle => ht47.room (k := 2) hle, ?_⟩
    · show hcell H47 b46 (0 + j) = some u
      rw [Nat.zero_add, hn46.blk.cell]
      exact hj
    intro a50 c51 H52 happ2
    obtain ⟨ht52, hx52, hfr52⟩ := App.ownO happ2 ht47 (ht47.row _ _) (by rw [ints_length]; rfl) rfl
    have lt41 := ho43.lt
    have n41 : ∀ k ∈ blkOf a41, k ∉ blkOf a27 := by
      intro k hk hm
      rcases hfr43 k hk with h' | h'
      · exact (d7 k h').2 hm
      · have := lt27 k hm; omega
    have hmk52 := (hmk43.ext hn46.ext (by simp)).ext hx52 (fun hm => nrt _ hm (by simp))
    have ho52 := (ho43.ext hn46.ext (by simp)).ext hx52 n41
    have hidx : x.id ∈ L.map Ly.id := List.mem_map_of_mem (find_some hf).2
    have hnd2 : (out ++ [x.id]).Nodup := by
      rw [List.nodup_append]
      exact ⟨hnd, by simp, fun p hp q hq => by simp only [List.mem_singleton] at hq; subst hq; exact fun e => hnew' (e ▸ hp)⟩
    have hsub2 : ∀ k ∈ out ++ [x.id], k ∈ L.map Ly.id := by
      intro k hk
      rcases List.mem_append.1 hk with h' | h'
      · exact hsub k h'
      · simp only [List.mem_singleton] at h'; subst h'; exact hidx
    have hol2 : n7 + 1 ≤ L.length := by
      have := nodup_le (L.map Ly.id) _ hnd2 hsub2
      rw [List.length_map, List.length_append] at this
      simp only [List.length_singleton] at this
      omega
    refine ⟨⟨out ++ [x.id], rest ++ [x.par, x.sec], ?_, ?_, hmk52, hnd2, hsub2, ?_, ?_, ?_, ?_, ?_⟩, ?_⟩
    · have : ints (out ++ [x.id]) = ints out ++ ints [x.id] := by simp [ints]
      rw [this]; exact ho52
    · have : ints (rest ++ [x.par, x.sec]) = ints rest ++ ints [x.par, x.sec] := by simp [ints]
      rw [this]; exact ht52
    · rw [hbfs, hk]
      simp only [bfs, hf]
      rw [if_neg hnew']
      congr 1
      show _ = 2 * L.length + (n10 - 1 + 2) - 2 * (n7 + 1)
      omega
    · show n10 - 1 + 2 ≤ _
      omega
    · intro k hk
      refine ⟨?_, fun hm => ?_⟩
      · rcases hfr43 k hk with h' | h'
        · exact (d7 k h').1
        · have := hX35.size; omega
      · rcases hfr52 k hm with h' | h'
        · exact n41 k hk h'
        · have := lt41 k hk; omega
    · intro k hk
      rcases hfr52 k hk with h' | h'
      · exact d10 k h'
      · have := hX43.size; omega
    · exact ext_new (hX43.trans hn46.ext) hx52 d10
    · show 2 * L.length + (n10 - 1 + 2) - 2 * (n7 + 1) < 2 * L.length + n10 - 2 * n7
      omega
  · have hn0 : n10 = 0 := by omega
    have ht0 : todo = [] := by
      cases todo with
      | nil => rfl
      | cons _ _ => simp at htd; omega
    have hfin : ancU L id = out := by rw [hbfs, ht0, bfs_nil]
    refine (sort_ok ho (by omega)).mono ?_
    rintro _ H54 ⟨rfl, ho54, hx54⟩
    have e1 : anc L id = sorted out := by unfold anc; rw [hfin]
    have e2 : (anc L id).length = n7 := by rw [e1]; simp [sorted, hout]
    refine ⟨rfl, a7, c7, by rw [e2], by rw [e2, e1]; exact ho54, by omega, ext_new hx hx54 (fun i hi => (hd7 i hi).1), fun k hk => (hd7 k hk).1⟩
end Go.Proofs
end

section
/-! Library functions of strings, and what a layer stands on, told. -/
open Go Go.Vc
namespace Go.Proofs
section
open Go.Shelf
def Tryz.lays106_ren : Go.Shelf.Ren := ⟨fun | 106 => 200 | 213 => 263 | 265 => 316 | n => n, fun | 9 => 9 | 3 => 3 | n => n, fun | n => n⟩
theorem Tryz.lays106 : Go.Proofs.Lays.n106 Tryz.prog Tryz.lays106_ren := {
  mixed := by kernel_rfl
  f106 := Tryz.func200.trans (congrArg some (by kernel_rfl))
  f213 := Tryz.func263.trans (congrArg some (by kernel_rfl))
  f265 := Tryz.func316.trans (congrArg some (by kernel_rfl))
  t3 := Tryz.underlying3
  a3 := Tryz.isAgg3
  z3 := Tryz.sizeOf3
  v3 := Tryz.zeroValue3
  t9 := Tryz.underlying9
  a9 := Tryz.isAgg9
  z9 := Tryz.sizeOf9
  v9 := Tryz.zeroValue9 }
def Tryz.lays137_ren : Go.Shelf.Ren := ⟨fun | 137 => 228 | 217 => 285 | 266 => 347 | n => n, fun | 9 => 9 | 5 => 5 | 3 => 3 | n => n, fun | n => n⟩
theorem Tryz.lays137 : Go.Proofs.Lays.n137 Tryz.prog Tryz.lays137_ren := {
  mixed := by kernel_rfl
  f137 := Tryz.func228.trans (congrArg some (by kernel_rfl))
  f217 := Tryz.func285.trans (congrArg some (by kernel_rfl))
  f266 := Tryz.func347.trans (congrArg some (by kernel_rfl))
  t3 := Tryz.underlying3
  a3 := Tryz.isAgg3
  z3 := Tryz.sizeOf3
  v3 := Tryz.zeroValue3
  t5 := Tryz.underlying5
  a5 := Tryz.isAgg5
  z5 := Tryz.sizeOf5
  v5 := Tryz.zeroValue5
  t9 := Tryz.underlying9
  a9 := Tryz.isAgg9
  z9 := Tryz.sizeOf9
  v9 := Tryz.zeroValue9 }
end
section
open Go.RowKit
theorem strings_Compare (a b : ByteArray) (w : World) :
    Calls Tryz.prog 200 #[.string a, .string b] w fun e w' => e = .returned (.int .i64 (Lib.compareBytes a.data.toList b.data.toList)) ∧ w' = w := Any.strings_Compare Tryz.lays106 a b w
theorem strings_IndexByte (s : ByteArray) (c : Int) (w : World) :
    Calls Tryz.prog 228 #[.string s, .int .u8 c] w fun e w' => e = .returned (.int .i64 (Lib.indexByte s.data.toList c.toNat.toUInt8)) ∧ w' = w := Any.strings_IndexByte Tryz.lays137 s c w
end
end Go.Proofs
namespace Go.Ex
open Go Go.Vc Go.Proofs
noncomputable def o_ixb : OF := fun l H n k =>
  sList no (fun a r => sList no (fun b r2 => sList (sStr (fun m w => sInt (fun j c => bi (keq j .u8) (bi (Nat.ble m 1000) (fI (fun z => k (.int .i64 z) H n) (Go.Lib.indexByte (byteL m w) c.toNat.toUInt8)) no) no) b) a) (fun _ _ => no) r2) r) l
noncomputable def o_cmp : OF := fun l H n k =>
  sList no (fun a r => sList no (fun b r2 => sList (sStr (fun m v => sStr (fun m' w => bi (an (Nat.ble m 1000) (Nat.ble m' 1000)) (fI (fun z => k (.int .i64 z) H n) (Go.Lib.compareBytes (byteL m v) (byteL m' w))) no) b) a) (fun _ _ => no) r2) r) l
section
variable {Ok : St → Prop} [Okay Ok]
/-- Two arguments. -/
theorem two_ok {f : CV → CV → St} {l : CV} (h : Ok (sList no (fun a r => sList no (fun b r2 => sList (f a b) (fun _ _ => no) r2) r) l)) : ∃ a b, l = .cons a (.cons b .nil) ∧ Ok (f a b) := by
  rcases sList_ok h with ⟨_, h⟩ | ⟨a, r, e0, h1⟩
  · exact no_ok h
  rcases sList_ok (x := r) h1 with ⟨_, h⟩ | ⟨b, r2, e1, h2⟩
  · exact no_ok h
  rcases sList_ok (x := r2) h2 with ⟨e2, h⟩ | ⟨_, _, _, h⟩
  · exact ⟨a, b, by rw [e0, e1, e2], h⟩
  · exact no_ok h
theorem o_ixb_ok {ng : Nat} {l : CV} {cH : He} {n : Nat} {k : EK} (h : Ok (o_ixb l cH n k)) : ∃ cv cH' n', Ok (k cv cH' n') ∧
    ∀ E Pr H vs, (∀ g, g < ng → ∃ q, E g = some (g, q)) → LR E l vs → Rel E Pr n cH H → ∀ X, DoesX Tryz.prog 228 vs H (fun v H' => ∃ E', E.le E' ∧ Rel E' Pr n' cH' H' ∧ VR E' cv v) X := by
  obtain ⟨a, b, rfl, h1⟩ := two_ok h
  clear h
  obtain ⟨m, w, rfl, h2⟩ := sStr_ok h1
  clear h1
  obtain ⟨j, c, rfl, h3⟩ := sInt_ok h2
  clear h2
  obtain ⟨hj, h4⟩ := bi_ok h3
  obtain ⟨_, h5⟩ := bi_ok h4
  clear h3 h4
  rw [fI_eq] at h5
  have hj := keq_eq hj
  subst hj
  refine ⟨_, _, _, h5, ?_⟩
  rintro E Pr H vs _ ⟨x, r1, hx, ⟨y, r2, hy, hr2, rfl⟩, rfl⟩ hr X
  have hr2 : r2 = [] := hr2
  subst hr2
  have hx : x = .string (strV m w) := hx
  have hy : y = .int .u8 c := hy
  subst hx; subst hy
  refine Does.x ?_
  intro W hW
  refine (strings_IndexByte (strV m w) c W).mono ?_
  rintro e W' ⟨rfl, rfl⟩
  exact ⟨_, rfl, Sim.refl _, E, En.le.refl E, by rw [hW]; exact hr, by rw [strV_list]; rfl⟩
theorem o_cmp_ok {ng : Nat} {l : CV} {cH : He} {n : Nat} {k : EK} (h : Ok (o_cmp l cH n k)) : ∃ cv cH' n', Ok (k cv cH' n') ∧
    ∀ E Pr H vs, (∀ g, g < ng → ∃ q, E g = some (g, q)) → LR E l vs → Rel E Pr n cH H → ∀ X, DoesX Tryz.prog 200 vs H (fun v H' => ∃ E', E.le E' ∧ Rel E' Pr n' cH' H' ∧ VR E' cv v) X := by
  obtain ⟨a, b, rfl, h1⟩ := two_ok h
  clear h
  obtain ⟨m, v, rfl, h2⟩ := sStr_ok h1
  clear h1
  obtain ⟨m', w, rfl, h3⟩ := sStr_ok h2
  clear h2
  obtain ⟨_, h5⟩ := bi_ok h3
  clear h3
  rw [fI_eq] at h5
  refine ⟨_, _, _, h5, ?_⟩
  rintro E Pr H vs _ ⟨x, r1, hx, ⟨y, r2, hy, hr2, rfl⟩, rfl⟩ hr X
  have hr2 : r2 = [] := hr2
  subst hr2
  have hx : x = .string (strV m v) := hx
  have hy : y = .string (strV m' w) := hy
  subst hx; subst hy
  refine Does.x ?_
  intro W hW
  refine (strings_Compare (strV m v) (strV m' w) W).mono ?_
  rintro e W' ⟨rfl, rfl⟩
  exact ⟨_, rfl, Sim.refl _, E, En.le.refl E, by rw [hW]; exact hr, by rw [strV_list, strV_list]; rfl⟩
end
end Go.Ex
end

section
/-! What a layer stands on, told. -/
namespace Go.Ex
open Go Go.Vc Go.Proofs
noncomputable def onCt (x : Bk) (f : Nat → T CV → St) : St := match x with
  | .cells _ N t => f N t
  | _ => no
noncomputable def lyOf (o : Nat) (t : T CV) : Option Ly := match tg o t, tg (Nat.add o 1) t, tg (Nat.add o 2) t, tg (Nat.add o 3) t with
  | .int .i64 a, .int .i64 b, .int .i64 c, .bool d => some ⟨a, b, c, d⟩
  | _, _, _, _ => none
noncomputable def lysOf (t : T CV) : Nat → Nat → Option (List Ly)
  | 0, _ => some []
  | n + 1, o => match lyOf o t, lysOf t n (Nat.add o 4) with
    | some x, some l => some (x :: l)
    | _, _ => none
noncomputable def onLys (x : Option (List Ly)) (f : List Ly → St) : St := match x with
  | some l => f l
  | none => no
theorem lyOf_eq {o : Nat} {t : T CV} {x : Ly} (h : lyOf o t = some x) : tg o t = .int .i64 x.id ∧ tg (o + 1) t = .int .i64 x.par ∧ tg (o + 2) t = .int .i64 x.sec ∧ tg (o + 3) t = .bool x.fr := by
  unfold lyOf at h
  split at h
  · rename_i a b c d h1 h2 h3 h4
    cases h
    exact ⟨h1, h2, h3, h4⟩
  · cases h
theorem lysOf_get {t : T CV} : ∀ {n o : Nat} {l : List Ly}, lysOf t n o = some l → l.length = n ∧ ∀ i x, l[i]? = some x → lyOf (o + i * 4) t = some x
  | 0, o, l, h => by
    cases h
    exact ⟨rfl, fun i x hx => by simp at hx⟩
  | n + 1, o, l, h => by
    unfold lysOf at h
    split at h
    · rename_i x r h1 h2
      cases h
      obtain ⟨g1, g2⟩ := lysOf_get h2
      refine ⟨by simp [g1], fun i y hy => ?_⟩
      cases i with
      | zero => simp at hy; subst hy; simpa using h1
      | succ i =>
        have := g2 i y (by simpa using hy)
        rw [show o + (i + 1) * 4 = Nat.add o 4 + i * 4 from by show _ = o + 4 + i * 4; omega]
        exact this
    · cases h
section
variable {Ok : St → Prop} [Okay Ok] {E : En} {Pr : Prt} {n : Nat} {cH : He} {H : Heap}
theorem onCt_ok {x : Bk} {f : Nat → T CV → St} (h : Ok (onCt x f)) : ∃ m N t, x = .cells m N t ∧ Ok (f N t) := by
  unfold onCt at h
  split at h
  · exact ⟨_, _, _, rfl, h⟩
  · exact no_ok h
theorem onLys_ok {x : Option (List Ly)} {f : List Ly → St} (h : Ok (onLys x f)) : ∃ l, x = some l ∧ Ok (f l) := by
  unfold onLys at h
  split at h
  · exact ⟨_, rfl, h⟩
  · exact no_ok h
/-- The layers as they stand. -/
theorem Rel.lys (hr : Rel E Pr n cH H) {d r q m N o L : Nat} {t : T CV} {ls : List Ly} (hd : hg d cH = .cells m N t) (hE : E d = some (r, q)) (hN : o + 4 * L ≤ N) (hl : lysOf t L o = some ls) : ls.length = L ∧ LRow H (some ⟨r, o, none⟩) ls := by
  obtain ⟨g1, g2⟩ := lysOf_get hl
  refine ⟨g1, rowsOf_length ls, .inr rfl, fun j u hj => ?_⟩
  have hlt : j < (rowsOf ls).length := (List.getElem?_eq_some_iff.1 hj).1
  rw [rowsOf_length, g1] at hlt
  obtain ⟨i, k, rfl, hk⟩ : ∃ i k, j = i * 4 + k ∧ k < 4 := ⟨j / 4, j % 4, by omega, by omega⟩
  have hi : i < ls.length := by omega
  have hx : ls[i]? = some ls[i] := List.getElem?_eq_getElem hi
  rw [rowsOf_at hx hk] at hj
  obtain ⟨e0, e1, e2, e3⟩ := lyOf_eq (g2 i _ hx)
  have cell : ∀ p, p < N → ∃ v, hcell H r p = some v ∧ VR E (tg p t) v := fun p hp => hr.cellI hd hp hE
  show hcell H r (o + (i * 4 + k)) = some u
  obtain ⟨v, h1, h2⟩ := cell (o + i * 4 + k) (by omega)
  rw [show o + (i * 4 + k) = o + i * 4 + k by omega, h1]
  rcases (show k = 0 ∨ k = 1 ∨ k = 2 ∨ k = 3 by omega) with rfl | rfl | rfl | rfl
  · rw [Nat.add_zero, e0] at h2
    have h2 : v = .int .i64 ls[i].id := h2
    simp [Ly.cells] at hj
    rw [h2, ← hj]
  · rw [e1] at h2
    have h2 : v = .int .i64 ls[i].par := h2
    simp [Ly.cells] at hj
    rw [h2, ← hj]
  · rw [e2] at h2
    have h2 : v = .int .i64 ls[i].sec := h2
    simp [Ly.cells] at hj
    rw [h2, ← hj]
  · rw [e3] at h2
    have h2 : v = .bool ls[i].fr := h2
    simp [Ly.cells] at hj
    rw [h2, ← hj]
end
noncomputable def ancB (ks : List Int) (H : He) (n : Nat) (k : EK) : St :=
  bi (incr ks && Nat.blt 0 ks.length && Nat.blt ks.length 1000000) (newB (.cells 3 ks.length (mkT (intsC ks))) H n fun H' n' => k (.slu n 0 0 ks.length) H' n') no
noncomputable def o_anc : OF := fun l H n k =>
  sList no (fun v r => sList no (fun b r2 => sList (onSlc v fun d o L => sInt (fun j id => bi (keq j .i64) (onCt (hg d H) fun N t => bi (Nat.ble (Nat.add o (Nat.mul 4 L)) N && Nat.ble L 1000) (onLys (lysOf t L o) fun ls => ancB (isort (ancU ls id)) H n k) no) no) b) (fun _ _ => no) r2) r) l
theorem insI_perm (a : Int) : ∀ l : List Int, (insI a l).Perm (a :: l)
  | [] => List.Perm.refl _
  | b :: l => by
    unfold insI
    split
    · exact List.Perm.refl _
    · exact ((insI_perm a l).cons b).trans (List.Perm.swap a b l)
theorem isort_perm : ∀ l : List Int, (isort l).Perm l
  | [] => List.Perm.refl _
  | a :: l => (insI_perm a _).trans ((isort_perm l).cons a)
theorem sorted_isort {l : List Int} (hi : incr (isort l) = true) : sorted l = isort l := by
  have hp : (isort l).Pairwise (· < ·) := incr_pw hi
  have hn : (isort l).Perm l := isort_perm l
  refine List.Perm.eq_of_pairwise (le := fun a b : Int => a ≤ b) (fun a b _ _ h1 h2 => by omega) ?_ (hp.imp fun h => by omega) ((List.mergeSort_perm _ _).trans hn.symm)
  have := List.pairwise_mergeSort (le := fun x y : Int => decide (x ≤ y)) (fun a b c h1 h2 => by simp at *; omega) (fun a b => by simp; omega) l
  exact this.imp fun h => by simpa using h
theorem o_anc_ok {Ok : St → Prop} [Okay Ok] {ng : Nat} {l : CV} {cH : He} {n : Nat} {k : EK} (h : Ok (o_anc l cH n k)) : ∃ cv cH' n', Ok (k cv cH' n') ∧
    ∀ E Pr H vs, (∀ g, g < ng → ∃ q, E g = some (g, q)) → LR E l vs → Rel E Pr n cH H → ∀ X, DoesX Tryz.prog 287 vs H (fun v H' => ∃ E', E.le E' ∧ Rel E' Pr n' cH' H' ∧ VR E' cv v) X := by
  obtain ⟨a, b, rfl, h1⟩ := two_ok h
  clear h
  obtain ⟨d, o, L, h2, hv⟩ := onSlc_ok h1
  clear h1
  obtain ⟨j, id, rfl, h3⟩ := sInt_ok h2
  clear h2
  obtain ⟨hj, h4⟩ := bi_ok h3
  clear h3
  have hj := keq_eq hj
  subst hj
  obtain ⟨m, N, t, hd, h5⟩ := onCt_ok h4
  clear h4
  obtain ⟨c1, h6⟩ := bi_ok h5
  clear h5
  rw [Bool.and_eq_true] at c1
  have c2 : o + 4 * L ≤ N := Nat.le_of_ble_eq_true c1.1
  have c3 : L ≤ 1000 := Nat.le_of_ble_eq_true c1.2
  obtain ⟨ls, hls, h7⟩ := onLys_ok h6
  clear h6
  unfold ancB at h7
  obtain ⟨c4, h8⟩ := bi_ok h7
  clear h7
  simp only [Bool.and_eq_true] at c4
  obtain ⟨⟨c5, c6⟩, c7⟩ := c4
  obtain ⟨hn, cH', h9, h10, h11⟩ := newB_ok h8
  refine ⟨_, cH', n + 1, h9, ?_⟩
  rintro E Pr H vs _ ⟨x, r1, hx, ⟨y, r2, hy, hr2, rfl⟩, rfl⟩ hr X
  have hr2 : r2 = [] := hr2
  subst hr2
  have hy : y = .int .i64 id := hy
  subst hy
  obtain ⟨r, q, C, hE, rfl, hC⟩ := hv E x hx
  obtain ⟨hlen, hrow⟩ := hr.lys hd hE c2 hls
  have := ancestors_ok (c := C) id (by omega) hrow
  rw [hlen] at this
  have hso : anc ls id = isort (ancU ls id) := sorted_isort c5
  refine (Does.x this).mono ?_ fun _ _ h => h
  rintro v H' ⟨a', c', rfl, ⟨o1, o2, o3, o4⟩, _, he, hbl⟩
  rw [hso] at o1 o4
  rcases o4 with ⟨rfl, rfl⟩ | ⟨b', tail, rfl, ⟨e', o5⟩, o6⟩
  · exfalso
    rw [hso] at o2
    have : 0 < (isort (ancU ls id)).length := by simpa using c6
    omega
  · have hge : H.size ≤ b' := hbl b' (by simp [blkOf])
    have hlt := (Array.getElem?_eq_some_iff.1 o5).1
    rw [hso] at o2
    obtain ⟨z1, z2⟩ := hr.name he (q := c') hge hlt hn h10 h11 ⟨_, e', 0, 0, o5, by
        rw [List.size_toArray, List.length_append, ints_length]; omega, ⟨Nat.le_refl _, fun o _ => by omega⟩, fun _ => by rw [List.size_toArray]; omega, fun i hi => by
        have hi' : i < (ints (isort (ancU ls id))).length := by rw [ints_length]; exact hi
        refine ⟨(ints (isort (ancU ls id)))[i], ?_, mkT_get (intsC_ok (isort (ancU ls id))) i _ (List.getElem?_eq_getElem hi')⟩
        rw [List.getElem?_toArray, List.getElem?_append_left hi', List.getElem?_eq_getElem hi']⟩
    refine ⟨_, z2, z1, b', c', En.add_self _ _ _ _, ?_, by omega⟩
    rw [hso]; rfl
end Go.Ex
end

section
/-! Walks over maps that copy, told. -/
namespace Go.Ex
open Go Go.Vc Go.Proofs

noncomputable def wip (l : List Nat) : Sy → (Sy → St) → St := List.rec (motive := fun _ => Sy → (Sy → St) → St) (fun S k => k S) (fun t _ ih S k => ss t .u S fun S => ih S k) l
theorem wip_ok {Ok : St → Prop} [Okay Ok] : ∀ {l : List Nat} {S : Sy} {k : Sy → St}, Ok (wip l S k) → ∃ S', Ok (k S') ∧ ∀ t, t < 256 → (t ∈ l → sg t S' = .u) ∧ (t ∉ l → sg t S' = sg t S)
  | [], S, k, h => ⟨S, h, fun t _ => ⟨(fun h => by cases h), fun _ => rfl⟩⟩
  | x :: l, S, k, h => by
    have h : Ok (ss x .u S fun S => wip l S k) := h
    by_cases hx : x < 256
    · obtain ⟨S1, h1, h2, h3⟩ := ss_law x .u S hx
      rw [h1] at h
      obtain ⟨S', h4, h5⟩ := wip_ok h
      refine ⟨S', h4, fun t ht => ⟨fun hm => ?_, fun hm => ?_⟩⟩
      · by_cases hl : t ∈ l
        · exact (h5 t ht).1 hl
        · rcases List.mem_cons.1 hm with rfl | hm
          · rw [(h5 t ht).2 hl, h2]
          · exact absurd hm hl
      · simp only [List.mem_cons, not_or] at hm
        rw [(h5 t ht).2 hm.2, h3 t ht hm.1]
    · rw [ss_no x .u S _ hx] at h
      exact no_ok h
theorem get_filter' {ds : List Nat} {t : Nat} (hd : t ∉ ds) : ∀ {S : Sym}, Sym.get (S.filter fun x => !ds.contains x.1) t = S.get t
  | [] => rfl
  | (i, u) :: r => by
    rw [List.filter_cons]
    split
    · rw [get_cons, get_cons, get_filter' hd]
    · rename_i h
      rw [get_cons, if_neg, get_filter' hd]
      rintro rfl
      exact h (by simpa using hd)
/-- A row of code, told. -/
theorem row_sem {P : Program} {f r ng : Nat} {fn : Func} {c0 c : Code} {S0 : Sym} {V : Prop} {H : Heap} {Rp : Value → Heap → Prop} {aS : Sym} {S S' : Sy} {E : En} {Pr : Prt} {n' : Nat} {cH' : He} {X : HP} {K : Kont} {wl : List Nat}
    (hm : P.follows .mixedOrders = true) (e : PartS P f r S0 [] H Rp = V) (h : V) (hf : P.funcs[f]? = some fn) (hb : fn.body = some c0) (hc : findS r c0 = some c) (hw : ((dstsC c).all fun t => wl.contains t) = true)
    (hs : SR E ng S aS) (hS' : ∀ t, t < 256 → (t ∈ wl → sg t S' = .u) ∧ (t ∉ wl → sg t S' = sg t S)) (hS0 : ∀ a, Ag fn.ntmps aS a → Ag fn.ntmps S0 a)
    (hR : ∀ v H', Rp v H' → ∃ E', E.le E' ∧ Rel E' Pr n' cH' H') (hK : ∀ E' aS' H', E.le E' → SR E' ng S' aS' → Rel E' Pr n' cH' H' → K.norm aS' H') : Sem P X fn.ntmps c K aS H := by
  intro a w ha hwH
  refine wp_mono (partS_wp hm e h hf hb hc (S' := aS) ha (hS0 a ha) hwH) ?_
  rintro e a1 w1 ⟨rfl, hs1, vs, hl, hr1, ha1⟩
  obtain ⟨E', hle, hr'⟩ := hR _ _ hr1
  refine ⟨hs1, (List.range 256).map fun t => (t, .v (a1.tmps.getD t undef)), ⟨ha1.size, ha1.defers, fun t s ht => ?_⟩, hK E' _ _ hle ⟨fun t ht => ⟨.v (a1.tmps.getD t undef), by rw [get_tab, if_pos (by simpa using ht)], ?_⟩, (hs.mono hle).gl, by rw [get_tab, if_neg (by simp [wideKey])]⟩ hr'⟩
  · rw [get_tab] at ht
    split at ht
    · cases ht; rfl
    · cases ht
  · by_cases hd : t ∈ wl
    · rw [(hS' t ht).1 hd]; trivial
    · rw [(hS' t ht).2 hd]
      obtain ⟨s, h1, h2⟩ := hs.get t ht
      have hd' : t ∉ dstsC c := fun hx => by
        rw [List.all_eq_true] at hw
        exact hd (by simpa using hw t hx)
      have : Sym.get (newS [] vs (dstsC c) aS) t = some s := by
        unfold newS
        simp only [List.zip_nil_left, List.map_nil, List.nil_append]
        rw [get_filter' hd', h1]
      rw [show a1.tmps.getD t undef = s.toV from ha1.agree t s this]
      exact h2.mono hle

/-- What is known behind the walk. -/
def CpR (H : Heap) (rm2 : Nat) (l1 : List (Int × Value)) (H' : Heap) : Prop :=
  H.size + 1 = H'.size ∧ (∀ j, j < H.size → j ≠ rm2 → H'[j]? = H[j]?) ∧ ∃ l2, MapIs H' rm2 l2 ∧ (l2.map (·.1)).Nodup ∧ (∀ p ∈ l2, p ∈ l1) ∧ ∀ p ∈ l1, p.1 ∈ l2.map (·.1)
theorem cpy_loop {H : Heap} {rm1 rm2 : Nat} {l1 : List (Int × Value)} (hM2 : MapIs H rm2 []) (hlt2 : rm2 < H.size) (hrne : rm1 ≠ rm2) {r4 : Nat} {H5 : Heap} (hn : NewMIter H r4 rm1 l1 H5) :
    ∃ I : Heap → Prop, ∃ μ : Heap → Nat, I H5 ∧ ∀ H8, I H8 → ∃ done, MIter H8 r4 rm1 l1 done ∧
      (∀ k v H14, (k, v) ∈ l1 → k ∉ done → MStep H8 r4 rm1 l1 done k H14 → MIter H14 r4 rm1 l1 (done ++ [k]) ∧ (∀ j, j < H.size → j ≠ rm2 → H14[j]? = H[j]?) ∧ ∃ l2, MapIs H14 rm2 l2 ∧ ∀ H25, MapPut H14 rm2 (mapSet l2 k v) H25 → I H25 ∧ μ H25 < μ H8) ∧
      ((∀ p ∈ l1, p.1 ∈ done) → CpR H rm2 l1 H8) := by
  obtain ⟨rfl, hs5, hk5, hi5⟩ := hn
  have hM25 : MapIs H5 rm2 [] := by
    obtain ⟨es, clock, hx, hy⟩ := hM2
    exact ⟨es, clock, by rw [hk5 rm2 hlt2]; exact hx, hy⟩
  refine ⟨CpI H5 H.size rm1 rm2 l1, fun H => ((l1.map (·.1)).filter fun x => !(keysAt H rm2).contains x).length, ⟨[], [], rfl, fun _ _ _ => rfl, hi5, hM25, rfl, List.nodup_nil, fun p hp => (by cases hp)⟩, ?_⟩
  rintro H8 ⟨done, l2, hs8, hk8, hi8, hm8, hkeys, hnd, hsub⟩
  refine ⟨done, hi8, ?_, fun hall => ⟨by omega, fun j hj hne => by rw [hk8 j (by omega) hne, hk5 j hj], l2, hm8, by rw [hkeys]; exact hnd, hsub, fun p hp => by rw [hkeys]; exact hall p hp⟩⟩
  intro k12 v13 H14 hmem hnot hst
  obtain ⟨hs14, hk14, hi14⟩ := hst
  have hm14 : MapIs H14 rm2 l2 := by
    obtain ⟨es, clock, hx, hy⟩ := hm8
    exact ⟨es, clock, by rw [hk14 rm2 (by omega)]; exact hx, hy⟩
  refine ⟨hi14, fun j hj hne => by rw [hk14 j (by omega), hk8 j (by omega) hne, hk5 j hj], l2, hm14, fun H25 hp => ?_⟩
  have hkn : k12 ∉ l2.map (·.1) := by rw [hkeys]; exact hnot
  rw [mapSet_new hkn] at hp
  obtain ⟨hm25, hx25⟩ := Go.Proofs.MapPut.is hp (by rw [hs14, hs8]; omega)
  have hp' := hp
  obtain ⟨es, clock, _, rfl, _⟩ := hp'
  have hmu1 : keysAt H8 rm2 = done := by rw [keysAt_is hm8, hkeys]
  have hmu2 : keysAt (H14.setIfInBounds rm2 (.map es clock)) rm2 = done ++ [k12] := by rw [keysAt_is hm25, List.map_append, hkeys]; rfl
  refine ⟨⟨done ++ [k12], _, by simp [hs14, hs8], fun j hj1 hj2 => ?_, MIter.set hi14 (by omega) hrne, hm25, by rw [List.map_append, hkeys]; rfl, ?_, fun p hp => ?_⟩, ?_⟩
  · rw [Array.getElem?_setIfInBounds_ne (Ne.symm hj2), hk14 j hj1, hk8 j hj1 hj2]
  · rw [List.nodup_append]
    refine ⟨hnd, by simp, fun a ha b hb => ?_⟩
    simp only [List.mem_singleton] at hb
    subst hb
    rintro rfl
    exact hnot ha
  · rcases List.mem_append.1 hp with h | h
    · exact hsub p h
    · simp only [List.mem_singleton] at h
      subst h
      exact hmem
  · show List.length _ < List.length _
    simp only [hmu1, hmu2]
    exact filter_less (List.mem_map.2 ⟨_, hmem, rfl⟩) hnot
theorem cpy_rel {E : En} {Pr : Prt} {n : Nat} {cH cH2 : He} {H H' : Heap} {m2 rm2 qm2 : Nat} {l1 : CV} {l1' : List (Int × Value)} (hr : Rel E Pr n cH H) (hEm2 : E m2 = some (rm2, qm2)) (el2 : hg m2 cH = .map .nil) (e2 : hg m2 cH2 = .map l1)
    (o2 : ∀ b', b' < 65536 → b' ≠ m2 → hg b' cH2 = hg b' cH) (hR1 : MR E l1 l1') (h : CpR H rm2 l1' H') : Rel E Pr n cH2 H' := by
  obtain ⟨hsz, hkp, l2, hm, hnd, hsub, hall⟩ := h
  have hMR : MR E l1 l2 := by
    refine ⟨hnd, fun n => ?_⟩
    have := hR1.2 n
    split at this
    · rename_i cv hcv
      obtain ⟨v, h1, h2⟩ := this
      have := hall _ h1
      obtain ⟨p, hp, hpe⟩ := List.mem_map.1 this
      have := nodup_map_inj hR1.1 (hsub p hp) h1 hpe
      subst this
      exact ⟨v, hp, h2⟩
    · intro v hv
      exact this v (hsub _ hv)
  have hg := hr.garb (H'[H.size]'(by omega))
  refine hg.put hEm2 (by rw [el2]; trivial) e2 o2 (by simp; omega) (fun j hj => ?_) ⟨l2, hm, hMR⟩
  by_cases hj2 : j < H.size
  · rw [hkp j hj2 hj, Array.getElem?_push, if_neg (by omega)]
  · by_cases hj3 : j = H.size
    · subst hj3
      rw [Array.getElem?_eq_getElem (by omega), Array.getElem?_push, if_pos rfl]
    · rw [Array.getElem?_eq_none (by omega), Array.getElem?_eq_none (by simp; omega)]
end Go.Ex
end

section
open Go Go.Vc Go.Ex
namespace Go.Proofs
set_option maxRecDepth 100000
/-- (*pentimento/image.Image).save, region 2 -/
theorem Sv2 (p3 : Nat) (p7 : Nat) (H : Heap) (R : Value → Heap → Prop) : PartS Tryz.prog 55 2 [(3, .v (.pointer (some (⟨p3, 0, none⟩ : Addr)))), (7, .v (.pointer (some (⟨p7, 0, none⟩ : Addr))))] [] H R = (
  ∃ p1 : Option Addr, hcell H p3 0 = some (.pointer p1) ∧ (
    ∃ b2 o3 : Nat, p1 = some (⟨b2, o3, none⟩ : Addr) ∧ (
      ∃ m4 : Option Nat, hcell H b2 (o3 + 1) = some (.map m4) ∧ (
        ∃ m5 : Nat, ∃ l6 : List (Int × Value), m4 = some m5 ∧ MapIs H m5 l6 ∧ ∀ r7 : Nat, ∀ H8 : Heap, NewMIter H r7 m5 l6 H8 → (
          ∃ I9 : Heap → Prop, ∃ μ10 : Heap → Nat, (I9 H8) ∧
          ∀ H11 : Heap, I9 H11 → (
            ∃ m12 : Nat, ∃ l13 : List (Int × Value), ∃ done14 : List Int, MIter H11 r7 m12 l13 done14 ∧ (∀ k15 : Int, ∀ v16 : Value, ∀ H17 : Heap, (k15, v16) ∈ l13 → k15 ∉ done14 → MStep H11 r7 m12 l13 done14 k15 H17 → (
                ((true = true → (
                      ∃ m18 : Nat, ∃ l19 : List (Int × Value), ∃ done20 : List Int, ∃ k21 : Int, MIter H17 r7 m18 l19 (done20 ++ [k21]) ∧ ∃ n22 : Int, (k21, (.int .i64 n22)) ∈ l19 ∧ (
                        ∃ m23 : Option Nat, hcell H17 p7 0 = some (.map m23) ∧ (
                          ∃ r24 : Nat, ∃ l25 : List (Int × Value), m23 = some r24 ∧ MapIs H17 r24 l25 ∧ ∀ H26 : Heap, MapPut H17 r24 (mapSet l25 k21 (.int .i64 n22)) H26 → (
                            (I9 H26) ∧ μ10 H26 < μ10 H11))))) ∧ (true = false → (
                      R (.tuple #[]) H17))))) ∧ ((∀ p ∈ l13, p.1 ∈ done14) → (
                ((false = true → (
                      ∃ m27 : Nat, ∃ l28 : List (Int × Value), ∃ done29 : List Int, ∃ k30 : Int, MIter H11 r7 m27 l28 (done29 ++ [k30]) ∧ ∃ n31 : Int, (k30, (.int .i64 n31)) ∈ l28 ∧ (
                        ∃ m32 : Option Nat, hcell H11 p7 0 = some (.map m32) ∧ (
                          ∃ r33 : Nat, ∃ l34 : List (Int × Value), m32 = some r33 ∧ MapIs H11 r33 l34 ∧ ∀ H35 : Heap, MapPut H11 r33 (mapSet l34 k30 (.int .i64 n31)) H35 → (
                            (I9 H35) ∧ μ10 H35 < μ10 H11))))) ∧ (false = false → (
                      R (.tuple #[]) H11))))))))))) := by kernel_rfl


/-- (*pentimento/room.Room).Copy, region 2 -/
theorem Rc2 (p0 : Nat) (p3 : Nat) (H : Heap) (R : Value → Heap → Prop) : PartS Tryz.prog 60 2 [(0, .v (.pointer (some (⟨p0, 0, none⟩ : Addr)))), (3, .v (.pointer (some (⟨p3, 0, none⟩ : Addr))))] [] H R = (
  ∃ b1 o2 : Nat, (some (⟨p0, 0, none⟩ : Addr)) = some (⟨b1, o2, none⟩ : Addr) ∧ (
    ∃ m3 : Option Nat, hcell H b1 (o2 + 2) = some (.map m3) ∧ (
      ∃ m4 : Nat, ∃ l5 : List (Int × Value), m3 = some m4 ∧ MapIs H m4 l5 ∧ ∀ r6 : Nat, ∀ H7 : Heap, NewMIter H r6 m4 l5 H7 → (
        ∃ I8 : Heap → Prop, ∃ μ9 : Heap → Nat, (I8 H7) ∧
        ∀ H10 : Heap, I8 H10 → (
          ∃ m11 : Nat, ∃ l12 : List (Int × Value), ∃ done13 : List Int, MIter H10 r6 m11 l12 done13 ∧ (∀ k14 : Int, ∀ v15 : Value, ∀ H16 : Heap, (k14, v15) ∈ l12 → k14 ∉ done13 → MStep H10 r6 m11 l12 done13 k14 H16 → (
              ((true = true → (
                    ∃ m17 : Nat, ∃ l18 : List (Int × Value), ∃ done19 : List Int, ∃ k20 : Int, MIter H16 r6 m17 l18 (done19 ++ [k20]) ∧ ∃ a21 : Option Addr, ∃ l22 : Nat, ∃ c23 : Nat, (k20, (.slice a21 l22 c23)) ∈ l18 ∧ (
                      ∃ b24 o25 : Nat, (some (⟨p3, 0, none⟩ : Addr)) = some (⟨b24, o25, none⟩ : Addr) ∧ (
                        ∃ m26 : Option Nat, hcell H16 b24 (o25 + 2) = some (.map m26) ∧ (
                          ∃ r27 : Nat, ∃ l28 : List (Int × Value), m26 = some r27 ∧ MapIs H16 r27 l28 ∧ ∀ H29 : Heap, MapPut H16 r27 (mapSet l28 k20 (.slice a21 l22 c23)) H29 → (
                            (I8 H29) ∧ μ9 H29 < μ9 H10)))))) ∧ (true = false → (
                    R (.tuple #[]) H16))))) ∧ ((∀ p ∈ l12, p.1 ∈ done13) → (
              ((false = true → (
                    ∃ m30 : Nat, ∃ l31 : List (Int × Value), ∃ done32 : List Int, ∃ k33 : Int, MIter H10 r6 m30 l31 (done32 ++ [k33]) ∧ ∃ a34 : Option Addr, ∃ l35 : Nat, ∃ c36 : Nat, (k33, (.slice a34 l35 c36)) ∈ l31 ∧ (
                      ∃ b37 o38 : Nat, (some (⟨p3, 0, none⟩ : Addr)) = some (⟨b37, o38, none⟩ : Addr) ∧ (
                        ∃ m39 : Option Nat, hcell H10 b37 (o38 + 2) = some (.map m39) ∧ (
                          ∃ r40 : Nat, ∃ l41 : List (Int × Value), m39 = some r40 ∧ MapIs H10 r40 l41 ∧ ∀ H42 : Heap, MapPut H10 r40 (mapSet l41 k33 (.slice a34 l35 c36)) H42 → (
                            (I8 H42) ∧ μ9 H42 < μ9 H10)))))) ∧ (false = false → (
                    R (.tuple #[]) H10)))))))))) := by kernel_rfl


/-- As PartS; the slots that are asked for are carried through the loops. -/
def PartS2 (P : Program) (f r : Nat) (S : Sym) (outs : List Nat) (H : Heap) (R : Value → Heap → Prop) : Prop :=
  match P.funcs[f]? with
  | none => False
  | some fn => match fn.body with
    | none => False
    | some c => match findS r c with
      | none => False
      | some c => match compC P fn.ntmps [] [] c with
        | some sc => WP P (Does P) (fun _ _ => False) sc ⟨fun S H => retK (tmpsR outs) R S H, fun _ _ _ => False, fun _ _ => False⟩ S H
        | none => False
theorem partS2_wp {P : Program} {f r : Nat} {S : Sym} {outs : List Nat} {H : Heap} {R : Value → Heap → Prop} {V : Prop} {fn : Func} {c0 c : Code} (hm : P.follows .mixedOrders = true) (e : PartS2 P f r S outs H R = V) (h : V) (hf : P.funcs[f]? = some fn) (hb : fn.body = some c0) (hc : findS r c0 = some c) {a : Act} {w : World} {S' : Sym} (hx : Ag fn.ntmps S' a) (ha : Ag fn.ntmps S a) (hw : w.heap = H) :
    c.wp P (QP R outs (dstsC c) S' fn.ntmps w) a w := by
  rw [← e] at h
  unfold PartS2 at h
  rw [hf] at h
  simp only [hb, hc] at h
  split at h
  · rename_i sc hsc
    subst hw
    refine wp_mono (code_sound hm c sc hsc _ S a w ha h) ?_
    intro e a' w' hq
    cases e with
    | normal =>
      obtain ⟨h1, h2, S2, h3, h4⟩ := hq
      exact QP_of hx h3 h1 h2 h4
    | exit id => obtain ⟨_, _, _, _, h⟩ := hq; exact h.elim
    | ret => obtain ⟨_, _, _, _, h⟩ := hq; exact h.elim
    | panic ch => obtain ⟨_, _, _, _, h⟩ := hq; exact h.elim
    | goto l => exact hq.elim
    | outgrown => exact hq.elim
  · exact h.elim
/-- (*pentimento/image.Image).gone, region 1 -/
theorem Go1 (x3 : Option Nat) (p2 : Nat) (x8 : Option Addr) (x8l : Nat) (x8c : Nat) (H : Heap) (R : Value → Heap → Prop) : PartS2 Tryz.prog 174 1 [(3, .v (.map x3)), (2, .v (.pointer (some (⟨p2, 0, none⟩ : Addr)))), (8, .v (.slice x8 x8l x8c))] [8] H R = (
  ∃ m1 : Nat, ∃ l2 : List (Int × Value), x3 = some m1 ∧ MapIs H m1 l2 ∧ ∀ r3 : Nat, ∀ H4 : Heap, NewMIter H r3 m1 l2 H4 → (
    ∃ I5 : Option Addr → Nat → Nat → Heap → Prop, ∃ μ6 : Option Addr → Nat → Nat → Heap → Nat, (I5 x8 x8l x8c H4) ∧
    ∀ a7 : Option Addr, ∀ l8 : Nat, ∀ c9 : Nat, ∀ H10 : Heap, I5 a7 l8 c9 H10 → (
      ∃ m11 : Nat, ∃ l12 : List (Int × Value), ∃ done13 : List Int, MIter H10 r3 m11 l12 done13 ∧ (∀ k14 : Int, ∀ v15 : Value, ∀ H16 : Heap, (k14, v15) ∈ l12 → k14 ∉ done13 → MStep H10 r3 m11 l12 done13 k14 H16 → (
          ((true = true → (
                ∃ m17 : Nat, ∃ l18 : List (Int × Value), ∃ done19 : List Int, ∃ k20 : Int, MIter H16 r3 m17 l18 (done19 ++ [k20]) ∧ ∃ v21 : Value, (k20, v21) ∈ l18 ∧ (
                  Does Tryz.prog 175 [(.pointer (some (⟨p2, 0, none⟩ : Addr)))] H16 fun v22 H23 => ∃ a24 : Option Addr, ∃ l25 : Nat, ∃ c26 : Nat, v22 = (.slice a24 l25 c26) ∧ (
                    Does Tryz.prog 128 [(.slice a24 l25 c26), (.int .i64 k20)] H23 fun v27 H28 => ∃ n29 : Int, ∃ n30 : Int, ∃ n31 : Int, ∃ t32 : Bool, ∃ t33 : Bool, v27 = (.tuple #[(.agg #[(.int .i64 n29), (.int .i64 n30), (.int .i64 n31), (.bool t32)]), (.bool t33)]) ∧ (
                      ∀ b34 : Nat, ∀ H35 : Heap, New H28 b34 [(.int .i64 0), (.int .i64 0), (.int .i64 0), (.bool false)] 122 H35 → (
                        Cells H35 b34 0 4 ∧ ∀ H36 : Heap, Puts H35 b34 0 [(.int .i64 n29), (.int .i64 n30), (.int .i64 n31), (.bool t32)] H36 → (
                          (((t33 = false) → (
                                ∀ b37 : Nat, ∀ H38 : Heap, New H36 b37 [(.int .i64 k20)] 3 H38 → (
                                  ∃ old39 new40 : List Value, SRow H38 1 l8 (.slice a7 l8 c9) old39 ∧ SRow H38 1 1 (.slice (some (⟨b37, 0, none⟩ : Addr)) 1 1) new40 ∧ (∀ u ∈ new40, Value.oneCell' u = true) ∧ (l8 + 1) * 8 ≤ 140737488355328 ∧ (l8 + 1 ≤ c9 → roomOf H38 a7 (l8 * 1) (1 * 1)) ∧ ∀ a41 : Option Addr, ∀ c42 : Nat, ∀ H43 : Heap, App H38 1 3 [(.int .i64 0)] a7 l8 c9 old39 new40 1 a41 c42 H43 → (
                                    (I5 a41 (l8 + 1) c42 H43) ∧ μ6 a41 (l8 + 1) c42 H43 < μ6 a7 l8 c9 H10)))) ∧ (¬ (t33 = false) → (
                                (I5 a7 l8 c9 H36) ∧ μ6 a7 l8 c9 H36 < μ6 a7 l8 c9 H10)))))))))) ∧ (true = false → (
                R (.slice a7 l8 c9) H16))))) ∧ ((∀ p ∈ l12, p.1 ∈ done13) → (
          ((false = true → (
                ∃ m44 : Nat, ∃ l45 : List (Int × Value), ∃ done46 : List Int, ∃ k47 : Int, MIter H10 r3 m44 l45 (done46 ++ [k47]) ∧ ∃ v48 : Value, (k47, v48) ∈ l45 ∧ (
                  Does Tryz.prog 175 [(.pointer (some (⟨p2, 0, none⟩ : Addr)))] H10 fun v49 H50 => ∃ a51 : Option Addr, ∃ l52 : Nat, ∃ c53 : Nat, v49 = (.slice a51 l52 c53) ∧ (
                    Does Tryz.prog 128 [(.slice a51 l52 c53), (.int .i64 k47)] H50 fun v54 H55 => ∃ n56 : Int, ∃ n57 : Int, ∃ n58 : Int, ∃ t59 : Bool, ∃ t60 : Bool, v54 = (.tuple #[(.agg #[(.int .i64 n56), (.int .i64 n57), (.int .i64 n58), (.bool t59)]), (.bool t60)]) ∧ (
                      ∀ b61 : Nat, ∀ H62 : Heap, New H55 b61 [(.int .i64 0), (.int .i64 0), (.int .i64 0), (.bool false)] 122 H62 → (
                        Cells H62 b61 0 4 ∧ ∀ H63 : Heap, Puts H62 b61 0 [(.int .i64 n56), (.int .i64 n57), (.int .i64 n58), (.bool t59)] H63 → (
                          (((t60 = false) → (
                                ∀ b64 : Nat, ∀ H65 : Heap, New H63 b64 [(.int .i64 k47)] 3 H65 → (
                                  ∃ old66 new67 : List Value, SRow H65 1 l8 (.slice a7 l8 c9) old66 ∧ SRow H65 1 1 (.slice (some (⟨b64, 0, none⟩ : Addr)) 1 1) new67 ∧ (∀ u ∈ new67, Value.oneCell' u = true) ∧ (l8 + 1) * 8 ≤ 140737488355328 ∧ (l8 + 1 ≤ c9 → roomOf H65 a7 (l8 * 1) (1 * 1)) ∧ ∀ a68 : Option Addr, ∀ c69 : Nat, ∀ H70 : Heap, App H65 1 3 [(.int .i64 0)] a7 l8 c9 old66 new67 1 a68 c69 H70 → (
                                    (I5 a68 (l8 + 1) c69 H70) ∧ μ6 a68 (l8 + 1) c69 H70 < μ6 a7 l8 c9 H10)))) ∧ (¬ (t60 = false) → (
                                (I5 a7 l8 c9 H63) ∧ μ6 a7 l8 c9 H63 < μ6 a7 l8 c9 H10)))))))))) ∧ (false = false → (
                R (.slice a7 l8 c9) H10)))))))) := by kernel_rfl


end Go.Proofs
end

namespace Go.Ex
open Go Go.Vc Go.Proofs
noncomputable def onCA (i : Nat) (x : Bk) (f : CV → St) : St := match x with
  | .cells _ N t => bi (Nat.blt i N) (f (tg i t)) no
  | _ => no
noncomputable def onPA (v : CV) (f : Nat → Nat → St) : St := match v with
  | .ptr b o => f b o
  | _ => no
def isIC : CV → Bool
  | .int .i64 _ => true
  | _ => false
noncomputable def allIntC (l : CV) : Bool :=
  match ikeys l with
  | some ks => ks.all fun a => match lk l a with
    | some v => isIC v
    | none => false
  | none => false
section
variable {Ok : St → Prop} [Okay Ok]
theorem onCA_ok {i : Nat} {x : Bk} {f : CV → St} (h : Ok (onCA i x f)) : ∃ m N t, x = .cells m N t ∧ i < N ∧ Ok (f (tg i t)) := by
  unfold onCA at h
  split at h
  · obtain ⟨h1, h2⟩ := bi_ok h
    exact ⟨_, _, _, rfl, by simpa using h1, h2⟩
  · exact no_ok h
theorem onPA_ok {v : CV} {f : Nat → Nat → St} (h : Ok (onPA v f)) : ∃ b o, v = .ptr b o ∧ Ok (f b o) := by
  unfold onPA at h
  split at h
  · exact ⟨_, _, rfl, h⟩
  · exact no_ok h
end
theorem isIC_ok {E : En} {v : CV} {x : Value} (h : isIC v = true) (hv : VR E v x) : ∃ n, x = .int .i64 n := by
  unfold isIC at h
  split at h
  · exact ⟨_, hv⟩
  · cases h
theorem allIntC_ok {l : CV} (h : allIntC l = true) : ∀ n cv, lk l n = some cv → isIC cv = true := by
  unfold allIntC at h
  split at h
  · rename_i ks hk
    intro n cv e
    rw [List.all_eq_true] at h
    have := h n ((lk_ikeys hk n).1 ⟨cv, e⟩)
    rw [e] at this
    exact this
  · cases h
/-- What all values of a map are. -/
theorem MR.each {E : En} {l1 : CV} {l1' : List (Int × Value)} (hR : MR E l1 l1') {k : Int} {v : Value} (hm : (k, v) ∈ l1') : ∃ cv, lk l1 k = some cv ∧ VR E cv v := by
  have := hR.2 k
  split at this
  · rename_i cv hcv
    obtain ⟨u, h1, h2⟩ := this
    have := nodup_map_inj hR.1 h1 hm rfl
    cases this
    exact ⟨cv, hcv, h2⟩
  · exact absurd hm (this v)
def w20 : List Nat := [12, 13, 14, 15, 16, 17, 18, 19, 20, 21, 8, 9, 22, 23, 24]
noncomputable def o_sav : Sy → He → Nat → (Sy → He → Nat → St) → St := fun S H n k =>
  onP0 (sg 3 S) fun b3 => onC0 (hg b3 H) fun v => onPA v fun b o => onCA (o + 1) (hg b H) fun vm => onMap vm fun m1 => onP0 (sg 7 S) fun b7 => onC0 (hg b7 H) fun v2 => onMap v2 fun m2 =>
    onMB (hg m1 H) fun l1 => onMB0 (hg m2 H) (bi (allIntC l1 && !Nat.beq m1 m2) (hset m2 (.map l1) H fun H => wip w20 S fun S => k S H n) no)
def pR1 : Pa := .o (.i (.i .z))
noncomputable def c20T : Code := left (right (right (Tryz.f55.body.getD .skip)))
theorem c20_eq : codeAt Tryz.prog 55 pR1 = c20T := by kernel_rfl
theorem ntm20 : ntm Tryz.prog 55 = Tryz.f55.ntmps := by kernel_rfl
theorem o_sav_ok {Ok : St → Prop} [Okay Ok] {S : Sy} {cH : He} {n : Nat} {k : Sy → He → Nat → St} (h : Ok (o_sav S cH n k)) : ∃ S' cH' n', Ok (k S' cH' n') ∧
    ∀ E Pr aS H X K, SR E 0 S aS → Rel E Pr n cH H → (∀ E' aS' H', E.le E' → SR E' 0 S' aS' → Rel E' Pr n' cH' H' → K.norm aS' H') → Sem Tryz.prog X Tryz.f55.ntmps c20T K aS H := by
  unfold o_sav at h
  obtain ⟨b3, h, eS3⟩ := onP0_ok h
  obtain ⟨k3, N3, t3, eb3, hN3, h⟩ := onC0_ok h
  obtain ⟨b, o, ev3, h⟩ := onPA_ok h
  obtain ⟨k1, N1, t1, eb1, hN1, h⟩ := onCA_ok h
  obtain ⟨m1, em1, h⟩ := onMap_ok h
  obtain ⟨b7, h, eS7⟩ := onP0_ok h
  obtain ⟨k7, N7, t7, eb7, hN7, h⟩ := onC0_ok h
  obtain ⟨m2, em2, h⟩ := onMap_ok h
  obtain ⟨l1, el1, h⟩ := onMB_ok h
  obtain ⟨el2, h⟩ := onMB0_ok h
  obtain ⟨c1, h⟩ := bi_ok h
  rw [Bool.and_eq_true] at c1
  obtain ⟨hm2s, cH2, h, e2, o2⟩ := hset_ok h
  obtain ⟨S', h, hS'⟩ := wip_ok h
  refine ⟨S', cH2, n, h, ?_⟩
  clear h
  have hne12 : m1 ≠ m2 := fun e => by
    have := c1.2
    rw [e, Nat.beq_refl] at this
    cases this
  intro E Pr aS H X K hs hr hK
  obtain ⟨s3, g3, v3⟩ := hs.get 3 (by omega)
  obtain ⟨s7, g7, v7⟩ := hs.get 7 (by omega)
  rw [eS3] at v3
  rw [eS7] at v7
  obtain ⟨r3, q3, hE3, e3⟩ := v3
  obtain ⟨r7, q7, hE7, e7⟩ := v7
  obtain ⟨u3, hu3, hv3⟩ := hr.cellI eb3 (i := 0) hN3 hE3
  rw [ev3] at hv3
  obtain ⟨rb, qb, hEb, rfl⟩ := hv3
  obtain ⟨u1, hu1, hv1⟩ := hr.cellI eb1 (i := o + 1) hN1 hEb
  rw [em1] at hv1
  obtain ⟨rm1, qm1, hEm1, rfl⟩ := hv1
  obtain ⟨u2, hu2, hv2⟩ := hr.cellI eb7 (i := 0) hN7 hE7
  rw [em2] at hv2
  obtain ⟨rm2, qm2, hEm2, rfl⟩ := hv2
  obtain ⟨hlt1, l1', hM1, hR1⟩ := (⟨(hr.blk m1 rm1 qm1 hEm1).1, by have := (hr.blk m1 rm1 qm1 hEm1).2; rw [el1] at this; exact this⟩ : rm1 < H.size ∧ BR E qm1 (.map l1) H[rm1]?)
  obtain ⟨hlt2, l2', hM2, hR2⟩ := (⟨(hr.blk m2 rm2 qm2 hEm2).1, by have := (hr.blk m2 rm2 qm2 hEm2).2; rw [el2] at this; exact this⟩ : rm2 < H.size ∧ BR E qm2 (.map .nil) H[rm2]?)
  have hl2 : l2' = [] := by
    rcases l2' with _ | ⟨x, l2'⟩
    · rfl
    · have := hR2.2 x.1
      simp only [lk] at this
      exact absurd List.mem_cons_self (this x.2)
  subst hl2
  have hrne : rm1 ≠ rm2 := fun e => by
    subst e
    exact hne12 (hr.inj m1 m2 rm1 qm1 qm2 hEm1 hEm2 (by rw [el1]; trivial) (by rw [el2]; simp))
  have hr7 : r7 ≠ rm2 := fun e => by
    subst e
    obtain ⟨es, clock, hx, _⟩ := hM2
    rw [show hcell H r7 0 = none by simp [hcell, hx]] at hu2
    cases hu2
  refine row_sem (f := 55) (r := 2) (wl := w20) Tryz.mixed (Sv2 r3 r7 H fun _ H' => CpR H rm2 l1' H') ?_ Tryz.func55 rfl rfl (by kernel_rfl) hs hS' (fun a ha => ?_) (fun v H' hc => ⟨E, En.le.refl E, cpy_rel hr hEm2 el2 e2 o2 hR1 hc⟩) hK
  · refine ⟨_, hu3, rb, o, rfl, some rm1, hu1, rm1, l1', rfl, hM1, fun r7' H5 hn => ?_⟩
    obtain ⟨I, μ, hI, hstep⟩ := cpy_loop hM2 hlt2 hrne hn
    refine ⟨I, μ, hI, fun H8 h8 => ?_⟩
    obtain ⟨done, hi8, hst, hend⟩ := hstep H8 h8
    refine ⟨rm1, l1', done, hi8, fun k12 v13 H14 hmem hnot hms => ⟨fun _ => ?_, fun h => by cases h⟩, fun hall => ⟨(fun h => by cases h), fun _ => hend hall⟩⟩
    obtain ⟨hi14, hk14, l2, hm14, hput⟩ := hst k12 v13 H14 hmem hnot hms
    obtain ⟨cv, hcv, hvr⟩ := MR.each hR1 hmem
    obtain ⟨z, rfl⟩ := isIC_ok (allIntC_ok c1.1 _ _ hcv) hvr
    have hc14 : hcell H14 r7 0 = some (.map (some rm2)) := by
      have hlt7 := hcell_lt hu2
      unfold hcell at hu2 ⊢
      rw [hk14 r7 hlt7 hr7]
      exact hu2
    exact ⟨rm1, l1', done, k12, hi14, z, hmem, some rm2, hc14, rm2, l2, rfl, hm14, hput⟩
  · have f3 := ha.agree 3 s3 g3
    have f7 := ha.agree 7 s7 g7
    rw [e3] at f3
    rw [e7] at f7
    exact ag_of ha.size ha.defers [(3, .pointer (some ⟨r3, 0, none⟩)), (7, .pointer (some ⟨r7, 0, none⟩))] (by
      intro x hx; simp only [List.mem_cons, List.mem_nil_iff, or_false] at hx; rcases hx with rfl | rfl <;> assumption)
end Go.Ex

namespace Go.Ex
open Go Go.Vc Go.Proofs
def w65 : List Nat := [23, 24, 25, 26, 27, 28, 29, 30, 31, 32, 4, 5, 33, 34, 35, 36, 37, 38]
noncomputable def o_rcp : Sy → He → Nat → (Sy → He → Nat → St) → St := fun S H n k =>
  onP0 (sg 0 S) fun b0 => onCA 2 (hg b0 H) fun v => onMap v fun m1 => onP0 (sg 3 S) fun b3 => onCA 2 (hg b3 H) fun v2 => onMap v2 fun m2 =>
    onMB (hg m1 H) fun l1 => onMB0 (hg m2 H) (bi (allSlC l1 && !Nat.beq m1 m2) (hset m2 (.map l1) H fun H => wip w65 S fun S => k S H n) no)
noncomputable def c65T : Code := left (right (right (Tryz.f60.body.getD .skip)))
theorem c65_eq : codeAt Tryz.prog 60 pR1 = c65T := by kernel_rfl
theorem ntm65 : ntm Tryz.prog 60 = Tryz.f60.ntmps := by kernel_rfl
theorem o_rcp_ok {Ok : St → Prop} [Okay Ok] {S : Sy} {cH : He} {n : Nat} {k : Sy → He → Nat → St} (h : Ok (o_rcp S cH n k)) : ∃ S' cH' n', Ok (k S' cH' n') ∧
    ∀ E Pr aS H X K, SR E 0 S aS → Rel E Pr n cH H → (∀ E' aS' H', E.le E' → SR E' 0 S' aS' → Rel E' Pr n' cH' H' → K.norm aS' H') → Sem Tryz.prog X Tryz.f60.ntmps c65T K aS H := by
  unfold o_rcp at h
  obtain ⟨b0, h, eS0⟩ := onP0_ok h
  obtain ⟨k1, N1, t1, eb1, hN1, h⟩ := onCA_ok h
  obtain ⟨m1, em1, h⟩ := onMap_ok h
  obtain ⟨b3, h, eS3⟩ := onP0_ok h
  obtain ⟨k3, N3, t3, eb3, hN3, h⟩ := onCA_ok h
  obtain ⟨m2, em2, h⟩ := onMap_ok h
  obtain ⟨l1, el1, h⟩ := onMB_ok h
  obtain ⟨el2, h⟩ := onMB0_ok h
  obtain ⟨c1, h⟩ := bi_ok h
  rw [Bool.and_eq_true] at c1
  obtain ⟨hm2s, cH2, h, e2, o2⟩ := hset_ok h
  obtain ⟨S', h, hS'⟩ := wip_ok h
  refine ⟨S', cH2, n, h, ?_⟩
  clear h
  have hne12 : m1 ≠ m2 := fun e => by
    have := c1.2
    rw [e, Nat.beq_refl] at this
    cases this
  intro E Pr aS H X K hs hr hK
  obtain ⟨s0, g0, v0⟩ := hs.get 0 (by omega)
  obtain ⟨s3, g3, v3⟩ := hs.get 3 (by omega)
  rw [eS0] at v0
  rw [eS3] at v3
  obtain ⟨r0, q0, hE0, e0⟩ := v0
  obtain ⟨r3, q3, hE3, e3⟩ := v3
  obtain ⟨u1, hu1, hv1⟩ := hr.cellI eb1 (i := 2) hN1 hE0
  rw [em1] at hv1
  obtain ⟨rm1, qm1, hEm1, rfl⟩ := hv1
  obtain ⟨u2, hu2, hv2⟩ := hr.cellI eb3 (i := 2) hN3 hE3
  rw [em2] at hv2
  obtain ⟨rm2, qm2, hEm2, rfl⟩ := hv2
  obtain ⟨hlt1, l1', hM1, hR1⟩ := (⟨(hr.blk m1 rm1 qm1 hEm1).1, by have := (hr.blk m1 rm1 qm1 hEm1).2; rw [el1] at this; exact this⟩ : rm1 < H.size ∧ BR E qm1 (.map l1) H[rm1]?)
  obtain ⟨hlt2, l2', hM2, hR2⟩ := (⟨(hr.blk m2 rm2 qm2 hEm2).1, by have := (hr.blk m2 rm2 qm2 hEm2).2; rw [el2] at this; exact this⟩ : rm2 < H.size ∧ BR E qm2 (.map .nil) H[rm2]?)
  have hl2 : l2' = [] := by
    rcases l2' with _ | ⟨x, l2'⟩
    · rfl
    · have := hR2.2 x.1
      simp only [lk] at this
      exact absurd List.mem_cons_self (this x.2)
  subst hl2
  have hrne : rm1 ≠ rm2 := fun e => by
    subst e
    exact hne12 (hr.inj m1 m2 rm1 qm1 qm2 hEm1 hEm2 (by rw [el1]; trivial) (by rw [el2]; simp))
  have hr3 : r3 ≠ rm2 := fun e => by
    subst e
    obtain ⟨es, clock, hx, _⟩ := hM2
    rw [show hcell H r3 2 = none by simp [hcell, hx]] at hu2
    cases hu2
  refine row_sem (f := 60) (r := 2) (wl := w65) Tryz.mixed (Rc2 r0 r3 H fun _ H' => CpR H rm2 l1' H') ?_ Tryz.func60 rfl rfl (by kernel_rfl) hs hS' (fun a ha => ?_) (fun v H' hc => ⟨E, En.le.refl E, cpy_rel hr hEm2 el2 e2 o2 hR1 hc⟩) hK
  · refine ⟨r0, 0, rfl, some rm1, hu1, rm1, l1', rfl, hM1, fun r7' H5 hn => ?_⟩
    obtain ⟨I, μ, hI, hstep⟩ := cpy_loop hM2 hlt2 hrne hn
    refine ⟨I, μ, hI, fun H8 h8 => ?_⟩
    obtain ⟨done, hi8, hst, hend⟩ := hstep H8 h8
    refine ⟨rm1, l1', done, hi8, fun k12 v13 H14 hmem hnot hms => ⟨fun _ => ?_, fun h => by cases h⟩, fun hall => ⟨(fun h => by cases h), fun _ => hend hall⟩⟩
    obtain ⟨hi14, hk14, l2, hm14, hput⟩ := hst k12 v13 H14 hmem hnot hms
    obtain ⟨cv, hcv, hvr⟩ := MR.each hR1 hmem
    obtain ⟨a', l', c', rfl⟩ := isSl_ok (allSlC_ok c1.1 _ _ hcv) hvr
    have hc14 : hcell H14 r3 2 = some (.map (some rm2)) := by
      have hlt7 := hcell_lt hu2
      unfold hcell at hu2 ⊢
      rw [hk14 r3 hlt7 hr3]
      exact hu2
    exact ⟨rm1, l1', done, k12, hi14, a', l', c', hmem, r3, 0, rfl, some rm2, hc14, rm2, l2, rfl, hm14, hput⟩
  · have f0 := ha.agree 0 s0 g0
    have f3 := ha.agree 3 s3 g3
    rw [e0] at f0
    rw [e3] at f3
    exact ag_of ha.size ha.defers [(0, .pointer (some ⟨r0, 0, none⟩)), (3, .pointer (some ⟨r3, 0, none⟩))] (by
      intro x hx; simp only [List.mem_cons, List.mem_nil_iff, or_false] at hx; rcases hx with rfl | rfl <;> assumption)
end Go.Ex

section
open Go Go.Vc
namespace Go.Proofs
theorem rowsOf_one (L : List Ly) : ∀ u ∈ rowsOf L, Value.oneCell' u = true := by
  intro u hu
  unfold rowsOf at hu
  obtain ⟨r, hr, hu⟩ := List.mem_flatten.1 hu
  obtain ⟨x, _, rfl⟩ := List.mem_map.1 hr
  simp only [Ly.cells, List.mem_cons, List.not_mem_nil, or_false] at hu
  rcases hu with rfl | rfl | rfl | rfl <;> rfl

theorem clone_ok {L : List Ly} {a : Option Addr} {c : Nat} {H : Heap} (hl : L.length ≤ 100000) (h : LRow H a L) :
    Does Tryz.prog 126 [.slice a L.length c] H fun v H' => ∃ a' c', v = .slice a' L.length c' ∧ Own H' 4 a' L.length c' (rowsOf L) ∧ Ext [] H H' ∧ ∀ k ∈ blkOf a', H.size ≤ k := by
  refine Fn_of_vc Tryz.mixed (vc_clonel _ _ _ _ _) ?_
  refine ⟨fun e => ?_, fun e => ?_⟩
  · subst e
    have h1 : rowsOf L = [] := h.2
    have h2 : L = [] := by
      have := rowsOf_length L
      rw [h1] at this
      cases L with
      | nil => rfl
      | cons => simp at this
    subst h2
    exact ⟨none, 0, rfl, Own.nil _ _, Ext.refl _ _, by simp [blkOf]⟩
  · intro b1 H2 hn
    have ho : Own H2 4 (some ⟨b1, 0, none⟩) 0 0 [] := ⟨rfl, Nat.le_refl _, by unfold maxLen; omega, .inr ⟨b1, [], rfl, hn.blk, rfl⟩⟩
    refine ⟨[], rowsOf L, ho.row _ _, SRow.cap (h.ext hn.ext (by simp)), rowsOf_one L, by omega, fun hle => ?_, ?_⟩
    · have : L.length = 0 := by omega
      rw [this]; exact ⟨rfl, trivial⟩
    intro a5 c6 H7 happ
    obtain ⟨ho7, hx7, hfr7⟩ := happ.own ho (ho.row _ _) (by rw [rowsOf_length]) rfl
    have e1 := hn.eq
    have s1 := hn.size
    rw [Nat.zero_add] at ho7
    refine ⟨a5, c6, by rw [Nat.zero_add], ho7, ext_new hn.ext hx7 (fun k hk => ?_), fun k hk => ?_⟩
    · simp only [blkOf, List.mem_singleton] at hk; omega
    · rcases hfr7 k hk with h' | h'
      · simp only [blkOf, List.mem_singleton] at h'; omega
      · omega

theorem layers_ok {L : List Ly} {a : Option Addr} {c b : Nat} {H : Heap} (hl : L.length ≤ 100000) (hb : hcell H b 1 = some (.slice a L.length c)) (h : LRow H a L) :
    Does Tryz.prog 175 [.pointer (some ⟨b, 0, none⟩)] H fun v H' => ∃ a' c', v = .slice a' L.length c' ∧ LRow H' a' L ∧ Ext [] H H' := by
  refine Fn_of_vc Tryz.mixed (vc_layers _ _ _) ?_
  refine ⟨b, 0, rfl, a, _, c, hb, ?_⟩
  refine (clone_ok hl h).mono ?_
  rintro v H' ⟨a', c', rfl, ho, he, _⟩
  exact ⟨a', _, c', rfl, a', c', rfl, ho.row _ _, he⟩
end Go.Proofs
end

namespace Go.Ex
open Go Go.Vc Go.Proofs
noncomputable def allFound (ls : List Ly) (l : CV) : Bool :=
  match ikeys l with
  | some ks => ks.all fun a => (find ls a).isSome
  | none => false
theorem allFound_ok {ls : List Ly} {l : CV} (h : allFound ls l = true) : ∀ n cv, lk l n = some cv → (find ls n).isSome = true := by
  unfold allFound at h
  split at h
  · rename_i ks hk
    intro n cv e
    rw [List.all_eq_true] at h
    exact h n ((lk_ikeys hk n).1 ⟨cv, e⟩)
  · cases h
def w123 : List Nat := [16, 17, 18, 19, 20, 21, 9, 23, 24, 25, 26, 22, 27, 28, 10, 11, 29, 30, 31, 32, 33, 34, 8]
/-- No entry is needed: nothing is gone. -/
noncomputable def o_gon : Sy → He → Nat → (Sy → He → Nat → St) → St := fun S H n k =>
  onMap (sg 3 S) fun m1 => onMB (hg m1 H) fun l1 => onP0 (sg 2 S) fun b0 => onCA 1 (hg b0 H) fun v => onSlc v fun d o L => onCt (hg d H) fun N t => bi (Nat.ble (o + 4 * L) N && Nat.ble L 1000 && isSn (sg 8 S)) (onLys (lysOf t L o) fun ls => bi (allFound ls l1) (wip w123 S fun S => ss 8 .snil S fun S => k S H n) no) no
  where isSn (v : CV) : Bool := match v with
    | .snil => true
    | _ => false
def seenN (H : Heap) (r : Nat) : Nat := match H[r]? with
  | some (.mapIter _ _ seen _) => seen.size
  | _ => 0
theorem seenN_is {H : Heap} {r m : Nat} {l : List (Int × Value)} {done : List Int} (h : MIter H r m l done) : seenN H r = done.length := by
  obtain ⟨es, clock, seen, ds, h1, _, _, _, h5, h6, _⟩ := h
  unfold seenN
  rw [h1]
  have e1 := congrArg List.length h5
  have e2 := congrArg List.length h6
  simp at e1 e2
  show seen.size = _
  omega
theorem MIter.ext {H H' : Heap} {r m : Nat} {l : List (Int × Value)} {done : List Int} (h : MIter H r m l done) (he : Ext [] H H') : MIter H' r m l done := by
  obtain ⟨es, clock, seen, ds, h1, h2, h3⟩ := h
  exact ⟨es, clock, seen, ds, by rw [he.keep r (Array.getElem?_eq_some_iff.1 h1).1 (by simp)]; exact h1, by rw [he.keep m (Array.getElem?_eq_some_iff.1 h2).1 (by simp)]; exact h2, h3⟩
noncomputable def c123T : Code := left (right (Tryz.f174.body.getD .skip))
def pR2 : Pa := .o (.i .z)
theorem c123_eq : codeAt Tryz.prog 174 pR2 = c123T := by kernel_rfl
theorem ntm123 : ntm Tryz.prog 174 = Tryz.f174.ntmps := by kernel_rfl
end Go.Ex
namespace Go.Ex
open Go Go.Vc Go.Proofs
/-- A row of code that leaves one thing, told. -/
theorem row_sem1 {P : Program} {f r ng d : Nat} {fn : Func} {c0 c : Code} {S0 : Sym} {V : Prop} {H : Heap} {Rp : Value → Heap → Prop} {aS : Sym} {S S' : Sy} {E : En} {Pr : Prt} {n' : Nat} {cH' : He} {X : HP} {K : Kont} {wl : List Nat} {cd : CV} {x : Value}
    (hm : P.follows .mixedOrders = true) (e : PartS2 P f r S0 [d] H Rp = V) (h : V) (hf : P.funcs[f]? = some fn) (hb : fn.body = some c0) (hc : findS r c0 = some c) (hw : ((dstsC c).all fun t => wl.contains t) = true)
    (hs : SR E ng S aS) (hS' : ∀ t, t < 256 → t ≠ d → (t ∈ wl → sg t S' = .u) ∧ (t ∉ wl → sg t S' = sg t S)) (hd : sg d S' = cd) (hx : ∀ E', VR E' cd x) (hS0 : ∀ a, Ag fn.ntmps aS a → Ag fn.ntmps S0 a)
    (hR : ∀ v H', Rp v H' → v = x ∧ ∃ E', E.le E' ∧ Rel E' Pr n' cH' H') (hK : ∀ E' aS' H', E.le E' → SR E' ng S' aS' → Rel E' Pr n' cH' H' → K.norm aS' H') : Sem P X fn.ntmps c K aS H := by
  intro a w ha hwH
  refine wp_mono (partS2_wp hm e h hf hb hc (S' := aS) ha (hS0 a ha) hwH) ?_
  rintro e a1 w1 ⟨rfl, hs1, vs, hl, hr1, ha1⟩
  obtain ⟨hv, E', hle, hr'⟩ := hR _ _ hr1
  obtain ⟨v0, rfl⟩ : ∃ v0, vs = [v0] := by
    match vs, hl with
    | [v], _ => exact ⟨v, rfl⟩
  have hv : v0 = x := hv
  refine ⟨hs1, (List.range 256).map fun t => (t, .v (a1.tmps.getD t undef)), ⟨ha1.size, ha1.defers, fun t s ht => ?_⟩, hK E' _ _ hle ⟨fun t ht => ⟨.v (a1.tmps.getD t undef), by rw [get_tab, if_pos (by simpa using ht)], ?_⟩, (hs.mono hle).gl, by rw [get_tab, if_neg (by simp [wideKey])]⟩ hr'⟩
  · rw [get_tab] at ht
    split at ht
    · cases ht; rfl
    · cases ht
  · by_cases htd : t = d
    · subst htd
      have : a1.tmps.getD t undef = v0 := ha1.agree t (.v v0) (by
        show Sym.get ((t, SV.v v0) :: _) t = _
        rw [get_cons, if_pos rfl])
      rw [hd, this, hv]
      exact hx E'
    · by_cases hdw : t ∈ wl
      · rw [(hS' t ht htd).1 hdw]; trivial
      · rw [(hS' t ht htd).2 hdw]
        obtain ⟨s, h1, h2⟩ := hs.get t ht
        have hd' : t ∉ dstsC c := fun hx => by
          rw [List.all_eq_true] at hw
          exact hdw (by simpa using hw t hx)
        have : Sym.get (newS [d] [v0] (dstsC c) aS) t = some s := by
          show Sym.get ((d, SV.v v0) :: _) t = _
          rw [get_cons, if_neg (fun e => htd e.symm)]
          show Sym.get ([] ++ _) t = _
          rw [List.nil_append, get_filter' hd', h1]
        rw [show a1.tmps.getD t undef = s.toV from ha1.agree t s this]
        exact h2.mono hle
theorem nodup_sub_le : ∀ {a b : List Int}, a.Nodup → (∀ k ∈ a, k ∈ b) → a.length ≤ b.length := fun {a b} h hs => nodup_le b a h hs
theorem o_gon_ok {Ok : St → Prop} [Okay Ok] {S : Sy} {cH : He} {n : Nat} {k : Sy → He → Nat → St} (h : Ok (o_gon S cH n k)) : ∃ S' cH' n', Ok (k S' cH' n') ∧
    ∀ E Pr aS H X K, SR E 0 S aS → Rel E Pr n cH H → (∀ E' aS' H', E.le E' → SR E' 0 S' aS' → Rel E' Pr n' cH' H' → K.norm aS' H') → Sem Tryz.prog X Tryz.f174.ntmps c123T K aS H := by
  unfold o_gon at h
  obtain ⟨m1, eS3, h⟩ := onMap_ok h
  obtain ⟨l1, el1, h⟩ := onMB_ok h
  obtain ⟨b0, h, eS2⟩ := onP0_ok h
  obtain ⟨k1, N1, t1, eb0, hN1, h⟩ := onCA_ok h
  obtain ⟨d, o, L, h, hv⟩ := onSlc_ok h
  obtain ⟨m, N, t, hd, h⟩ := onCt_ok h
  obtain ⟨c1, h⟩ := bi_ok h
  simp only [Bool.and_eq_true] at c1
  obtain ⟨⟨c2, c3⟩, c4⟩ := c1
  have c2 : o + 4 * L ≤ N := Nat.le_of_ble_eq_true c2
  have c3 : L ≤ 1000 := Nat.le_of_ble_eq_true c3
  obtain ⟨ls, hls, h⟩ := onLys_ok h
  obtain ⟨c5, h⟩ := bi_ok h
  obtain ⟨S1, h, hS1⟩ := wip_ok h
  obtain ⟨S', g1, g2, g3⟩ := ss_law 8 .snil S1 (by omega)
  rw [g1] at h
  refine ⟨S', cH, n, h, ?_⟩
  clear h g1
  intro E Pr aS H X K hs hr hK
  obtain ⟨s2, f2, v2⟩ := hs.get 2 (by omega)
  obtain ⟨s3, f3, v3⟩ := hs.get 3 (by omega)
  obtain ⟨s8, f8, v8⟩ := hs.get 8 (by omega)
  rw [eS2] at v2
  rw [eS3] at v3
  have e8 : sg 8 S = .snil := by
    unfold o_gon.isSn at c4
    split at c4
    · assumption
    · cases c4
  rw [e8] at v8
  obtain ⟨r2, q2, hE2, e2⟩ := v2
  obtain ⟨rm1, qm1, hEm1, e3⟩ := v3
  have v8 : s8.toV = .slice none 0 0 := v8
  obtain ⟨hlt1, l1', hM1, hR1⟩ := (⟨(hr.blk m1 rm1 qm1 hEm1).1, by have := (hr.blk m1 rm1 qm1 hEm1).2; rw [el1] at this; exact this⟩ : rm1 < H.size ∧ BR E qm1 (.map l1) H[rm1]?)
  obtain ⟨u1, hu1, hv1⟩ := hr.cellI eb0 (i := 1) hN1 hE2
  obtain ⟨rd, qd, C, hEd, rfl, hC⟩ := hv E u1 hv1
  obtain ⟨hlen, hrow⟩ := hr.lys hd hEd c2 hls
  have hfd : ∀ p ∈ l1', (find ls p.1).isSome = true := fun p hp => by
    obtain ⟨cv, hcv, _⟩ := MR.each hR1 (k := p.1) (v := p.2) hp
    exact allFound_ok c5 _ _ hcv
  refine row_sem1 (f := 174) (r := 1) (d := 8) (wl := w123) (cd := .snil) (x := .slice none 0 0) Tryz.mixed (Go1 (some rm1) r2 none 0 0 H fun v H' => v = .slice none 0 0 ∧ Ext [] H H') ?_ Tryz.func174 rfl rfl (by kernel_rfl) hs (fun t ht hne => ⟨fun hm => ?_, fun hm => ?_⟩) g2 (fun E' => rfl) (fun a ha => ?_) (fun v H' hc => ⟨hc.1, E, En.le.refl E, hr.ext hc.2⟩) hK
  · refine ⟨rm1, l1', rfl, hM1, fun r3 H4 hn => ?_⟩
    obtain ⟨rfl, hs4, hk4, hi4⟩ := hn
    have hx4 : Ext [] H H4 := ⟨by omega, fun j hj _ => hk4 j hj⟩
    refine ⟨fun a l c H10 => (a = none ∧ l = 0 ∧ c = 0) ∧ H.size < H10.size ∧ Ext [] H H10 ∧ ∃ done, MIter H10 H.size rm1 l1' done ∧ done.Nodup ∧ ∀ k ∈ done, k ∈ l1'.map (·.1), fun _ _ _ H10 => l1'.length - seenN H10 H.size, ⟨⟨rfl, rfl, rfl⟩, by omega, hx4, [], hi4, List.nodup_nil, fun k hk => by cases hk⟩, ?_⟩
    rintro a7 l8 c9 H10 ⟨⟨rfl, rfl, rfl⟩, hs10, hx10, done, hi10, hnd, hsub⟩
    refine ⟨rm1, l1', done, hi10, fun k14 v15 H16 hmem hnot hst => ⟨fun _ => ?_, fun h => by cases h⟩, fun hall => ⟨(fun h => by cases h), fun _ => ⟨rfl, hx10⟩⟩⟩
    obtain ⟨hs16, hk16, hi16⟩ := hst
    have hx16 : Ext [] H H16 := ⟨by omega, fun j hj _ => by rw [hk16 j (by omega), hx10.keep j hj (by simp)]⟩
    refine ⟨rm1, l1', done, k14, hi16, v15, hmem, ?_⟩
    have hb16 : hcell H16 r2 1 = some (.slice (some ⟨rd, o, none⟩) L C) := hcell_ext hu1 hx16 (by simp)
    have hrow16 : LRow H16 (some ⟨rd, o, none⟩) ls := hrow.ext hx16 (by simp)
    rw [← hlen] at hb16
    refine (layers_ok (by omega) hb16 hrow16).mono ?_
    rintro v22 H23 ⟨a', c', rfl, hrow23, hx23⟩
    refine ⟨a', _, c', rfl, ?_⟩
    refine (find_ok k14 (by omega) hrow23).mono ?_
    rintro v27 H28 ⟨rfl, hx28⟩
    refine ⟨_, _, _, _, _, rfl, fun b34 H35 hn35 => ⟨hn35.blk.cells _ _ (by simp), fun H36 hp36 => ⟨fun e => ?_, fun _ => ?_⟩⟩⟩
    · have := hfd _ hmem
      rw [this] at e
      cases e
    · have hx36 : Ext [] H16 H36 := by
        have h35 : Ext [] H16 H35 := (hx23.trans hx28).trans hn35.ext
        refine ext_new h35 hp36.ext (fun i hi => ?_)
        simp only [List.mem_singleton] at hi
        subst hi
        have := (hx23.trans hx28).size
        rw [hn35.eq]
        exact this
      have hi36 := MIter.ext hi16 hx36
      have hmk : k14 ∈ l1'.map (·.1) := List.mem_map.2 ⟨_, hmem, rfl⟩
      have hnd' : (done ++ [k14]).Nodup := by
        rw [List.nodup_append]
        refine ⟨hnd, by simp, fun a ha b hb => ?_⟩
        simp only [List.mem_singleton] at hb
        subst hb
        rintro rfl
        exact hnot ha
      have hsub' : ∀ k ∈ done ++ [k14], k ∈ l1'.map (·.1) := fun k hk => by
        rcases List.mem_append.1 hk with h | h
        · exact hsub k h
        · simp only [List.mem_singleton] at h; subst h; exact hmk
      have hcnt := nodup_sub_le hnd' hsub'
      rw [List.length_append, List.length_map] at hcnt
      simp only [List.length_singleton] at hcnt
      refine ⟨⟨⟨rfl, rfl, rfl⟩, by have := hx36.size; omega, hx16.trans hx36, done ++ [k14], hi36, hnd', hsub'⟩, ?_⟩
      simp only [seenN_is hi36, seenN_is hi10, List.length_append, List.length_singleton]
      omega
  · rw [g3 t ht hne]
    exact (hS1 t ht).1 hm
  · rw [g3 t ht hne]
    exact (hS1 t ht).2 hm
  · have a2 := ha.agree 2 s2 f2
    have a3 := ha.agree 3 s3 f3
    have a8 := ha.agree 8 s8 f8
    rw [e2] at a2
    rw [e3] at a3
    rw [v8] at a8
    exact ag_of ha.size ha.defers [(3, .map (some rm1)), (2, .pointer (some ⟨r2, 0, none⟩)), (8, .slice none 0 0)] (by
      intro x hx; simp only [List.mem_cons, List.mem_nil_iff, or_false] at hx; rcases hx with rfl | rfl | rfl <;> assumption)
end Go.Ex

section
open Go Go.Vc
namespace Go.Proofs
set_option maxRecDepth 100000
/-- (*pentimento/octet.Writer).put -/
theorem vc_put (pb0 : Nat) (x1 : Int) (x2 : Int) (H : Heap) (R : Value → Heap → Prop) : Walk Tryz.prog 162 [] [(.pointer (some (⟨pb0, 0, none⟩ : Addr))), (.int .u64 x1), (.int .i64 x2)] H R = (
  (In64 (x2 - 1)) ∧
  ∃ I1 : Int → Heap → Prop, ∃ μ2 : Int → Heap → Nat, (I1 (x2 - 1) H) ∧
  ∀ n3 : Int, ∀ H4 : Heap, I1 n3 H4 → (
    ((((0 : Int) ≤ n3) → (
          ∃ b5 o6 : Nat, (some (⟨pb0, 0, none⟩ : Addr)) = some (⟨b5, o6, none⟩ : Addr) ∧ (
            ∃ a7 : Option Addr, ∃ l8 : Nat, ∃ c9 : Nat, hcell H4 b5 o6 = some (.slice a7 l8 c9) ∧ (
              (In64 (8 * n3)) ∧
              ((0 : Int) ≤ (8 * n3)) ∧
              ∀ q10 : Int, q10 = Int.fdiv x1 (2 ^ (min (Int.toNat (8 * n3)) (IntKind.bits .u64))) → (
                ∀ q11 : Int, q11 = IntKind.wrap .u8 q10 → (
                  ∀ b12 : Nat, ∀ H13 : Heap, New H4 b12 [(.int .u8 q11)] 5 H13 → (
                    isL H13 b5 o6 [(.slice a7 l8 c9)] ∧ (∃ old14 new15 : List Value, SRow H13 1 l8 (.slice a7 l8 c9) old14 ∧ SRow H13 1 1 (.slice (some (⟨b12, 0, none⟩ : Addr)) 1 1) new15 ∧ (∀ u ∈ new15, Value.oneCell' u = true) ∧ (l8 + 1) * 1 ≤ 140737488355328 ∧ (l8 + 1 ≤ c9 → roomOf H13 a7 (l8 * 1) (1 * 1)) ∧ ∀ a16 : Option Addr, ∀ c17 : Nat, ∀ H18 : Heap, App H13 1 5 [(.int .u8 0)] a7 l8 c9 old14 new15 1 a16 c17 H18 → (
                        (∃ b19 o20 : Nat, (some (⟨pb0, 0, none⟩ : Addr)) = some (⟨b19, o20, none⟩ : Addr) ∧ (
                            Cells H18 b19 o20 1 ∧ ∀ H21 : Heap, Puts H18 b19 o20 [(.slice a16 (l8 + 1) c17)] H21 → (
                              ((In64 (n3 - 1)) ∧
                                (I1 (n3 - 1) H21) ∧ μ2 (n3 - 1) H21 < μ2 n3 H4))))))))))))) ∧ (¬ ((0 : Int) ≤ n3) → (
          R (.tuple #[]) H4))))) := by kernel_rfl


/-- (*pentimento/bits.Map).Get -/
theorem vc_bget (pb0 : Nat) (x1 : Int) (H : Heap) (R : Value → Heap → Prop) : Walk Tryz.prog 109 [] [(.pointer (some (⟨pb0, 0, none⟩ : Addr))), (.int .i64 x1)] H R = (
  ((((0 : Int) ≤ x1) → (
        ∃ b1 o2 : Nat, (some (⟨pb0, 0, none⟩ : Addr)) = some (⟨b1, o2, none⟩ : Addr) ∧ (
          ∃ n3 : Int, hcell H b1 o2 = some (.int .i64 n3) ∧ (
            ((((x1 : Int) < n3) → (
                  ∃ b4 o5 : Nat, (some (⟨pb0, 0, none⟩ : Addr)) = some (⟨b4, o5, none⟩ : Addr) ∧ (
                    ∃ a6 : Option Addr, ∃ l7 : Nat, ∃ c8 : Nat, hcell H b4 (o5 + 1) = some (.slice a6 l7 c8) ∧ (
                      ((8 : Int) ≠ 0) ∧
                      ∀ q9 : Int, q9 = IntKind.wrap .i64 (Int.tdiv x1 8) → (
                        (0 : Int) ≤ q9 ∧ (q9 : Int) < (l7 : Int) ∧ ∃ b10 o11 : Nat, a6 = some (⟨b10, o11, none⟩ : Addr) ∧ (
                          ∃ n12 : Int, hcell H b10 (o11 + (Int.toNat q9)) = some (.int .u8 n12) ∧ (
                            ((8 : Int) ≠ 0) ∧
                            ∀ q13 : Int, q13 = Int.tmod x1 8 → (
                              ((0 : Int) ≤ q13) ∧
                              ∀ q14 : Int, q14 = Int.fdiv n12 (2 ^ (min (Int.toNat q13) (IntKind.bits .u8))) → (
                                ∀ q15 : Int, q15 = bits .and .u8 q14 1 → (
                                  R (.bool (@decide ((0 : Int) < q15) (Classical.propDecidable _))) H)))))))))) ∧ (¬ ((x1 : Int) < n3) → (
                  R (.bool false) H))))))) ∧ (¬ ((0 : Int) ≤ x1) → (
        R (.bool false) H)))) := by kernel_rfl


end Go.Proofs
end

section
/-! octet.put and bits.Get, told. -/
namespace Go.Ex
open Go Go.Vc Go.Proofs
noncomputable def putL (b v : Nat) : Nat → He → Nat → (He → Nat → St) → St
  | 0, H, n, k => k H n
  | j + 1, H, n, k => onC0 (hg b H) fun s => fN (fun y => appB 1 s 1 y H n fun cv H n => wrC b 0 (.cons cv .nil) H fun H => putL b v j H n k) (byt j v)
noncomputable def o_put : OF := fun l H n k =>
  sList no (fun a r => sList no (fun w r1 => sList no (fun c r2 => sList (onP0 a fun b => sInt (fun j v => bi (keq j .u64) (onNat no (fun v => sInt (fun j m => bi (keq j .i64) (onNat no (fun m => bi (Nat.ble m 8) (putL b v m H n fun H n => k (.tup .nil) H n) no) m) no) c) v) no) w) (fun _ _ => no) r2) r1) r) l
theorem wrapU8 (n : Int) : IntKind.wrap .u8 n = n % 256 := by
  simp [IntKind.wrap, IntKind.signed, IntKind.bits]
/-- One byte. -/
def PStep (b v j : Nat) (cH : He) (n : Nat) (cH1 : He) (n1 : Nat) : Prop :=
  ∀ E Pr H r q, E b = some (r, q) → Rel E Pr n cH H → ∃ a len cap, hcell H r 0 = some (.slice a len cap) ∧ ∀ o, ∃ old, SRow (H.push o) 1 len (.slice a len cap) old ∧ (len + 1) * 1 ≤ 140737488355328 ∧ (len + 1 ≤ cap → roomOf (H.push o) a (len * 1) (1 * 1)) ∧
    ∀ a' cap' H2, App (H.push o) 1 5 [.int .u8 0] a len cap old [.int .u8 (byt j v : Nat)] 1 a' cap' H2 → Cells H2 r 0 1 ∧ ∃ E', E.le E' ∧ Rel E' Pr n1 cH1 (hsets H2 r 0 [.slice a' (len + 1) cap'])
inductive PTr (b v : Nat) : Nat → He → Nat → He → Nat → Prop
  | done {cH n} : PTr b v 0 cH n cH n
  | step {j cH n cH1 n1 cH' n'} (h : PStep b v j cH n cH1 n1) (t : PTr b v j cH1 n1 cH' n') : PTr b v (j + 1) cH n cH' n'
theorem byteV_1 {y : Nat} (h : y < 256) : byteV 1 y = [.int .u8 (y : Nat)] := by
  have : (byteV 1 y)[0]? = some (.int .u8 (byt 0 y : Nat)) := byteV_get (by omega)
  have hl : (byteV 1 y).length = 1 := byteV_length 1 y
  match h1 : byteV 1 y, hl with
  | [x], _ =>
    rw [h1] at this
    simp at this
    rw [this, byt_eq]
    simp [Nat.mod_eq_of_lt h]
theorem putL_ok {Ok : St → Prop} [Okay Ok] {b v : Nat} : ∀ (j : Nat) {cH : He} {n : Nat} {k : He → Nat → St}, Ok (putL b v j cH n k) → ∃ cH' n', Ok (k cH' n') ∧ PTr b v j cH n cH' n'
  | 0, cH, n, k, h => ⟨cH, n, h, .done⟩
  | j + 1, cH, n, k, h => by
    unfold putL at h
    obtain ⟨m, N, t, hb, hN, h⟩ := onC0_ok h
    rw [fN_eq] at h
    obtain ⟨cv, cH1, n1, h, ha⟩ := appB_ok (e := 5) (z := [.int .u8 0]) rfl h
    obtain ⟨cH2, h, hw⟩ := wrC_ok h
    obtain ⟨cH', n', h, ht⟩ := putL_ok j h
    refine ⟨cH', n', h, .step (fun E Pr H r q hE hr => ?_) ht⟩
    obtain ⟨sv, hs1, hs2⟩ := hr.cell0 hb hN hE
    have hby : byteV 1 (byt j v) = [.int .u8 (byt j v : Nat)] := byteV_1 (byt_lt j v)
    obtain ⟨a, len, cap, e, _⟩ := ha E Pr H sv _ hs2 hr rfl (by rw [byteV_length])
    subst e
    refine ⟨a, len, cap, hs1, fun o => ?_⟩
    obtain ⟨a2, len2, cap2, e, old, g1, g2, g3, g4⟩ := ha E Pr (H.push o) _ _ hs2 (hr.garb o) rfl (by rw [byteV_length])
    cases e
    refine ⟨old, g1, g2, g3, fun a' cap' H2 happ => ?_⟩
    obtain ⟨E', hle, hr', hv⟩ := g4 a' cap' H2 (by rw [hby]; exact happ)
    obtain ⟨f1, _, f2⟩ := hw E' Pr n1 H2 r q [.slice a' (len + 1) cap'] (hle _ _ hE) hr' (LR.cons' hv LR.nil')
    exact ⟨f1, E', hle, f2 _ rfl⟩
theorem o_put_ok {Ok : St → Prop} [Okay Ok] {ng : Nat} {l : CV} {cH : He} {n : Nat} {k : EK} (h : Ok (o_put l cH n k)) : ∃ cv cH' n', Ok (k cv cH' n') ∧
    ∀ E Pr H vs, (∀ g, g < ng → ∃ q, E g = some (g, q)) → LR E l vs → Rel E Pr n cH H → ∀ X, DoesX Tryz.prog 162 vs H (fun v H' => ∃ E', E.le E' ∧ Rel E' Pr n' cH' H' ∧ VR E' cv v) X := by
  unfold o_put at h
  rcases sList_ok h with ⟨_, h⟩ | ⟨a, r, e0, h1⟩
  · exact no_ok h
  rcases sList_ok (x := r) h1 with ⟨_, h⟩ | ⟨w, r1, e1, h2⟩
  · exact no_ok h
  rcases sList_ok (x := r1) h2 with ⟨_, h⟩ | ⟨c, r2, e2, h3⟩
  · exact no_ok h
  rcases sList_ok (x := r2) h3 with ⟨e3, h4⟩ | ⟨_, _, _, h⟩
  · subst e0; subst e1; subst e2; subst e3
    clear h1 h2 h3
    obtain ⟨b, h5, ea⟩ := onP0_ok h4
    obtain ⟨j, v', rfl, h6⟩ := sInt_ok h5
    obtain ⟨hj, h7⟩ := bi_ok h6
    obtain ⟨v, rfl, h8⟩ := onNat_ok h7
    obtain ⟨j2, m', rfl, h9⟩ := sInt_ok h8
    obtain ⟨hj2, h10⟩ := bi_ok h9
    obtain ⟨m, rfl, h11⟩ := onNat_ok h10
    obtain ⟨hm, h12⟩ := bi_ok h11
    have hm : m ≤ 8 := Nat.le_of_ble_eq_true hm
    have hj := keq_eq hj
    have hj2 := keq_eq hj2
    subst hj; subst hj2
    clear h4 h5 h6 h7 h8 h9 h10 h11
    obtain ⟨cH', n', h13, ht⟩ := putL_ok m h12
    refine ⟨_, cH', n', h13, ?_⟩
    rintro E Pr H vs _ ⟨x, r1, hx, ⟨y, r2, hy, ⟨z, r3, hz, hr3, rfl⟩, rfl⟩, rfl⟩ hr X
    have hr3 : r3 = [] := hr3
    subst hr3
    rw [ea] at hx
    obtain ⟨rb, q, hE, rfl⟩ := hx
    have hy : y = .int .u64 (Int.ofNat v) := hy
    have hz : z = .int .i64 (Int.ofNat m) := hz
    subst hy; subst hz
    refine Does.x (Fn_of_vc Tryz.mixed (vc_put _ _ _ _ _) ?_)
    refine ⟨by unfold In64; simp; omega, fun n3 H4 => ∃ (j : Nat) (cHj : He) (nj : Nat) (E' : En), n3 = (j : Int) - 1 ∧ j ≤ m ∧ PTr b v j cHj nj cH' n' ∧ E.le E' ∧ Rel E' Pr nj cHj H4, fun n3 _ => (n3 + 1).toNat, ⟨m, cH, n, E, rfl, Nat.le_refl _, ht, En.le.refl E, hr⟩, ?_⟩
    rintro _ H4 ⟨j, cHj, nj, E', rfl, hjm, ht, hle, hr4⟩
    refine ⟨fun h0 => ?_, fun h0 => ?_⟩
    · obtain ⟨j, rfl⟩ : ∃ i, j = i + 1 := ⟨j - 1, by omega⟩
      cases ht with
      | step hs ht' =>
        obtain ⟨a, len, cap, g1, g2⟩ := hs E' Pr H4 rb q (hle _ _ hE) hr4
        refine ⟨rb, 0, rfl, a, len, cap, g1, by unfold In64; omega, by omega, ?_⟩
        rintro q10 hq10 q11 hq11 b12 H13 hn
        have ek : (8 * (((j + 1 : Nat) : Int) - 1)) = ((8 * j : Nat) : Int) := by omega
        have hq : q11 = ((byt j v : Nat) : Int) := by
          rw [hq11, hq10, ek, Int.toNat_natCast, show min (8 * j) (IntKind.bits .u64) = 8 * j from Nat.min_eq_left (by show 8 * j ≤ 64; omega), wrapU8, Int.fdiv_eq_ediv_of_nonneg _ (Int.pow_nonneg (by decide))]
          have e : ((v : Int) / 2 ^ (8 * j)) % 256 = ((v / 2 ^ (8 * j) % 256 : Nat) : Int) := by rw [Int.natCast_emod, Int.natCast_ediv, Int.natCast_pow]; rfl
          show ((v : Int) / 2 ^ (8 * j)) % 256 = _
          rw [e, byt_eq, Nat.pow_mul, show (2 : Nat) ^ 8 = 256 from rfl]
        subst hq
        clear hq10 hq11
        obtain ⟨hb12, hH⟩ := hn
        subst hH
        obtain ⟨old, f1, f2, f3, f4⟩ := g2 (.cells [Value.int .u8 (byt j v : Nat)].toArray 5)
        have hlt := hcell_lt g1
        refine ⟨⟨by unfold hcell at g1 ⊢; rw [Array.getElem?_push, if_neg (by omega)]; exact g1, trivial⟩, old, [.int .u8 (byt j v : Nat)], f1, ⟨rfl, .inr rfl, fun i u hi => ?_⟩, by simp [Value.oneCell'], f2, f3, fun a16 c17 H18 happ => ?_⟩
        · have : i = 0 := by have := (List.getElem?_eq_some_iff.1 hi).1; simp at this; omega
          subst this
          simp at hi
          subst hi
          show hcell _ b12 0 = _
          rw [hb12]
          simp [hcell]
        · obtain ⟨w1, E2, w2, w3⟩ := f4 a16 c17 H18 happ
          refine ⟨rb, 0, rfl, w1, ?_⟩
          rintro H21 rfl
          exact ⟨by unfold In64; omega, ⟨j, _, _, E2, by omega, by omega, ht', hle.trans w2, w3⟩, by simp only []; omega⟩
    · have : j = 0 := by omega
      subst this
      cases ht
      exact ⟨E', hle, hr4, [], LR.nil', rfl⟩
  · exact no_ok h
noncomputable def onBy (x : Bk) (f : Nat → Nat → St) : St := match x with
  | .bytes _ N w => f N w
  | _ => no
theorem onBy_ok {Ok : St → Prop} [Okay Ok] {x : Bk} {f : Nat → Nat → St} (h : Ok (onBy x f)) : ∃ m N w, x = .bytes m N w ∧ Ok (f N w) := by
  unfold onBy at h
  split at h
  · exact ⟨_, _, _, rfl, h⟩
  · exact no_ok h
noncomputable def o_bget : OF := fun l H n k =>
  sList no (fun a r => sList no (fun b r2 => sList (onP0 a fun w => sInt (fun j i => bi (keq j .i64) (onNat no (fun i => bi (Nat.ble i 1000000) (onC0 (hg w H) fun vn => sInt (fun j2 m => bi (keq j2 .i64) (bi (ilt (Int.ofNat i) m)
    (onCA 1 (hg w H) fun vs => onSlc vs fun d o L => onBy (hg d H) fun N bw => bi (an (Nat.blt (Nat.div i 8) L) (Nat.blt (Nat.add o (Nat.div i 8)) N)) (fb (Nat.beq (Nat.mod (Nat.shiftRight (byt (Nat.add o (Nat.div i 8)) bw) (Nat.mod i 8)) 2) 1) fun v => k v H n) no)
    (k (.bool false) H n)) no) vn) no) i) no) b) (fun _ _ => no) r2) r) l
theorem get_fin : ∀ x : Fin 256, ∀ j : Fin 8, decide ((0 : Int) < bits .and .u8 (Int.fdiv (x.val : Int) (2 ^ (min j.val 8))) 1) = Nat.beq (x.val >>> j.val % 2) 1 := by decide +kernel
theorem o_bget_ok {Ok : St → Prop} [Okay Ok] {ng : Nat} {l : CV} {cH : He} {n : Nat} {k : EK} (h : Ok (o_bget l cH n k)) : ∃ cv cH' n', Ok (k cv cH' n') ∧
    ∀ E Pr H vs, (∀ g, g < ng → ∃ q, E g = some (g, q)) → LR E l vs → Rel E Pr n cH H → ∀ X, DoesX Tryz.prog 109 vs H (fun v H' => ∃ E', E.le E' ∧ Rel E' Pr n' cH' H' ∧ VR E' cv v) X := by
  obtain ⟨a, b, rfl, h1⟩ := two_ok h
  clear h
  obtain ⟨w, h2, ea⟩ := onP0_ok h1
  obtain ⟨j, i', rfl, h3⟩ := sInt_ok h2
  obtain ⟨hj, h4⟩ := bi_ok h3
  obtain ⟨i, rfl, h5⟩ := onNat_ok h4
  obtain ⟨hi, h6⟩ := bi_ok h5
  obtain ⟨m0, N0, t0, eb, hN0, h7⟩ := onC0_ok h6
  obtain ⟨j2, m, em, h8⟩ := sInt_ok h7
  obtain ⟨hj2, h9⟩ := bi_ok h8
  clear h1 h2 h3 h4 h5 h6 h7 h8
  have hj := keq_eq hj
  have hj2 := keq_eq hj2
  subst hj; subst hj2
  have hi : i ≤ 1000000 := Nat.le_of_ble_eq_true hi
  have open' : ∀ {E : En} {Pr : Prt} {H : Heap} {vs : List Value}, LR E (.cons a (.cons (.int .i64 (Int.ofNat i)) .nil)) vs → Rel E Pr n cH H → ∃ rb q, E w = some (rb, q) ∧ vs = [.pointer (some ⟨rb, 0, none⟩), .int .i64 (i : Int)] ∧ hcell H rb 0 = some (.int .i64 m) := by
    rintro E Pr H vs ⟨x, r1, hx, ⟨y, r2, hy, hr2, rfl⟩, rfl⟩ hr
    have hr2 : r2 = [] := hr2
    subst hr2
    rw [ea] at hx
    obtain ⟨rb, q, hE, rfl⟩ := hx
    have hy : y = .int .i64 (Int.ofNat i) := hy
    subst hy
    obtain ⟨v, g1, g2⟩ := hr.cell0 eb hN0 hE
    rw [em] at g2
    have g2 : v = .int .i64 m := g2
    subst g2
    exact ⟨rb, q, hE, rfl, g1⟩
  cases hlt : ilt (Int.ofNat i) m with
  | false =>
    rw [hlt, bi_false] at h9
    have hge : ¬ ((i : Int) < m) := fun h => by
      rw [(ilt_eq (Int.ofNat i) m).2 h] at hlt; cases hlt
    refine ⟨_, _, _, h9, fun E Pr H vs _ hl hr X => ?_⟩
    obtain ⟨rb, q, hE, rfl, hc⟩ := open' hl hr
    refine Does.x (Fn_of_vc Tryz.mixed (vc_bget _ _ _ _) ?_)
    exact ⟨fun _ => ⟨rb, 0, rfl, m, hc, fun h => absurd h hge, fun _ => ⟨E, En.le.refl E, hr, rfl⟩⟩, fun h => absurd (Int.natCast_nonneg i) h⟩
  | true =>
    rw [hlt, bi_true] at h9
    have hlt' : (i : Int) < m := (ilt_eq (Int.ofNat i) m).1 hlt
    obtain ⟨m1, N1, t1, eb1, hN1, h10⟩ := onCA_ok h9
    obtain ⟨d, o, L, h11, hv⟩ := onSlc_ok h10
    obtain ⟨m2, N, bw, ed, h12⟩ := onBy_ok h11
    obtain ⟨c1, h13⟩ := bi_ok h12
    obtain ⟨c2, c3⟩ := an_true.1 c1
    have c2 : i / 8 < L := by have h : Nat.blt (i / 8) L = true := c2; simpa using h
    have c3 : o + i / 8 < N := by have h : Nat.blt (o + i / 8) N = true := c3; simpa using h
    refine ⟨_, _, _, fb_ok h13, fun E Pr H vs _ hl hr X => ?_⟩
    obtain ⟨rb, q, hE, rfl, hc⟩ := open' hl hr
    obtain ⟨u1, hu1, hv1⟩ := hr.cellI eb1 (i := 1) hN1 hE
    obtain ⟨rd, qd, C, hEd, rfl, hC⟩ := hv E u1 hv1
    have hbd := (hr.blk d rd qd hEd).2
    rw [ed] at hbd
    obtain ⟨cs, e', lo, hi', f1, f2, f3, f4, f5⟩ := hbd
    have hcell8 : hcell H rd (o + i / 8) = some (.int .u8 (byt (o + i / 8) bw : Nat)) := by rw [hcell_at f1]; exact f5 _ c3
    refine Does.x (Fn_of_vc Tryz.mixed (vc_bget _ _ _ _) ?_)
    refine ⟨fun _ => ⟨rb, 0, rfl, m, hc, fun _ => ⟨rb, 0, rfl, some ⟨rd, o, none⟩, L, C, hu1, by decide, fun q9 hq9 => ?_⟩, fun h => absurd hlt' h⟩, fun h => absurd (Int.natCast_nonneg i) h⟩
    rw [wrap_tdiv (Int.natCast_nonneg i) (by decide) (by omega)] at hq9
    have e1 : q9.toNat = i / 8 := by omega
    refine ⟨by omega, by omega, rd, o, rfl, _, by rw [e1]; exact hcell8, by decide, fun q13 hq13 => ?_⟩
    rw [tmod_pos (Int.natCast_nonneg i)] at hq13
    have e2 : q13.toNat = i % 8 := by omega
    refine ⟨by omega, ?_⟩
    rintro _ rfl _ rfl
    refine ⟨E, En.le.refl E, hr, ?_⟩
    have := get_fin ⟨byt (o + i / 8) bw, byt_lt _ _⟩ ⟨i % 8, by omega⟩
    show Value.bool _ = Value.bool _
    rw [e2]
    congr 1
    exact Eq.trans (decide_eq_decide.2 Iff.rfl) this
end Go.Ex
end

section
/-! strings.Count of one byte, told. -/
open Go Go.Vc
namespace Go.Proofs
section
open Go.Shelf
def Tryz.lays138_ren : Go.Shelf.Ren := ⟨fun | 138 => 368 | 195 => 392 | 218 => 394 | 143 => 369 | 219 => 395 | 217 => 285 | 225 => 411 | 224 => 412 | 267 => 413 | 266 => 347 | 314 => 419 | n => n, fun | 9 => 9 | 3 => 3 | 4 => 4 | 5 => 5 | 0 => 0 | 46 => 311 | 146 => 435 | 51 => 358 | n => n, fun | 1 => 1 | n => n⟩
theorem Tryz.lays138 : Go.Proofs.Lays.n138 Tryz.prog Tryz.lays138_ren := {
  mixed := by kernel_rfl
  f138 := Tryz.func368.trans (congrArg some (by kernel_rfl))
  f143 := Tryz.func369.trans (congrArg some (by kernel_rfl))
  f195 := Tryz.func392.trans (congrArg some (by kernel_rfl))
  f217 := Tryz.func285.trans (congrArg some (by kernel_rfl))
  f218 := Tryz.func394.trans (congrArg some (by kernel_rfl))
  f219 := Tryz.func395.trans (congrArg some (by kernel_rfl))
  f224 := Tryz.func412.trans (congrArg some (by kernel_rfl))
  f225 := Tryz.func411.trans (congrArg some (by kernel_rfl))
  f266 := Tryz.func347.trans (congrArg some (by kernel_rfl))
  f267 := Tryz.func413.trans (congrArg some (by kernel_rfl))
  f314 := Tryz.func419.trans (congrArg some (by kernel_rfl))
  t0 := Tryz.underlying0
  a0 := Tryz.isAgg0
  z0 := Tryz.sizeOf0
  v0 := Tryz.zeroValue0
  t3 := Tryz.underlying3
  a3 := Tryz.isAgg3
  z3 := Tryz.sizeOf3
  v3 := Tryz.zeroValue3
  t4 := Tryz.underlying4
  a4 := Tryz.isAgg4
  z4 := Tryz.sizeOf4
  v4 := Tryz.zeroValue4
  t5 := Tryz.underlying5
  a5 := Tryz.isAgg5
  z5 := Tryz.sizeOf5
  v5 := Tryz.zeroValue5
  t9 := Tryz.underlying9
  a9 := Tryz.isAgg9
  z9 := Tryz.sizeOf9
  v9 := Tryz.zeroValue9
  t46 := Tryz.underlying311
  a46 := Tryz.isAgg311
  z46 := Tryz.sizeOf311
  v46 := Tryz.zeroValue311
  t51 := Tryz.underlying358
  a51 := Tryz.isAgg358
  z51 := Tryz.sizeOf358
  v51 := Tryz.zeroValue358
  t146 := Tryz.underlying435
  a146 := Tryz.isAgg435
  z146 := Tryz.sizeOf435
  v146 := Tryz.zeroValue435
  g1 := by kernel_rfl }
end
theorem strings_Count_one (s : ByteArray) (c : UInt8) (w : World) :
    Calls Tryz.prog 368 #[.string s, .string ⟨#[c]⟩] w fun e w' => e = .returned (.int .i64 (Lib.countByte s.data.toList c)) ∧ w' = w := Any.strings_Count_one Tryz.lays138 s c w
end Go.Proofs
namespace Go.Ex
open Go Go.Vc Go.Proofs
noncomputable def o_cnt : OF := fun l H n k =>
  sList no (fun a r => sList no (fun b r2 => sList (sStr (fun m v => sStr (fun m' w => bi (an (Nat.ble m 1000) (Nat.beq m' 1)) (fN (fun z => k (.int .i64 (Int.ofNat z)) H n) (Go.Lib.countByte (byteL m v) (UInt8.ofNat (byt 0 w)))) no) b) a) (fun _ _ => no) r2) r) l
theorem o_cnt_ok {Ok : St → Prop} [Okay Ok] {ng : Nat} {l : CV} {cH : He} {n : Nat} {k : EK} (h : Ok (o_cnt l cH n k)) : ∃ cv cH' n', Ok (k cv cH' n') ∧
    ∀ E Pr H vs, (∀ g, g < ng → ∃ q, E g = some (g, q)) → LR E l vs → Rel E Pr n cH H → ∀ X, DoesX Tryz.prog 368 vs H (fun v H' => ∃ E', E.le E' ∧ Rel E' Pr n' cH' H' ∧ VR E' cv v) X := by
  obtain ⟨a, b, rfl, h1⟩ := two_ok h
  clear h
  obtain ⟨m, v, rfl, h2⟩ := sStr_ok h1
  clear h1
  obtain ⟨m', w, rfl, h3⟩ := sStr_ok h2
  clear h2
  obtain ⟨c1, h5⟩ := bi_ok h3
  clear h3
  obtain rfl := Nat.eq_of_beq_eq_true (an_true.1 c1).2
  rw [fN_eq] at h5
  refine ⟨_, _, _, h5, ?_⟩
  rintro E Pr H vs _ ⟨x, r1, hx, ⟨y, r2, hy, hr2, rfl⟩, rfl⟩ hr X
  have hr2 : r2 = [] := hr2
  subst hr2
  have hx : x = .string (strV m v) := hx
  have hy : y = .string (strV 1 w) := hy
  subst hx; subst hy
  have e1 : strV 1 w = ⟨#[UInt8.ofNat (byt 0 w)]⟩ := by
    unfold strV
    rw [byt_eq]
    rfl
  rw [e1]
  refine Does.x ?_
  intro W hW
  refine (strings_Count_one (strV m v) _ W).mono ?_
  rintro e W' ⟨rfl, rfl⟩
  exact ⟨_, rfl, Sim.refl _, E, En.le.refl E, by rw [hW]; exact hr, by rw [strV_list]; rfl⟩
end Go.Ex
end

section
open Go Go.Vc
namespace Go.Proofs
set_option maxRecDepth 100000
/-- slices.Insert[[]pentimento/api.Item,pentimento/api.Item] -/
theorem InsV (x0 : Option Addr) (x0l : Nat) (x0c : Nat) (x1 : Int) (x2 : Option Addr) (x2l : Nat) (x2c : Nat) (H : Heap) (R : Value → Heap → Prop) : Walk Tryz.prog 366 [] [(.slice x0 x0l x0c), (.int .i64 x1), (.slice x2 x2l x2c)] H R = (
  (0 : Int) ≤ x1 ∧ (x1 : Int) ≤ (x0l : Int) ∧ ∀ a1 : Option Addr, a1 = (if x0c = (Int.toNat x1) then x0 else Option.map (fun x => Addr.add x ((Int.toNat x1) * 5)) x0) → (
    (((((x2l : Int) : Int) = 0) → (
          R (.slice x0 x0l x0c) H)) ∧ (¬ (((x2l : Int) : Int) = 0) → (
          ((((x1 : Int) = (x0l : Int)) → (
                ∃ old2 new3 : List Value, SRow H 5 x0l (.slice x0 x0l x0c) old2 ∧ SRow H 5 x2l (.slice x2 x2l x2c) new3 ∧ (∀ u ∈ new3, Value.oneCell' u = true) ∧ (x0l + x2l) * 64 ≤ 140737488355328 ∧ (x0l + x2l ≤ x0c → roomOf H x0 (x0l * 5) (x2l * 5)) ∧ ∀ a4 : Option Addr, ∀ c5 : Nat, ∀ H6 : Heap, App H 5 78 [(.string (ByteArray.mk #[])), (.int .i64 0), (.int .i64 0), (.float .f64 0), (.slice none 0 0)] x0 x0l x0c old2 new3 x2l a4 c5 H6 → (
                  R (.slice a4 (x0l + x2l) c5) H6))) ∧ (¬ ((x1 : Int) = (x0l : Int)) → (
                (In64 ((x0l : Int) + (x2l : Int))) ∧
                (((((x0c : Int) : Int) < ((x0l : Int) + (x2l : Int))) → (
                      (0 : Int) ≤ x1 ∧ (x1 : Int) ≤ (x0c : Int) ∧ (
                        (In64 ((x0l : Int) + (x2l : Int))) ∧
                        (In64 (((x0l : Int) + (x2l : Int)) - x1)) ∧
                        ∃ old7 : List Value, SRow H 5 (Int.toNat x1) (.slice x0 (Int.toNat x1) x0c) old7 ∧ (0 : Int) ≤ (((x0l : Int) + (x2l : Int)) - x1) ∧ ((Int.toNat x1) + (Int.toNat (((x0l : Int) + (x2l : Int)) - x1))) * 64 ≤ 140737488355328 ∧ ((Int.toNat x1) + (Int.toNat (((x0l : Int) + (x2l : Int)) - x1)) ≤ x0c → roomOf H x0 ((Int.toNat x1) * 5) ((Int.toNat (((x0l : Int) + (x2l : Int)) - x1)) * 5)) ∧ ∀ a8 : Option Addr, ∀ c9 : Nat, ∀ H10 : Heap, App H 5 78 [(.string (ByteArray.mk #[])), (.int .i64 0), (.int .i64 0), (.float .f64 0), (.slice none 0 0)] x0 (Int.toNat x1) x0c old7 (List.flatten (List.replicate (Int.toNat (((x0l : Int) + (x2l : Int)) - x1)) [(.string (ByteArray.mk #[])), (.int .i64 0), (.int .i64 0), (.float .f64 0), (.slice none 0 0)])) (Int.toNat (((x0l : Int) + (x2l : Int)) - x1)) a8 c9 H10 → (
                          (0 : Int) ≤ x1 ∧ (x1 : Int) ≤ (((Int.toNat x1) + (Int.toNat (((x0l : Int) + (x2l : Int)) - x1))) : Int) ∧ ∀ a11 : Option Addr, a11 = (if c9 = (Int.toNat x1) then a8 else Option.map (fun x => Addr.add x ((Int.toNat x1) * 5)) a8) → (
                            ∃ new12 : List Value, SRow H10 5 (min x2l (((Int.toNat x1) + (Int.toNat (((x0l : Int) + (x2l : Int)) - x1))) - (Int.toNat x1))) (.slice x2 x2l x2c) new12 ∧ (∀ u ∈ new12, Value.oneCell' u = true) ∧ roomOf H10 a11 0 ((min x2l (((Int.toNat x1) + (Int.toNat (((x0l : Int) + (x2l : Int)) - x1))) - (Int.toNat x1))) * 5) ∧ ∀ H13 : Heap, Copied H10 a11 new12 H13 → (
                              (In64 (x1 + (x2l : Int))) ∧
                              (0 : Int) ≤ (x1 + (x2l : Int)) ∧ ((x1 + (x2l : Int)) : Int) ≤ (((Int.toNat x1) + (Int.toNat (((x0l : Int) + (x2l : Int)) - x1))) : Int) ∧ ∀ a14 : Option Addr, a14 = (if c9 = (Int.toNat (x1 + (x2l : Int))) then a8 else Option.map (fun x => Addr.add x ((Int.toNat (x1 + (x2l : Int))) * 5)) a8) → (
                                (0 : Int) ≤ x1 ∧ (x1 : Int) ≤ (x0l : Int) ∧ ∀ a15 : Option Addr, a15 = (if x0c = (Int.toNat x1) then x0 else Option.map (fun x => Addr.add x ((Int.toNat x1) * 5)) x0) → (
                                  ∃ new16 : List Value, SRow H13 5 (min (x0l - (Int.toNat x1)) (((Int.toNat x1) + (Int.toNat (((x0l : Int) + (x2l : Int)) - x1))) - (Int.toNat (x1 + (x2l : Int))))) (.slice a15 (x0l - (Int.toNat x1)) (x0c - (Int.toNat x1))) new16 ∧ (∀ u ∈ new16, Value.oneCell' u = true) ∧ roomOf H13 a14 0 ((min (x0l - (Int.toNat x1)) (((Int.toNat x1) + (Int.toNat (((x0l : Int) + (x2l : Int)) - x1))) - (Int.toNat (x1 + (x2l : Int))))) * 5) ∧ ∀ H17 : Heap, Copied H13 a14 new16 H17 → (
                                    (R (.slice a8 ((Int.toNat x1) + (Int.toNat (((x0l : Int) + (x2l : Int)) - x1))) c9) H17)))))))))) ∧ (¬ (((x0c : Int) : Int) < ((x0l : Int) + (x2l : Int))) → (
                      (In64 ((x0l : Int) + (x2l : Int))) ∧
                      (0 : Int) ≤ ((x0l : Int) + (x2l : Int)) ∧ (((x0l : Int) + (x2l : Int)) : Int) ≤ (x0c : Int) ∧ (
                        (In64 (x1 + (x2l : Int))) ∧
                        (0 : Int) ≤ (x1 + (x2l : Int)) ∧ ((x1 + (x2l : Int)) : Int) ≤ ((Int.toNat ((x0l : Int) + (x2l : Int))) : Int) ∧ ∀ a18 : Option Addr, a18 = (if x0c = (Int.toNat (x1 + (x2l : Int))) then x0 else Option.map (fun x => Addr.add x ((Int.toNat (x1 + (x2l : Int))) * 5)) x0) → (
                          Apart H (x2) (a18) ∧ (
                            (((false = false) → (
                                  (In64 (x1 + (x2l : Int))) ∧
                                  (0 : Int) ≤ (x1 + (x2l : Int)) ∧ ((x1 + (x2l : Int)) : Int) ≤ ((Int.toNat ((x0l : Int) + (x2l : Int))) : Int) ∧ ∀ a19 : Option Addr, a19 = (if x0c = (Int.toNat (x1 + (x2l : Int))) then x0 else Option.map (fun x => Addr.add x ((Int.toNat (x1 + (x2l : Int))) * 5)) x0) → (
                                    (0 : Int) ≤ x1 ∧ (x1 : Int) ≤ ((Int.toNat ((x0l : Int) + (x2l : Int))) : Int) ∧ ∀ a20 : Option Addr, a20 = (if x0c = (Int.toNat x1) then x0 else Option.map (fun x => Addr.add x ((Int.toNat x1) * 5)) x0) → (
                                      ∃ new21 : List Value, SRow H 5 (min ((Int.toNat ((x0l : Int) + (x2l : Int))) - (Int.toNat x1)) ((Int.toNat ((x0l : Int) + (x2l : Int))) - (Int.toNat (x1 + (x2l : Int))))) (.slice a20 ((Int.toNat ((x0l : Int) + (x2l : Int))) - (Int.toNat x1)) (x0c - (Int.toNat x1))) new21 ∧ (∀ u ∈ new21, Value.oneCell' u = true) ∧ roomOf H a19 0 ((min ((Int.toNat ((x0l : Int) + (x2l : Int))) - (Int.toNat x1)) ((Int.toNat ((x0l : Int) + (x2l : Int))) - (Int.toNat (x1 + (x2l : Int))))) * 5) ∧ ∀ H22 : Heap, Copied H a19 new21 H22 → (
                                        ((0 : Int) ≤ x1 ∧ (x1 : Int) ≤ ((Int.toNat ((x0l : Int) + (x2l : Int))) : Int) ∧ ∀ a23 : Option Addr, a23 = (if x0c = (Int.toNat x1) then x0 else Option.map (fun x => Addr.add x ((Int.toNat x1) * 5)) x0) → (
                                            ∃ new24 : List Value, SRow H22 5 (min x2l ((Int.toNat ((x0l : Int) + (x2l : Int))) - (Int.toNat x1))) (.slice x2 x2l x2c) new24 ∧ (∀ u ∈ new24, Value.oneCell' u = true) ∧ roomOf H22 a23 0 ((min x2l ((Int.toNat ((x0l : Int) + (x2l : Int))) - (Int.toNat x1))) * 5) ∧ ∀ H25 : Heap, Copied H22 a23 new24 H25 → (
                                              R (.slice x0 (Int.toNat ((x0l : Int) + (x2l : Int))) x0c) H25)))))))) ∧ (¬ (false = false) → (
                                  (0 : Int) ≤ (x0l : Int) ∧ ((x0l : Int) : Int) ≤ ((Int.toNat ((x0l : Int) + (x2l : Int))) : Int) ∧ ∀ a26 : Option Addr, a26 = (if x0c = (Int.toNat (x0l : Int)) then x0 else Option.map (fun x => Addr.add x ((Int.toNat (x0l : Int)) * 5)) x0) → (
                                    ∃ new27 : List Value, SRow H 5 (min x2l ((Int.toNat ((x0l : Int) + (x2l : Int))) - (Int.toNat (x0l : Int)))) (.slice x2 x2l x2c) new27 ∧ (∀ u ∈ new27, Value.oneCell' u = true) ∧ roomOf H a26 0 ((min x2l ((Int.toNat ((x0l : Int) + (x2l : Int))) - (Int.toNat (x0l : Int)))) * 5) ∧ ∀ H28 : Heap, Copied H a26 new27 H28 → (
                                      (0 : Int) ≤ x1 ∧ (x1 : Int) ≤ ((Int.toNat ((x0l : Int) + (x2l : Int))) : Int) ∧ ∀ a29 : Option Addr, a29 = (if x0c = (Int.toNat x1) then x0 else Option.map (fun x => Addr.add x ((Int.toNat x1) * 5)) x0) → (
                                        Does Tryz.prog 391 [(.slice a29 ((Int.toNat ((x0l : Int) + (x2l : Int))) - (Int.toNat x1)) (x0c - (Int.toNat x1))), (.int .i64 (x2l : Int))] H28 fun v30 H31 => v30 = (.tuple #[]) ∧ (
                                          R (.slice x0 (Int.toNat ((x0l : Int) + (x2l : Int))) x0c) H31))))))))))))))))))))) := by kernel_rfl


end Go.Proofs
end

section
/-! slices.Insert of one item, told. -/
namespace Go.Ex
open Go Go.Vc Go.Proofs
theorem app_at {pre xs tl : List Value} {cs : Array Value} {i L : Nat} (hi : i < L) (hpl : pre.length = i * 5) (hxl : xs.length = 5) (htl : tl.length = (L - i) * 5) (hs : (L + 1) * 5 ≤ cs.size)
    (hpre : ∀ (j : Nat) (u : Value), pre[j]? = some u → cs[j]? = some u) : ∀ (j : Nat) (u : Value), (pre ++ xs ++ tl)[j]? = some u → (wrA (wrA cs (i * 5) xs) ((i + 1) * 5) tl)[j]? = some u ∧ (wrA (wrA cs ((i + 1) * 5) tl) (i * 5) xs)[j]? = some u := by
  intro j u hj
  rw [wrA_get _ _ _ _ (by rw [wrA_size]; omega), wrA_get _ _ _ _ (by omega), wrA_get _ _ _ _ (by rw [wrA_size]; omega), wrA_get _ _ _ _ (by omega)]
  by_cases h1 : j < i * 5
  · rw [List.append_assoc, List.getElem?_append_left (by omega)] at hj
    rw [if_neg (by omega), if_neg (by omega), if_neg (by omega), if_neg (by omega)]
    exact ⟨hpre j u hj, hpre j u hj⟩
  · rw [List.append_assoc, List.getElem?_append_right (by omega)] at hj
    by_cases h2 : j < (i + 1) * 5
    · rw [List.getElem?_append_left (by omega)] at hj
      rw [if_neg (by omega), if_pos (by omega), if_pos (by omega), ← hj, hpl]
      exact ⟨rfl, rfl⟩
    · rw [List.getElem?_append_right (by omega)] at hj
      have hlt := (List.getElem?_eq_some_iff.1 hj).1
      rw [if_pos (by omega), if_neg (by omega), if_pos (by omega), ← hj, hpl, hxl, show j - i * 5 - 5 = j - (i + 1) * 5 by omega]
      exact ⟨rfl, rfl⟩
theorem addE (b k : Nat) : Option.map (fun x => Addr.add x k) (some ⟨b, 0, none⟩) = some ⟨b, k, none⟩ := by
  show some (Addr.add _ _) = _
  rw [Addr.add_lit, Nat.zero_add]
theorem ins_ok {H : Heap} {r q L i rv vo vc : Nat} {cs : Array Value} {e : TypeId} {lo hi : Nat} {pre tl xs : List Value}
    (hr : H[r]? = some (.cells cs e (lo, hi))) (hf : ∀ o, o ≤ cs.size → ¬ (lo ≤ o ∧ o < hi)) (hq : q * 5 ≤ cs.size) (hLq : L ≤ q) (hiL : i < L) (hby : (L + 1) * 64 ≤ 140737488355328)
    (hpl : pre.length = i * 5) (hpre : ∀ (j : Nat) (u : Value), pre[j]? = some u → cs[j]? = some u) (htl : tl.length = (L - i) * 5) (htc : ∀ (j : Nat) (u : Value), tl[j]? = some u → cs[i * 5 + j]? = some u) (h1t : ∀ u ∈ tl, u.oneCell' = true)
    (hx : SRow H 5 1 (.slice (some ⟨rv, vo, none⟩) 1 vc) xs) (h1x : ∀ u ∈ xs, u.oneCell' = true) (hne : rv ≠ r) (hv : ∃ cs e f, H[rv]? = some (.cells cs e f) ∧ hfrozen H rv vo = false ∧ hfrozen H rv cs.size = false) :
    Does Tryz.prog 366 [.slice (some ⟨r, 0, none⟩) L q, .int .i64 i, .slice (some ⟨rv, vo, none⟩) 1 vc] H fun v H' => ∃ c b, v = .slice (some ⟨b, 0, none⟩) (L + 1) c ∧ L + 1 ≤ c ∧
      ((b = r ∧ c = q ∧ H'.size = H.size ∧ (∀ k, k ≠ r → H'[k]? = H[k]?) ∧ ∃ cs', H'[r]? = some (.cells cs' e (lo, hi)) ∧ cs'.size = cs.size ∧ ∀ (j : Nat) (u : Value), (pre ++ xs ++ tl)[j]? = some u → cs'[j]? = some u) ∨
       (b = H.size ∧ (∀ k, k < H.size → H'[k]? = H[k]?) ∧ H'.size = H.size + 1 ∧ ∃ cs' e', H'[b]? = some (.cells cs' e' (0, 0)) ∧ cs'.size = c * 5 ∧ ∀ (j : Nat) (u : Value), (pre ++ xs ++ tl)[j]? = some u → cs'[j]? = some u)) := by
  have hrl := (Array.getElem?_eq_some_iff.1 hr).1
  have hxl : xs.length = 5 := by have := hx.1; omega
  obtain ⟨_, hx2, hx3⟩ := hx
  have hxs : ∀ (j : Nat) (u : Value), xs[j]? = some u → hcell H rv (vo + j) = some u := hx3
  have hvl : rv < H.size := by obtain ⟨_, _, _, h, _⟩ := hv; exact (Array.getElem?_eq_some_iff.1 h).1
  refine Fn_of_vc Tryz.mixed (InsV _ _ _ _ _ _ _ _ _) ?_
  refine ⟨by omega, by omega, fun a1 _ => ⟨fun h => by simp at h, fun _ => ⟨fun h => by omega, fun _ => ⟨by unfold In64; omega, fun hg => ?_, fun hg => ?_⟩⟩⟩⟩
  · have hLq' : L = q := by omega
    subst hLq'
    have e1 : (((L : Int) + ((1 : Nat) : Int)) - (i : Int)).toNat = L + 1 - i := by omega
    have e2 : ((i : Int) + ((1 : Nat) : Int)).toNat = i + 1 := by omega
    simp only [e1, e2, Int.toNat_natCast]
    refine ⟨by omega, by omega, by unfold In64; omega, by unfold In64; omega, pre, SRow_of hpl (fun j u hj => by rw [hcell_at hr, Nat.zero_add]; exact hpre j u hj), by omega, by omega, by omega, fun a8 c9 H10 happ => ?_⟩
    rcases happ with ⟨h, _⟩ | ⟨_, rfl, hc9, _, rfl⟩
    · omega
    · refine ⟨by omega, by omega, fun a11 ha11 => ?_⟩
      rw [if_neg (by omega)] at ha11
      obtain rfl : a11 = some ⟨H.size, i * 5, none⟩ := by rw [ha11, addE]
      obtain ⟨A, hA⟩ : ∃ A, A = (pre ++ (List.replicate (L + 1 - i) [Value.string (ByteArray.mk #[]), .int .i64 0, .int .i64 0, .float .f64 0, .slice none 0 0]).flatten ++ (List.replicate (c9 - (i + (L + 1 - i))) [Value.string (ByteArray.mk #[]), .int .i64 0, .int .i64 0, .float .f64 0, .slice none 0 0]).flatten).toArray := ⟨_, rfl⟩
      have hAs : A.size = c9 * 5 := by
        rw [hA]
        simp only [List.size_toArray, List.length_append, flat_rep, hpl]
        simp only [List.length_cons, List.length_nil]
        rw [← Nat.add_mul, ← Nat.add_mul]; congr 1; omega
      have hAp : ∀ (j : Nat) (u : Value), pre[j]? = some u → A[j]? = some u := fun j u hj => by
        have := (List.getElem?_eq_some_iff.1 hj).1
        rw [hA, List.getElem?_toArray, List.append_assoc, List.getElem?_append_left this]; exact hj
      rw [← hA]
      have hB : (H.push (.cells A 78))[H.size]? = some (.cells A 78 (0, 0)) := by simp
      have hfB : ∀ o, o < A.size → ¬ (0 ≤ o ∧ o < 0) := fun o _ => by omega
      rw [show min 1 (i + (L + 1 - i) - i) = 1 by omega]
      refine ⟨xs, ⟨hxl, .inr rfl, fun j u hj => by show hcell _ rv (vo + j) = _; have := hxs j u hj; unfold hcell at this ⊢; rw [Array.getElem?_push, if_neg (by omega)]; exact this⟩, h1x, ⟨rfl, cells_at hB hfB _ _ (by rw [hAs]; show i * 5 + 0 + _ ≤ _; omega)⟩, ?_⟩
      rintro H13 (rfl : _ = _)
      have h13 := hsets_at xs _ _ _ _ _ (i * 5) hB
      obtain ⟨x13, z13⟩ := hsets_ext (H := H.push (.cells A 78)) (b := H.size) xs (i * 5)
      refine ⟨by unfold In64; omega, by omega, by omega, fun a14 ha14 => ?_⟩
      rw [if_neg (by omega)] at ha14
      obtain rfl : a14 = some ⟨H.size, (i + 1) * 5, none⟩ := by rw [ha14, addE]
      refine ⟨by omega, by omega, fun a15 ha15 => ?_⟩
      rw [if_neg (by omega)] at ha15
      obtain rfl : a15 = some ⟨r, i * 5, none⟩ := by rw [ha15, addE]
      have hz : (H.push (.cells A 78)).size = H.size + 1 := by simp
      refine ⟨tl, ⟨by rw [htl]; congr 1; omega, .inr rfl, fun j u hj => by
        have hk := x13.keep r (by omega) (by simp; omega)
        rw [Array.getElem?_push, if_neg (by omega)] at hk
        rw [hcell_at (hk.trans hr)]; exact htc j u hj⟩, h1t, ⟨rfl, cells_at h13 (fun o _ => by omega) _ _ (by rw [wrA_size, hAs, show min (L - i) (i + (L + 1 - i) - (i + 1)) = L - i by omega]; show (i + 1) * 5 + 0 + _ ≤ _; omega)⟩, ?_⟩
      rintro H17 (rfl : _ = _)
      have h17 := hsets_at tl _ _ _ _ _ ((i + 1) * 5) h13
      obtain ⟨x17, z17⟩ := hsets_ext (H := hsets (H.push (.cells A 78)) H.size (i * 5) xs) (b := H.size) tl ((i + 1) * 5)
      refine ⟨c9, H.size, by rw [show i + (L + 1 - i) = L + 1 by omega], by omega, .inr ⟨rfl, fun k hk => ?_, by rw [z17, z13, hz], _, _, h17, by rw [wrA_size, wrA_size, hAs], fun j u hj => (app_at hiL hpl hxl htl (by rw [hAs]; omega) hAp j u hj).1⟩⟩
      rw [x17.keep k (by rw [z13, hz]; omega) (by simp; omega), x13.keep k (by rw [hz]; omega) (by simp; omega), Array.getElem?_push, if_neg (by omega)]
  · have e1 : ((L : Int) + ((1 : Nat) : Int)).toNat = L + 1 := by omega
    have e2 : ((i : Int) + ((1 : Nat) : Int)).toNat = i + 1 := by omega
    simp only [e1, e2, Int.toNat_natCast]
    have hf' : ∀ o, o < cs.size → ¬ (lo ≤ o ∧ o < hi) := fun o ho => hf o (Nat.le_of_lt ho)
    refine ⟨by unfold In64; omega, by omega, by omega, by unfold In64; omega, by omega, by omega, fun a18 ha18 => ?_⟩
    rw [if_neg (by omega)] at ha18
    obtain rfl : a18 = some ⟨r, (i + 1) * 5, none⟩ := by rw [ha18, addE]
    refine ⟨⟨rv, vo, r, _, rfl, rfl, hne, hv, cs, e, _, hr, by omega⟩, fun _ => ⟨by unfold In64; omega, by omega, by omega, fun a19 ha19 => ?_⟩, fun h => (h trivial).elim⟩
    rw [if_neg (by omega)] at ha19
    obtain rfl : a19 = some ⟨r, (i + 1) * 5, none⟩ := by rw [ha19, addE]
    refine ⟨by omega, by omega, fun a20 ha20 => ?_⟩
    rw [if_neg (by omega)] at ha20
    obtain rfl : a20 = some ⟨r, i * 5, none⟩ := by rw [ha20, addE]
    have em : min (L + 1 - i) (L + 1 - (i + 1)) = L - i := by omega
    rw [em]
    refine ⟨tl, ⟨htl, .inr rfl, fun j u hj => by rw [hcell_at hr]; exact htc j u hj⟩, h1t, ⟨rfl, cells_at hr hf' _ _ (by show (i + 1) * 5 + 0 + _ ≤ _; omega)⟩, ?_⟩
    rintro H22 (rfl : _ = _)
    have h22 := hsets_at tl _ _ _ _ _ ((i + 1) * 5) hr
    obtain ⟨x22, z22⟩ := hsets_ext (H := H) (b := r) tl ((i + 1) * 5)
    refine ⟨by omega, by omega, fun a23 ha23 => ?_⟩
    rw [if_neg (by omega)] at ha23
    obtain rfl : a23 = some ⟨r, i * 5, none⟩ := by rw [ha23, addE]
    rw [show min 1 (L + 1 - i) = 1 by omega]
    refine ⟨xs, ⟨hxl, .inr rfl, fun j u hj => by have := hxs j u hj; unfold hcell at this ⊢; rw [x22.keep rv hvl (by simpa using hne)]; exact this⟩, h1x, ⟨rfl, cells_at h22 (fun o ho => hf' o (by rwa [wrA_size] at ho)) _ _ (by rw [wrA_size]; show i * 5 + 0 + _ ≤ _; omega)⟩, ?_⟩
    rintro H25 (rfl : _ = _)
    have h25 := hsets_at xs _ _ _ _ _ (i * 5) h22
    obtain ⟨x25, z25⟩ := hsets_ext (H := hsets H r ((i + 1) * 5) tl) (b := r) xs (i * 5)
    refine ⟨q, r, rfl, by omega, .inl ⟨rfl, rfl, by rw [z25, z22], fun k hk => ?_, _, h25, by rw [wrA_size, wrA_size], fun j u hj => (app_at hiL hpl hxl htl (by omega) hpre j u hj).2⟩⟩
    show (hsets (hsets H r ((i + 1) * 5) tl) r (i * 5) xs)[k]? = _
    by_cases hks : k < H.size
    · rw [x25.keep k (by omega) (by simpa using hk), x22.keep k hks (by simpa using hk)]
    · rw [Array.getElem?_eq_none (by omega), Array.getElem?_eq_none (by omega)]
noncomputable def vlenC (s : CV) (k : Nat → St) : St := sSl (fun _ _ c _ => k c) (fun _ _ _ c => k c) (k 0) (k 0) s
noncomputable def insB (b i c : Nat) (l2 tl : CV) (t : T CV) (H : He) (n : Nat) (k : EK) : St :=
  setsT no l2 (Nat.mul i 5) t fun t => setsT no tl (Nat.mul (Nat.succ i) 5) t fun t => hset b .dead H fun H => fN (fun l => appC_new 5 l (Nat.mul l 5) t H n k) (Nat.succ c)
noncomputable def onC7 (x : Bk) (f : Nat → T CV → St) : St := match x with
  | .cells m N t => bi (Nat.beq m 7) (f N t) no
  | _ => no
theorem onC7_ok {Ok : St → Prop} [Okay Ok] {x : Bk} {f : Nat → T CV → St} (h : Ok (onC7 x f)) : ∃ N t, x = .cells 7 N t ∧ Ok (f N t) := by
  unfold onC7 at h
  split at h
  · obtain ⟨h1, h2⟩ := bi_ok h
    obtain rfl := Nat.eq_of_beq_eq_true h1
    exact ⟨_, _, rfl, h2⟩
  · exact no_ok h
noncomputable def insU (s : CV) (i : Nat) (v l2 : CV) (H : He) (n : Nat) (k : EK) : St :=
  sSl (fun _ _ _ _ => no) (fun b o e c => sSl (fun vb _ _ _ =>
    bi (an (Nat.beq o 0) (an (Nat.beq e 0) (an (nb (Nat.beq vb b)) (an (Nat.blt i c) (Nat.ble (Nat.mul (Nat.succ c) 64) 140737488355328)))))
      (onC7 (hg b H) fun N t => onCt (hg vb H) fun _ _ => bi (Nat.ble (Nat.mul c 5) N)
        (rdL (Nat.mul (Nat.sub c i) 5) (Nat.mul i 5) t fun tl => bi (allOne tl) (insB b i c l2 tl t H n k) no) no) no) (fun _ _ _ _ => no) no no v) no no s
noncomputable def o_ins : OF := fun l H n k =>
  sList no (fun s r => sList no (fun i r2 => sList no (fun v r3 => sList (sInt (fun j i => bi (keq j .i64) (onNat no (fun i => rowL 5 v H fun d l2 => bi (Nat.beq d 1)
    (vlenC s fun c => bi (Nat.beq i c) (appC 5 64 s 1 l2 H n k) (insU s i v l2 H n k)) no) i) no) i) (fun _ _ => no) r3) r2) r) l
theorem vlenC_ok {Ok : St → Prop} [Okay Ok] {s : CV} {k : Nat → St} (h : Ok (vlenC s k)) : ∃ c, Ok (k c) ∧ ∀ E v, VR E s v → vlen v = c := by
  rcases sSl_ok h with ⟨b, o, l, cap, rfl, h1⟩ | ⟨b, o, e', l, rfl, h1⟩ | ⟨rfl, h1⟩ | ⟨rfl, h1⟩
  · exact ⟨_, h1, by rintro E v ⟨r, q, _, rfl, _⟩; rfl⟩
  · exact ⟨_, h1, by rintro E v ⟨r, q, _, rfl, _⟩; rfl⟩
  · exact ⟨_, h1, by rintro E v ⟨r, q, _, rfl⟩; rfl⟩
  · exact ⟨_, h1, by
      intro E v hv
      have hv : v = _ := hv
      subst hv; rfl⟩
theorem insU_ok {Ok : St → Prop} [Okay Ok] {s v l2 : CV} {i n : Nat} {cH : He} {k : EK} (h : Ok (insU s i v l2 cH n k)) : ∃ cv cH' n', Ok (k cv cH' n') ∧
    ∀ E Pr H sv vv xs, VR E s sv → VR E v vv → LR E l2 xs → SRow H 5 1 vv xs → (∀ u ∈ xs, u.oneCell' = true) → vlen vv = 1 → Rel E Pr n cH H →
      Does Tryz.prog 366 [sv, .int .i64 i, vv] H (fun v H' => ∃ E', E.le E' ∧ Rel E' Pr n' cH' H' ∧ VR E' cv v) := by
  rcases sSl_ok h with ⟨_, _, _, _, _, h1⟩ | ⟨b, o, e, c, rfl, h1⟩ | ⟨_, h1⟩ | ⟨_, h1⟩
  · exact no_ok h1
  rotate_left
  · exact no_ok h1
  · exact no_ok h1
  rcases sSl_ok h1 with ⟨vb, vo, vl, vc, rfl, h2⟩ | ⟨_, _, _, _, _, h2⟩ | ⟨_, h2⟩ | ⟨_, h2⟩
  rotate_left
  · exact no_ok h2
  · exact no_ok h2
  · exact no_ok h2
  obtain ⟨a0, h3⟩ := bi_ok h2
  clear h h1 h2
  obtain ⟨a1, a0⟩ := an_true.1 a0
  obtain ⟨a2, a0⟩ := an_true.1 a0
  obtain ⟨a3, a0⟩ := an_true.1 a0
  obtain ⟨a4, a5⟩ := an_true.1 a0
  obtain rfl := Nat.eq_of_beq_eq_true a1
  obtain rfl := Nat.eq_of_beq_eq_true a2
  have hvb : vb ≠ b := fun e => by subst e; simp [nb_eq] at a3
  have hic : i < c := by simpa using a4
  have hby : (c + 1) * 64 ≤ 140737488355328 := Nat.le_of_ble_eq_true a5
  obtain ⟨N, t, hb, h4⟩ := onC7_ok h3
  obtain ⟨m', N', t', hbv, h5⟩ := onCt_ok h4
  obtain ⟨a6, h6⟩ := bi_ok h5
  have hN : c * 5 ≤ N := Nat.le_of_ble_eq_true a6
  obtain ⟨tl, h7, h8, h9⟩ := rdL_ok h6
  obtain ⟨h10, h11⟩ := bi_ok h7
  unfold insB at h11
  obtain ⟨_, h12⟩ := setsT_ok h11
  obtain ⟨_, h13⟩ := setsT_ok h12
  obtain ⟨hb65, cH1, h14, h15, h16⟩ := hset_ok h13
  rw [fN_eq] at h14
  obtain ⟨hn, cH', h17, h18, h19⟩ := appC_new_ok h14
  refine ⟨_, cH', n + 1, h17, ?_⟩
  rintro E Pr H sv vv xs ⟨r, q, hE, rfl, hLq⟩ ⟨rv, qv, hEv, rfl, _⟩ hx hxr h1x hvl hr
  have hLq : 0 + c ≤ q := hLq
  have hvl : vl = 1 := hvl
  subst hvl
  have hbr := (hr.blk b r q hE).2
  rw [hb] at hbr
  obtain ⟨cs, e0, lo, hi, g1, g2, g3, g4, g5⟩ := hbr
  have hbv' := (hr.blk vb rv qv hEv).2
  rw [hbv] at hbv'
  obtain ⟨csv, ev, lov, hiv, v1, v2, v3, v4, v5⟩ := hbv'
  have hq : q * 5 ≤ cs.size := g4 (by omega)
  have hne : rv ≠ r := fun e => by
    subst e
    exact hvb (hr.inj b vb _ _ _ hE hEv (by rw [hb]; show (7 : Nat) ≠ 1; omega) (by rw [hbv]; intro h; cases h)).symm
  have hxl : xs.length = 5 := by have := hxr.1; omega
  obtain ⟨tv, f1, f2, f3⟩ := h9 E (fun j v => cs[j]? = some v) fun j hj => g5 (i * 5 + j) (by
    have hj : j < (c - i) * 5 := hj
    have : (c - i) * 5 = c * 5 - i * 5 := Nat.sub_mul c i 5
    omega)
  have hvo : vo < csv.size := by
    have h0 : xs[0]? = some xs[0] := List.getElem?_eq_getElem (by omega)
    have := hxr.2.2 0 _ h0
    have this : hcell H rv (vo + 0) = _ := this
    rw [hcell_at v1] at this
    exact (Array.getElem?_eq_some_iff.1 this).1
  have hpre : ∀ (j : Nat) (u : Value), (cs.toList.take (i * 5))[j]? = some u → cs[j]? = some u := fun j u hj => by
    have hlt : j < i * 5 := by have := (List.getElem?_eq_some_iff.1 hj).1; simp at this; omega
    rw [List.getElem?_take_of_lt hlt] at hj
    simpa using hj
  have hi5 : i * 5 ≤ cs.size := by omega
  have hpl : (cs.toList.take (i * 5)).length = i * 5 := by simp; omega
  have hall : ∀ (j : Nat) (u : Value), (cs.toList.take (i * 5) ++ xs ++ tv)[j]? = some u → VR E (tg j (stL tl (Nat.mul (Nat.succ i) 5) (stL l2 (Nat.mul i 5) t))) u := by
    intro j u hj
    obtain ⟨b1, b2⟩ := stL_get (Nat.mul (Nat.succ i) 5) (stL l2 (Nat.mul i 5) t) f1
    obtain ⟨c1, c2⟩ := stL_get (Nat.mul i 5) t hx
    have em : Nat.mul (Nat.succ i) 5 = (i + 1) * 5 := rfl
    have em' : Nat.mul i 5 = i * 5 := rfl
    by_cases k1 : j < i * 5
    · rw [List.append_assoc, List.getElem?_append_left (by omega)] at hj
      rw [b2 j (.inl (by omega)), c2 j (.inl (by omega))]
      obtain ⟨w, w1, w2⟩ := g5 j (by omega)
      rw [hpre j u hj] at w1
      cases w1
      exact w2
    · rw [List.append_assoc, List.getElem?_append_right (by omega)] at hj
      by_cases k2 : j < (i + 1) * 5
      · rw [List.getElem?_append_left (by omega)] at hj
        rw [b2 j (.inl (by omega))]
        have := c1 _ u hj
        rwa [show Nat.mul i 5 + (j - (cs.toList.take (i * 5)).length) = j by omega] at this
      · rw [List.getElem?_append_right (by omega)] at hj
        have := b1 _ u hj
        rwa [show Nat.mul (Nat.succ i) 5 + (j - (cs.toList.take (i * 5)).length - xs.length) = j by omega] at this
  have htl : tv.length = (c - i) * 5 := f2
  have hlen : (cs.toList.take (i * 5) ++ xs ++ tv).length = (c + 1) * 5 := by
    rw [List.length_append, List.length_append, hpl, hxl, htl]
    have : (c - i) * 5 = c * 5 - i * 5 := Nat.sub_mul c i 5
    omega
  have := ins_ok (vc := vc) g1 g3.2 hq (by omega) hic hby hpl hpre htl (fun j u hj => f3 j u hj) (allOne_ok h10 f1).1 hxr h1x hne
    ⟨csv, ev, _, v1, hfrozen_at v1 (v3.2 _ (by omega)), hfrozen_at v1 (v3.2 _ (Nat.le_refl _))⟩
  rw [show q - 0 = q from rfl]
  refine this.mono ?_
  rintro v H' ⟨c', b', rfl, hc', ⟨rfl, rfl, k1, k2, cs', k3, k4, k5⟩ | ⟨rfl, k1, k2, cs', e', k3, k4, k5⟩⟩
  · have hbn : b ≠ n := fun e => by subst e; rw [hr.fresh b (Nat.le_refl _)] at hE; cases hE
    have hadd := En.le_add (r := b') (q := c') (hr.fresh n (Nat.le_refl _))
    obtain ⟨z1, z2⟩ := hr.again (H' := H') hn hE (by rw [hb]; show (7 : Nat) ≠ 1; omega) (by rw [h19 b hb65 hbn]; exact h15) h18
      (fun d hd h1 h2 => by rw [h19 d hd h2, h16 d hd h1]) k1 k2 (by
        refine ⟨cs', e0, lo, hi, k3, by rw [k4]; show (c + 1) * 5 ≤ _; omega, ⟨g3.1, fun o ho => g3.2 o (by rwa [k4] at ho)⟩, fun _ => by rw [k4]; exact hq, fun j hj => ?_⟩
        have hj : j < (c + 1) * 5 := hj
        have hg := List.getElem?_eq_getElem (show j < (cs.toList.take (i * 5) ++ xs ++ tv).length by omega)
        exact ⟨_, k5 j _ hg, (hall j _ hg).mono hadd⟩)
    exact ⟨_, z2, z1, b', c', En.add_self _ _ _ _, rfl, by show 0 + (c + 1) ≤ c'; omega⟩
  · have hr2 := hr.dead h15 h16
    have hadd := En.le_add (r := H.size) (q := c') (hr.fresh n (Nat.le_refl _))
    obtain ⟨z1, z2⟩ := hr2.name (H' := H') ⟨by omega, fun k hk _ => k1 k hk⟩ (r := H.size) (q := c') (Nat.le_refl _) (by omega) hn h18 h19 (by
        refine ⟨cs', e', 0, 0, k3, by rw [k4]; show (c + 1) * 5 ≤ _; omega, ⟨Nat.le_refl _, fun o _ => by omega⟩, fun _ => by rw [k4]; exact Nat.le_refl _, fun j hj => ?_⟩
        have hj : j < (c + 1) * 5 := hj
        have hg := List.getElem?_eq_getElem (show j < (cs.toList.take (i * 5) ++ xs ++ tv).length by omega)
        exact ⟨_, k5 j _ hg, (hall j _ hg).mono hadd⟩)
    exact ⟨_, z2, z1, H.size, c', En.add_self _ _ _ _, rfl, by show 0 + (c + 1) ≤ c'; omega⟩
theorem o_ins_ok {Ok : St → Prop} [Okay Ok] {ng : Nat} {l : CV} {cH : He} {n : Nat} {k : EK} (h : Ok (o_ins l cH n k)) : ∃ cv cH' n', Ok (k cv cH' n') ∧
    ∀ E Pr H vs, (∀ g, g < ng → ∃ q, E g = some (g, q)) → LR E l vs → Rel E Pr n cH H → ∀ X, DoesX Tryz.prog 366 vs H (fun v H' => ∃ E', E.le E' ∧ Rel E' Pr n' cH' H' ∧ VR E' cv v) X := by
  unfold o_ins at h
  rcases sList_ok h with ⟨_, h⟩ | ⟨s, r, e0, h1⟩
  · exact no_ok h
  rcases sList_ok (x := r) h1 with ⟨_, h⟩ | ⟨i0, r1, e1, h2⟩
  · exact no_ok h
  rcases sList_ok (x := r1) h2 with ⟨_, h⟩ | ⟨v, r2, e2, h3⟩
  · exact no_ok h
  rcases sList_ok (x := r2) h3 with ⟨e3, h4⟩ | ⟨_, _, _, h⟩
  rotate_left
  · exact no_ok h
  subst e0; subst e1; subst e2; subst e3
  clear h h1 h2 h3
  obtain ⟨j, i', rfl, h5⟩ := sInt_ok h4
  obtain ⟨hj, h6⟩ := bi_ok h5
  have hj := keq_eq hj
  subst hj
  obtain ⟨i, rfl, h7⟩ := onNat_ok h6
  obtain ⟨d, l2, h8, hrow⟩ := rowL_ok h7
  obtain ⟨hd, h9⟩ := bi_ok h8
  obtain rfl := Nat.eq_of_beq_eq_true hd
  obtain ⟨c, h10, hlen⟩ := vlenC_ok h9
  clear h4 h5 h6 h7 h8 h9
  cases hic : Nat.beq i c with
  | false =>
    rw [hic, bi_false] at h10
    obtain ⟨cv, cH', n', h11, h12⟩ := insU_ok h10
    refine ⟨cv, cH', n', h11, ?_⟩
    rintro E Pr H vs _ ⟨x, r1, hx, ⟨y, r2, hy, ⟨z, r3, hz, hr3, rfl⟩, rfl⟩, rfl⟩ hr X
    have hr3 : r3 = [] := hr3
    subst hr3
    have hy : y = .int .i64 (Int.ofNat i) := hy
    subst hy
    obtain ⟨w1, xs, w2, w3, w4, w5⟩ := hrow E Pr n H z hz hr
    exact Does.x (h12 E Pr H x z xs hx hz w2 w4 w5 w1 hr)
  | true =>
    obtain rfl := Nat.eq_of_beq_eq_true hic
    rw [hic, bi_true] at h10
    obtain ⟨cv, cH', n', h11, h12⟩ := appC_ok (e := 78) (z := [.string (ByteArray.mk #[]), .int .i64 0, .int .i64 0, .float .f64 0, .slice none 0 0]) rfl h10
    refine ⟨cv, cH', n', h11, ?_⟩
    rintro E Pr H vs _ ⟨x, r1, hx, ⟨y, r2, hy, ⟨z, r3, hz, hr3, rfl⟩, rfl⟩, rfl⟩ hr X
    have hr3 : r3 = [] := hr3
    subst hr3
    have hy : y = .int .i64 (Int.ofNat i) := hy
    subst hy
    obtain ⟨w1, xs, w2, w3, w4, w5⟩ := hrow E Pr n H z hz hr
    have hl := hlen E x hx
    obtain ⟨a, len, cap, rfl, old, o1, o2, o3, o4⟩ := h12 E Pr H x xs hx hr w2 w3
    have hl : len = i := hl
    subst hl
    have hzs : ∃ p m, z = .slice p 1 m := by
      cases z with
      | slice p m q => exact ⟨p, q, by rw [show m = 1 from w1]⟩
      | string s =>
        have e1 : s.size = 1 := w1
        have e2 : xs = s.data.toList.map fun b => .int .u8 b.toNat := w4.2
        have e3 : xs.length = s.size := by rw [e2]; simp
        omega
      | _ => cases w1
    obtain ⟨p, m, rfl⟩ := hzs
    refine Does.x (Fn_of_vc Tryz.mixed (InsV _ _ _ _ _ _ _ _ _) ?_)
    exact ⟨by show (0 : Int) ≤ (len : Int); omega, by show (len : Int) ≤ (len : Int); omega, fun a1 _ => ⟨fun h => by simp at h, fun _ => ⟨fun _ => ⟨old, xs, o1, w4, w5, o2, o3, fun a' c' H' happ => o4 a' c' H' happ⟩, fun h => absurd rfl h⟩⟩⟩
end Go.Ex
end

section
/-! The machine for ImageKnown. -/
namespace Go.Ex
open Go Go.Vc Go.Proofs
noncomputable def MO (g : Nat) : Option OF := bif Nat.beq g 107 then some o_equal else bif Nat.beq g 239 then some o_sorted else bif Nat.beq g 93 then some o_collect else bif Nat.beq g 287 then some o_anc else bif Nat.beq g 228 then some o_ixb else bif Nat.beq g 200 then some o_cmp else bif Nat.beq g 162 then some o_put else bif Nat.beq g 109 then some o_bget else bif Nat.beq g 368 then some o_cnt else bif Nat.beq g 366 then some o_ins else none
noncomputable def peq (p : Pa) : Pa → Bool := Pa.rec (motive := fun _ => Pa → Bool) (fun q => Pa.rec (motive := fun _ => Bool) true (fun _ _ => false) (fun _ _ => false) q) (fun _ ih q => Pa.rec (motive := fun _ => Bool) false (fun q _ => ih q) (fun _ _ => false) q) (fun _ ih q => Pa.rec (motive := fun _ => Bool) false (fun _ _ => false) (fun q _ => ih q) q) p
abbrev CF := Sy → He → Nat → (Sy → He → Nat → St) → St
noncomputable def at' (f : Nat) (p : Pa) (f0 : Nat) (p0 : Pa) (o : CF) (r : Option CF) : Option CF := bif Nat.beq f f0 then bif peq p p0 then some o else none else r
noncomputable def MC (f : Nat) (p : Pa) : Option CF := at' f p 55 pR1 o_sav (at' f p 60 pR1 o_rcp (at' f p 174 pR2 o_gon none))
noncomputable def MT0 (f : Nat) (p : Pa) : Option CF := at' f p 53 p94 o_cpy none
noncomputable def MB : Mc := ⟨Tryz.prog, 0, MO, fun _ _ => none, ⟨56, 256⟩, MT0⟩
noncomputable def MT (f : Nat) (p : Pa) : Option CF := at' f p 53 p94 o_cpy (at' f p 19 p40 (o_fmt MB 100000) none)
noncomputable def MM : Mc := ⟨Tryz.prog, 0, MO, MC, ⟨56, 256⟩, MT⟩
theorem bif_some {α : Type} {g a : Nat} {x y : Option α} {o : α} (h : (bif Nat.beq g a then x else y) = some o) : (g = a ∧ x = some o) ∨ y = some o := by
  cases e : Nat.beq g a with
  | true => rw [e] at h; exact .inl ⟨Nat.eq_of_beq_eq_true e, h⟩
  | false => rw [e] at h; exact .inr h
theorem MO_ok : OrcOk MM := by
  intro g o ho Ok _ l cH n k h
  have ho : MO g = some o := ho
  unfold MO at ho
  rcases bif_some ho with ⟨rfl, e⟩ | ho
  · cases e; exact o_equal_ok h
  rcases bif_some ho with ⟨rfl, e⟩ | ho
  · cases e; exact o_sorted_ok h
  rcases bif_some ho with ⟨rfl, e⟩ | ho
  · cases e; exact o_collect_ok h
  rcases bif_some ho with ⟨rfl, e⟩ | ho
  · cases e; exact o_anc_ok h
  rcases bif_some ho with ⟨rfl, e⟩ | ho
  · cases e; exact o_ixb_ok h
  rcases bif_some ho with ⟨rfl, e⟩ | ho
  · cases e; exact o_cmp_ok h
  rcases bif_some ho with ⟨rfl, e⟩ | ho
  · cases e; exact o_put_ok h
  rcases bif_some ho with ⟨rfl, e⟩ | ho
  · cases e; exact o_bget_ok h
  rcases bif_some ho with ⟨rfl, e⟩ | ho
  · cases e; exact o_cnt_ok h
  rcases bif_some ho with ⟨rfl, e⟩ | ho
  · cases e; exact o_ins_ok h
  cases ho
theorem MO_okB : OrcOk MB := MO_ok
theorem peq_ok : ∀ {p q : Pa}, peq p q = true → p = q
  | .z, .z, _ => rfl
  | .z, .o _, h => by cases h
  | .z, .i _, h => by cases h
  | .o p, .z, h => by cases h
  | .o p, .o q, h => by rw [peq_ok (p := p) (q := q) h]
  | .o p, .i _, h => by cases h
  | .i p, .z, h => by cases h
  | .i p, .o _, h => by cases h
  | .i p, .i q, h => by rw [peq_ok (p := p) (q := q) h]
theorem at_some {f : Nat} {p : Pa} {f0 : Nat} {p0 : Pa} {o o' : CF} {r : Option CF} (h : at' f p f0 p0 o r = some o') : (f = f0 ∧ p = p0 ∧ o = o') ∨ r = some o' := by
  unfold at' at h
  rcases bif_some h with ⟨g1, g2⟩ | g2
  · cases e : peq p p0 with
    | true =>
      rw [e] at g2
      have g2 : some o = some o' := g2
      cases g2
      exact .inl ⟨g1, peq_ok e, rfl⟩
    | false =>
      rw [e] at g2
      have g2 : none = some o' := g2
      cases g2
  · exact .inr g2
theorem GdB : GdOk MB := gd_ok _ rfl rfl
theorem cpy_sem {Ok : St → Prop} [Okay Ok] {S : Sy} {cH : He} {n : Nat} {k : Sy → He → Nat → St} (h : Ok (o_cpy S cH n k)) : ∃ S' cH' n', Ok (k S' cH' n') ∧
    ∀ E Pr aS H X K, SR E 0 S aS → Rel E Pr n cH H → (∀ E' aS' H', E.le E' → SR E' 0 S' aS' → Rel E' Pr n' cH' H' → K.ret aS' H') → Sem Tryz.prog X (ntm Tryz.prog 53) (codeAt Tryz.prog 53 p94) K aS H := by
  rw [ntm94, c94_eq]
  exact o_cpy_ok h
theorem MB_cor : CorOk MB := by
  refine ⟨(fun f p o ho => (by cases ho)), fun f p o ho Ok _ S cH n k h => ?_⟩
  rcases at_some (show MT0 f p = some o from ho) with ⟨rfl, rfl, rfl⟩ | ho
  · exact cpy_sem h
  · cases ho
theorem fmt_sem {Ok : St → Prop} [Okay Ok] {fuel : Nat} {S : Sy} {cH : He} {n : Nat} {k : Sy → He → Nat → St} (h : Ok (o_fmt MB fuel S cH n k)) : ∃ S' cH' n', Ok (k S' cH' n') ∧
    ∀ E Pr aS H X K, SR E 0 S aS → Rel E Pr n cH H → (∀ E' aS' H', E.le E' → SR E' 0 S' aS' → Rel E' Pr n' cH' H' → K.ret aS' H') → Sem Tryz.prog X (ntm Tryz.prog 19) (codeAt Tryz.prog 19 p40) K aS H := by
  rw [ntm40, c40_eq]
  exact o_fmt_ok rfl MO_okB MB_cor GdB rfl h
theorem sav_sem {Ok : St → Prop} [Okay Ok] {S : Sy} {cH : He} {n : Nat} {k : Sy → He → Nat → St} (h : Ok (o_sav S cH n k)) : ∃ S' cH' n', Ok (k S' cH' n') ∧
    ∀ E Pr aS H X K, SR E 0 S aS → Rel E Pr n cH H → (∀ E' aS' H', E.le E' → SR E' 0 S' aS' → Rel E' Pr n' cH' H' → K.norm aS' H') → Sem Tryz.prog X (ntm Tryz.prog 55) (codeAt Tryz.prog 55 pR1) K aS H := by
  rw [ntm20, c20_eq]
  exact o_sav_ok h
theorem rcp_sem {Ok : St → Prop} [Okay Ok] {S : Sy} {cH : He} {n : Nat} {k : Sy → He → Nat → St} (h : Ok (o_rcp S cH n k)) : ∃ S' cH' n', Ok (k S' cH' n') ∧
    ∀ E Pr aS H X K, SR E 0 S aS → Rel E Pr n cH H → (∀ E' aS' H', E.le E' → SR E' 0 S' aS' → Rel E' Pr n' cH' H' → K.norm aS' H') → Sem Tryz.prog X (ntm Tryz.prog 60) (codeAt Tryz.prog 60 pR1) K aS H := by
  rw [ntm65, c65_eq]
  exact o_rcp_ok h
theorem gon_sem {Ok : St → Prop} [Okay Ok] {S : Sy} {cH : He} {n : Nat} {k : Sy → He → Nat → St} (h : Ok (o_gon S cH n k)) : ∃ S' cH' n', Ok (k S' cH' n') ∧
    ∀ E Pr aS H X K, SR E 0 S aS → Rel E Pr n cH H → (∀ E' aS' H', E.le E' → SR E' 0 S' aS' → Rel E' Pr n' cH' H' → K.norm aS' H') → Sem Tryz.prog X (ntm Tryz.prog 174) (codeAt Tryz.prog 174 pR2) K aS H := by
  rw [ntm123, c123_eq]
  exact o_gon_ok h
theorem MM_cor : CorOk MM := by
  refine ⟨fun f p o ho Ok _ S cH n k h => ?_, fun f p o ho Ok _ S cH n k h => ?_⟩
  · rcases at_some (show MC f p = some o from ho) with ⟨rfl, rfl, rfl⟩ | ho
    · exact sav_sem h
    rcases at_some ho with ⟨rfl, rfl, rfl⟩ | ho
    · exact rcp_sem h
    rcases at_some ho with ⟨rfl, rfl, rfl⟩ | ho
    · exact gon_sem h
    cases ho
  · rcases at_some (show MT f p = some o from ho) with ⟨rfl, rfl, rfl⟩ | ho
    · exact cpy_sem h
    rcases at_some ho with ⟨rfl, rfl, rfl⟩ | ho
    · exact fmt_sem h
    cases ho
theorem GdM : GdOk MM := gd_ok _ rfl rfl
end Go.Ex
end

section
/-! States as they are printed. -/
namespace Go.Ex
open Go Go.Vc
def I (n : Nat) : CV := .int .i64 (.ofNat n)
def Y (n : Nat) : CV := .int .u8 (.ofNat n)
def C (h t : CV) : CV := .cons h t
def L (v : CV) : T CV := .n v .e .e
noncomputable def putS (t : Nat) (v : CV) (S : Sy) : Sy := un (vset (β := Sy) (Nat.div t 16)) (fun x r => un (vset (β := Sy) (Nat.mod t 16)) (fun _ r => r v) x r) S fun S => S
noncomputable def mkS (l : List (Nat × CV)) : Sy := List.rec (motive := fun _ => Sy) S0 (fun x _ ih => putS x.1 x.2 ih) l
noncomputable def putH (b : Nat) (v : Bk) (H : He) : He := un (vset (β := He) (Nat.div b 4096)) (fun x r => un (vset (β := He) (Nat.mod (Nat.div b 256) 16)) (fun x r => un (vset (β := He) (Nat.mod (Nat.div b 16) 16)) (fun x r => un (vset (β := He) (Nat.mod b 16)) (fun _ r => r v) x r) x r) x r) H fun H => H
noncomputable def mkH (l : List (Nat × Bk)) : He := List.rec (motive := fun _ => He) H0 (fun x _ ih => putH x.1 x.2 ih) l
end Go.Ex
end

section
/-! A run in pieces: of a state what is asked for is kept. -/
namespace Go.Ex
open Go Go.Vc Go.Proofs
theorem putH_law (b : Nat) (x : Bk) (H : He) (hb : b < 65536) : hg b (putH b x H) = x ∧ ∀ b', b' < 65536 → b' ≠ b → hg b' (putH b x H) = hg b' H := by
  have h1 : b / 4096 < 16 := by omega
  have h2 : b / 256 % 16 < 16 := by omega
  have h3 : b / 16 % 16 < 16 := by omega
  have h4 : b % 16 < 16 := by omega
  obtain ⟨F1, e1, f1⟩ := vset_law (β := He) h1 (fun y r => un (vset (b / 256 % 16)) (fun y r => un (vset (b / 16 % 16)) (fun y r => un (vset (b % 16)) (fun _ r => r x) y r) y r) y r) H
  obtain ⟨F2, e2, f2⟩ := vset_law (β := He) h2 (fun y r => un (vset (b / 16 % 16)) (fun y r => un (vset (b % 16)) (fun _ r => r x) y r) y r) (un (vg (b / 4096)) H)
  obtain ⟨F3, e3, f3⟩ := vset_law (β := He) h3 (fun y r => un (vset (b % 16)) (fun _ r => r x) y r) (un (vg (b / 256 % 16)) (un (vg (b / 4096)) H))
  obtain ⟨F4, e4, f4⟩ := vset_law (β := He) h4 (fun _ r => r x) (un (vg (b / 16 % 16)) (un (vg (b / 256 % 16)) (un (vg (b / 4096)) H)))
  have e : putH b x H = F1 (F2 (F3 (F4 x))) := (e1 _).trans ((e2 _).trans ((e3 _).trans (e4 _)))
  rw [e]
  refine ⟨?_, fun b' hb' hne => ?_⟩
  · rw [hg_eq, (f1 _).1, (f2 _).1, (f3 _).1, (f4 _).1]
  · rw [hg_eq, hg_eq]
    by_cases g1 : b' / 4096 = b / 4096
    · rw [g1, (f1 _).1]
      by_cases g2 : b' / 256 % 16 = b / 256 % 16
      · rw [g2, (f2 _).1]
        by_cases g3 : b' / 16 % 16 = b / 16 % 16
        · rw [g3, (f3 _).1, (f4 _).2 _ (by omega) (by omega)]
        · rw [(f3 _).2 _ (by omega) g3]
      · rw [(f2 _).2 _ (by omega) g2]
    · rw [(f1 _).2 _ (by omega) g1]
theorem hg_H0 (b : Nat) (hb : b < 65536) : hg b H0 = .dead := by
  have h : ∀ {α : Type} (x : α) (i : Nat), i < 16 → un (vg i) (vrep x) = x := fun x i hi => by
    rcases lt16 hi with rfl | rfl | rfl | rfl | rfl | rfl | rfl | rfl | rfl | rfl | rfl | rfl | rfl | rfl | rfl | rfl <;> rfl
  rw [hg_eq]
  show un (vg (b % 16)) (un (vg (b / 16 % 16)) (un (vg (b / 256 % 16)) (un (vg (b / 4096)) (vrep (vrep (vrep (vrep Bk.dead))))))) = _
  rw [h _ _ (by omega), h _ _ (by omega), h _ _ (by omega), h _ _ (by omega)]
noncomputable def keepH (l : List (Nat × Bk)) (H : He) : He := List.rec (motive := fun _ => He) H0 (fun x _ ih => putH x.1 (hg x.1 H) ih) l
noncomputable def gcS (l : List (Nat × Bk)) (s : St) : St := St.rec (motive := fun _ => St) (fun stk S H n => .mk stk S (keepH l H) n) (fun w => .stuck w) (fun v H n => .done v H n) s
def smallL (l : List (Nat × Bk)) : Bool := l.all fun x => Nat.blt x.1 65536
theorem keepH_law (H : He) : ∀ {l : List (Nat × Bk)}, smallL l = true → ∀ b, b < 65536 → hg b (keepH l H) = hg b H ∨ hg b (keepH l H) = .dead
  | [], _, b, hb => .inr (hg_H0 b hb)
  | x :: l, h, b, hb => by
    have h : (Nat.blt x.1 65536 && smallL l) = true := h
    rw [Bool.and_eq_true] at h
    have hx : x.1 < 65536 := by simpa using h.1
    obtain ⟨g1, g2⟩ := putH_law x.1 (hg x.1 H) (keepH l H) hx
    show hg b (putH x.1 (hg x.1 H) (keepH l H)) = _ ∨ hg b (putH x.1 (hg x.1 H) (keepH l H)) = _
    by_cases e : b = x.1
    · subst e; exact .inl g1
    · rw [g2 b hb e]
      exact keepH_law H h.2 b hb
section
variable {M : Mc} {V : CV} {HV : He} {nV : Nat}
theorem gc_good {l : List (Nat × Bk)} (hl : smallL l = true) : ∀ {s : St}, Good M V HV nV (gcS l s) → Good M V HV nV s
  | .mk _ _ cH _, h => fun E Pr N K X aS H hk hs hr => h E Pr N K X aS H hk hs (hr.forget fun b hb => keepH_law cH hl b hb)
  | .stuck _, h => h
  | .done _ _ _, h => h
end
/-- One piece. -/
theorem piece {V : CV} {HV : He} {nV m : Nat} {l : List (Nat × Bk)} {s s' : St} (hl : smallL l = true) (e : gcS l (run MM m s) = s') (h : Good MM V HV nV s') : Good MM V HV nV s :=
  run_good MO_ok MM_cor GdM Tryz.mixed m (gc_good hl (e ▸ h))
noncomputable def isT (s : St) : Bool := St.rec (motive := fun _ => Bool) (fun _ _ _ _ => false) (fun _ => false) (fun v _ _ => bBool (fun b => b) v) s
theorem isT_ok {s : St} (h : isT s = true) : ∃ HV nV, s = .done (.bool true) HV nV := by
  cases s with
  | mk _ _ _ _ => cases h
  | stuck _ => cases h
  | done v H n =>
    cases v with
    | bool b =>
      have h : b = true := h
      subst h
      exact ⟨H, n, rfl⟩
    | _ => cases h
theorem last {m : Nat} {s : St} (h : isT (run MM m s) = true) : ∃ HV nV, Good MM (.bool true) HV nV s := by
  obtain ⟨HV, nV, e⟩ := isT_ok h
  exact ⟨HV, nV, run_good MO_ok MM_cor GdM Tryz.mixed m (by rw [e]; exact ⟨rfl, rfl, rfl⟩)⟩
theorem law_of_good {M : Mc} {g : Nat} {HV : He} {nV : Nat} (hng : M.ng = 0) (h : Good M (.bool true) HV nV (goin M.P g .nil (.fin g) .nil H0 0)) (H : Heap) : Does M.P g [] H fun v H' => v = .bool true ∧ Ext [] H H' := by
  have : DoesX M.P g [] H (fun v H' => ∃ E', En.le (fun _ => none) E' ∧ Rel E' (Pr0 H) nV HV H' ∧ VR E' (.bool true) v) (fun _ _ => False) :=
    goin_good h LR.nil' (fun g hg => by omega) (Rel.init H) fun rs hrs => .fin hrs fun E' v H' hle hr' hv => ⟨E', hle, hr', hv⟩
  refine (this.mono ?_ fun _ _ h => h).plain fun _ _ h => h
  rintro v H' ⟨E', _, hr, hv⟩
  exact ⟨hv, hr.kept_ext⟩
end Go.Ex
end

