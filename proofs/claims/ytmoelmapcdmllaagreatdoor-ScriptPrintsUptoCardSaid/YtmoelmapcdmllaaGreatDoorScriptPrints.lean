/-
  The law pentimento/pentimentolaw25.ScriptPrints, with the listed variables tied to the program's text, where what it reads is of bulk at most 1048576, is true and changes nothing that was there. No condition of its own.
-/
import Derived.Test.YtmoelmapcdmllaaGreatDoorPa
import Derived.Test.YtmoelmapcdmllaaGreatDoorPf

namespace Go.Proofs.YtmoelmapcdmllaaGreatDoor.scriptPrints
open Go.ChangeShapes Go.WideShapes Go.ChangeAt Go.RowKit
open Go.ChangeMaps (open_string shut_string)
set_option linter.unusedVariables false

set_option maxRecDepth 100000 in
theorem contract (H : Type) (enc : TypeId × Value → H) (W : World) (base : Nat) (args : Array Value) (ds gs : List (DataW H)) (before : List MemPlace)
    (hval0 : ∀ (j : Nat) t v, Tryz.f5.params[j]? = some t → args[j]? = some v → Value.okWide Tryz.prog W .any base t v)
    (hW : DataW.Whole enc Tryz.prog Tryz.f5.params.toList Rows.scriptPrintsSpec.vars false W args.toList ds gs before) (hL : laidMetH Tryz.prog Rows.scriptPrintsUptoRow.laid W) (hsh : W.ShapedOpen Tryz.prog)
    (hk : Rows.uptoSmall H (ds ++ gs) = true) :
    Calls Tryz.prog 5 args W fun e W' => ∃ v, e = .returned v ∧ Rows.scriptPrintsSpec.post enc Tryz.prog Tryz.f5 false true false false W args v W' := by
  have hval : ∀ (j : Nat) t v, Tryz.f5.params[j]? = some t → args[j]? = some v → Value.okWide Tryz.prog W .any base t v := hval0
  have hL' : laidMet Tryz.prog theLaid W := hL
  have hW' := hW
  obtain ⟨p, q, hA0, hV, rfl, hfz, hnd⟩ := hW
  have hA : DataW.TrodAll enc Tryz.prog W 0 (fun _ => true) true Tryz.f5.params.toList args.toList ds p := hA0
  rw [Tryz.params5] at hA hval
  obtain ⟨v0, vs0, d0, ds0, p0, q0, hargs, rfl, rfl, h0, r0⟩ := trodAll_cons hA
  obtain ⟨v1, vs1, d1, ds1, p1, q1, rfl, rfl, rfl, h1, r1⟩ := trodAll_cons r0
  obtain ⟨v2, vs2, d2, ds2, p2, q2, rfl, rfl, rfl, h2, r2⟩ := trodAll_cons r1
  obtain ⟨rfl, rfl, rfl⟩ := trodAll_nil r2
  obtain rfl : args = #[v0, v1, v2] := by cases args; simp_all
  obtain ⟨rfl, rfl⟩ := trodVars_none hV
  have s0 : (Go.Vc.KAll [(1, (Go.Vc.KInt .i64)), (1, (Go.Vc.KInt .i64)), (1, (Go.Vc.KInt .i64)), (1, (Go.Vc.KInt .i64)), (1, (Go.Vc.KInt .i64)), (11, (Go.Vc.KAll [(1, (Go.Vc.KInt .i64)), (1, (Go.Vc.KInt .i64)), (1, (Go.Vc.KInt .i64)), (1, (Go.Vc.KInt .i64)), (1, (Go.Vc.KInt .i64)), (1, (Go.Vc.KInt .i64)), (1, (Go.Vc.KInt .i64)), (1, (Go.Vc.KInt .i64)), (1, (Go.Vc.KFlo .f64)), (1, (Go.Vc.KBytesB 1048576)), (1, (Go.Vc.KStrB 1048576))])), (1, (Go.Vc.KBytesB 1048576))]) W.heap v0.cells.toList := Go.Vc.SoundB.at (B := 1048576) (Go.Vc.soundB_struct bulk Tryz.underlying27 (by kernel_rfl) (.cons (by kernel_rfl) (by kernel_rfl) (Go.Vc.SoundB.of (Go.Vc.sound_int Tryz.underlying3)) (.cons (by kernel_rfl) (by kernel_rfl) (Go.Vc.SoundB.of (Go.Vc.sound_int Tryz.underlying3)) (.cons (by kernel_rfl) (by kernel_rfl) (Go.Vc.SoundB.of (Go.Vc.sound_int Tryz.underlying3)) (.cons (by kernel_rfl) (by kernel_rfl) (Go.Vc.SoundB.of (Go.Vc.sound_int Tryz.underlying3)) (.cons (by kernel_rfl) (by kernel_rfl) (Go.Vc.SoundB.of (Go.Vc.sound_int Tryz.underlying3)) (.cons (by kernel_rfl) (by kernel_rfl) (Go.Vc.soundB_struct bulk Tryz.underlying25 (by kernel_rfl) (.cons (by kernel_rfl) (by kernel_rfl) (Go.Vc.SoundB.of (Go.Vc.sound_int Tryz.underlying3)) (.cons (by kernel_rfl) (by kernel_rfl) (Go.Vc.SoundB.of (Go.Vc.sound_int Tryz.underlying3)) (.cons (by kernel_rfl) (by kernel_rfl) (Go.Vc.SoundB.of (Go.Vc.sound_int Tryz.underlying3)) (.cons (by kernel_rfl) (by kernel_rfl) (Go.Vc.SoundB.of (Go.Vc.sound_int Tryz.underlying3)) (.cons (by kernel_rfl) (by kernel_rfl) (Go.Vc.SoundB.of (Go.Vc.sound_int Tryz.underlying3)) (.cons (by kernel_rfl) (by kernel_rfl) (Go.Vc.SoundB.of (Go.Vc.sound_int Tryz.underlying3)) (.cons (by kernel_rfl) (by kernel_rfl) (Go.Vc.SoundB.of (Go.Vc.sound_int Tryz.underlying3)) (.cons (by kernel_rfl) (by kernel_rfl) (Go.Vc.SoundB.of (Go.Vc.sound_int Tryz.underlying3)) (.cons (by kernel_rfl) (by kernel_rfl) (Go.Vc.SoundB.of (Go.Vc.sound_flo Tryz.underlying22)) (.cons (by kernel_rfl) (by kernel_rfl) (Go.Vc.soundB_bytes bulk Tryz.underlying23 Tryz.underlying5 (by kernel_rfl)) (.cons (by kernel_rfl) (by kernel_rfl) (Go.Vc.soundB_str bulk Tryz.underlying9) .nil)))))))))))) (.cons (by kernel_rfl) (by kernel_rfl) (Go.Vc.soundB_bytes bulk Tryz.underlying23 Tryz.underlying5 (by kernel_rfl)) .nil)))))))) h0 (bound_at hk (by simp))
  obtain ⟨c0, rfl, _⟩ := okWide_struct Tryz.underlying27 (hval 0 27 v0 rfl rfl)
  have k0 := h0
  have lt0 : ∀ x ∈ p0, x.block < W.heap.size := by obtain ⟨m, hm⟩ := k0; exact DataW.trod_lt m _ _ _ hm
  obtain ⟨a1, rfl, rfl, rfl, w1⟩ := open_int Tryz.underlying3 (hval 1 3 v1 rfl rfl) h1
  have s2 : (Go.Vc.KAll [(1, (Go.Vc.KInt .i64)), (7, (Go.Vc.KAll [(1, (Go.Vc.KInt .i64)), (4, (Go.Vc.KAll [(1, (Go.Vc.KInt .i64)), (1, (Go.Vc.KInt .i64)), (1, (Go.Vc.KFlo .f64)), (1, (Go.Vc.KBytesB 1048576))])), (1, (Go.Vc.KBytesB 1048576)), (1, (Go.Vc.KSliceB 1048576 1 (Go.Vc.KStrB 1048576)))])), (1, (Go.Vc.KSliceB 1048576 10 (Go.Vc.KAll [(1, (Go.Vc.KStrB 1048576)), (1, (Go.Vc.KInt .i64)), (4, (Go.Vc.KAll [(1, (Go.Vc.KInt .i64)), (1, (Go.Vc.KInt .i64)), (1, (Go.Vc.KFlo .f64)), (1, (Go.Vc.KBytesB 1048576))])), (4, (Go.Vc.KAll [(1, (Go.Vc.KInt .i64)), (1, (Go.Vc.KInt .i64)), (1, (Go.Vc.KFlo .f64)), (1, (Go.Vc.KBytesB 1048576))]))]))), (1, (Go.Vc.KSliceB 1048576 2 (Go.Vc.KAll [(1, (Go.Vc.KStrB 1048576)), (1, (Go.Vc.KInt .i64))])))]) W.heap v2.cells.toList := Go.Vc.SoundB.at (B := 1048576) (Go.Vc.soundB_struct bulk Tryz.underlying52 (by kernel_rfl) (.cons (by kernel_rfl) (by kernel_rfl) (Go.Vc.SoundB.of (Go.Vc.sound_int Tryz.underlying43)) (.cons (by kernel_rfl) (by kernel_rfl) (Go.Vc.soundB_struct bulk Tryz.underlying48 (by kernel_rfl) (.cons (by kernel_rfl) (by kernel_rfl) (Go.Vc.SoundB.of (Go.Vc.sound_int Tryz.underlying43)) (.cons (by kernel_rfl) (by kernel_rfl) (Go.Vc.soundB_struct bulk Tryz.underlying45 (by kernel_rfl) (.cons (by kernel_rfl) (by kernel_rfl) (Go.Vc.SoundB.of (Go.Vc.sound_int Tryz.underlying3)) (.cons (by kernel_rfl) (by kernel_rfl) (Go.Vc.SoundB.of (Go.Vc.sound_int Tryz.underlying3)) (.cons (by kernel_rfl) (by kernel_rfl) (Go.Vc.SoundB.of (Go.Vc.sound_flo Tryz.underlying22)) (.cons (by kernel_rfl) (by kernel_rfl) (Go.Vc.soundB_bytes bulk Tryz.underlying23 Tryz.underlying5 (by kernel_rfl)) .nil))))) (.cons (by kernel_rfl) (by kernel_rfl) (Go.Vc.soundB_bytes bulk Tryz.underlying23 Tryz.underlying5 (by kernel_rfl)) (.cons (by kernel_rfl) (by kernel_rfl) (Go.Vc.soundB_slice bulk Tryz.underlying46 (by kernel_rfl) (by decide) (Go.Vc.soundB_str bulk Tryz.underlying9)) .nil))))) (.cons (by kernel_rfl) (by kernel_rfl) (Go.Vc.soundB_slice bulk Tryz.underlying49 (by kernel_rfl) (by decide) (Go.Vc.soundB_struct bulk Tryz.underlying54 (by kernel_rfl) (.cons (by kernel_rfl) (by kernel_rfl) (Go.Vc.soundB_str bulk Tryz.underlying9) (.cons (by kernel_rfl) (by kernel_rfl) (Go.Vc.SoundB.of (Go.Vc.sound_int Tryz.underlying3)) (.cons (by kernel_rfl) (by kernel_rfl) (Go.Vc.soundB_struct bulk Tryz.underlying45 (by kernel_rfl) (.cons (by kernel_rfl) (by kernel_rfl) (Go.Vc.SoundB.of (Go.Vc.sound_int Tryz.underlying3)) (.cons (by kernel_rfl) (by kernel_rfl) (Go.Vc.SoundB.of (Go.Vc.sound_int Tryz.underlying3)) (.cons (by kernel_rfl) (by kernel_rfl) (Go.Vc.SoundB.of (Go.Vc.sound_flo Tryz.underlying22)) (.cons (by kernel_rfl) (by kernel_rfl) (Go.Vc.soundB_bytes bulk Tryz.underlying23 Tryz.underlying5 (by kernel_rfl)) .nil))))) (.cons (by kernel_rfl) (by kernel_rfl) (Go.Vc.soundB_struct bulk Tryz.underlying45 (by kernel_rfl) (.cons (by kernel_rfl) (by kernel_rfl) (Go.Vc.SoundB.of (Go.Vc.sound_int Tryz.underlying3)) (.cons (by kernel_rfl) (by kernel_rfl) (Go.Vc.SoundB.of (Go.Vc.sound_int Tryz.underlying3)) (.cons (by kernel_rfl) (by kernel_rfl) (Go.Vc.SoundB.of (Go.Vc.sound_flo Tryz.underlying22)) (.cons (by kernel_rfl) (by kernel_rfl) (Go.Vc.soundB_bytes bulk Tryz.underlying23 Tryz.underlying5 (by kernel_rfl)) .nil))))) .nil)))))) (.cons (by kernel_rfl) (by kernel_rfl) (Go.Vc.soundB_slice bulk Tryz.underlying50 (by kernel_rfl) (by decide) (Go.Vc.soundB_struct bulk Tryz.underlying56 (by kernel_rfl) (.cons (by kernel_rfl) (by kernel_rfl) (Go.Vc.soundB_str bulk Tryz.underlying9) (.cons (by kernel_rfl) (by kernel_rfl) (Go.Vc.SoundB.of (Go.Vc.sound_int Tryz.underlying3)) .nil)))) .nil))))) h2 (bound_at hk (by simp))
  obtain ⟨c2, rfl, _⟩ := okWide_struct Tryz.underlying52 (hval 2 52 v2 rfl rfl)
  have k2 := h2
  have lt2 : ∀ x ∈ p2, x.block < W.heap.size := by obtain ⟨m, hm⟩ := k2; exact DataW.trod_lt m _ _ _ hm
  clear hA0 hval0
  refine (Go.Vc.Does.below (Go.Proofs.prints_row W.heap (glob hL' hsh) c0 s0 a1 w1 c2 s2)).mono fun e W' ⟨he, bel⟩ => ?_
  subst he
  exact ⟨_, rfl, _, _, _, [], _, [], hW', trodAll_mk1 (shut_bool Tryz.underlying4 _), (trodAll_cons_mk (Below.trod laidOut (by kernel_rfl) (of_decide_eq_true (by kernel_rfl)) k0 bel lt0) (trodAll_cons_mk (shut_int Tryz.underlying3 w1) (trodAll_cons_mk (Below.trod laidOut (by kernel_rfl) (of_decide_eq_true (by kernel_rfl)) k2 bel lt2) trodAll_mk0))), rfl, bel.frame _, fun h => by cases h⟩

theorem reads (os : Os) {H : Type} (enc : TypeId × Value → H) : ∃ places, DataW.whole enc Tryz.prog ((laidWorld os).forCall (fun _ _ => 0) ⟨#[], #[.agg #[.int .i64 0, .int .i64 0, .int .i64 0, .int .i64 0, .int .i64 0, .int .i64 0, .int .i64 0, .int .i64 0, .int .i64 0, .int .i64 0, .int .i64 0, .int .i64 0, .int .i64 0, .float .f64 0, .slice none 0 0, .string ⟨#[]⟩, .slice none 0 0], .int .i64 0, .agg #[.int .i64 0, .int .i64 0, .int .i64 0, .int .i64 0, .float .f64 0, .slice none 0 0, .slice none 0 0, .slice none 0 0, .slice none 0 0, .slice none 0 0]], []⟩).memory Tryz.f5.params.toList Rows.scriptPrintsSpec.vars false (#[.agg #[.int .i64 0, .int .i64 0, .int .i64 0, .int .i64 0, .int .i64 0, .int .i64 0, .int .i64 0, .int .i64 0, .int .i64 0, .int .i64 0, .int .i64 0, .int .i64 0, .int .i64 0, .float .f64 0, .slice none 0 0, .string ⟨#[]⟩, .slice none 0 0], .int .i64 0, .agg #[.int .i64 0, .int .i64 0, .int .i64 0, .int .i64 0, .float .f64 0, .slice none 0 0, .slice none 0 0, .slice none 0 0, .slice none 0 0, .slice none 0 0]] : Array Value).toList 8 = some ([.agg [.lit (.int .i64 0), .lit (.int .i64 0), .lit (.int .i64 0), .lit (.int .i64 0), .lit (.int .i64 0), .agg [.lit (.int .i64 0), .lit (.int .i64 0), .lit (.int .i64 0), .lit (.int .i64 0), .lit (.int .i64 0), .lit (.int .i64 0), .lit (.int .i64 0), .lit (.int .i64 0), .lit (.float .f64 0), .nil, .lit (.string [])], .nil], .lit (.int .i64 0), .agg [.lit (.int .i64 0), .agg [.lit (.int .i64 0), .agg [.lit (.int .i64 0), .lit (.int .i64 0), .lit (.float .f64 0), .nil], .nil, .nil], .nil, .nil]], [], places) :=
  ⟨[], by kernel_rfl⟩

set_option maxRecDepth 100000 in
theorem lifted (os : Os) (started : os.Started) (H : Type) (enc : TypeId × Value → H) (F : Stop.Interp) :
    ReturnsInHanded {} Tryz.checked os 5 .any ((Rows.OpenSpec.upto Rows.scriptPrintsSpec).preRow enc Tryz.prog Tryz.f5 Rows.scriptPrintsUptoRow.domain false Rows.scriptPrintsUptoRow.laid) (((Rows.OpenSpec.upto Rows.scriptPrintsSpec).at F).post enc Tryz.prog Tryz.f5 false true false false) := by
  obtain ⟨places, hx⟩ := reads os enc
  refine returnsInHanded_of_row (C := Tryz.checked) (s := Rows.OpenSpec.upto Rows.scriptPrintsSpec) own started (by kernel_rfl) Tryz.func5
    (witness_row_at (enc := enc) (C := Tryz.checked) false (laidWorld os) #[.agg #[.int .i64 0, .int .i64 0, .int .i64 0, .int .i64 0, .int .i64 0, .int .i64 0, .int .i64 0, .int .i64 0, .int .i64 0, .int .i64 0, .int .i64 0, .int .i64 0, .int .i64 0, .float .f64 0, .slice none 0 0, .string ⟨#[]⟩, .slice none 0 0], .int .i64 0, .agg #[.int .i64 0, .int .i64 0, .int .i64 0, .int .i64 0, .float .f64 0, .slice none 0 0, .slice none 0 0, .slice none 0 0, .slice none 0 0, .slice none 0 0]] rfl (by kernel_rfl) (by kernel_rfl) (by kernel_rfl)
      (OpenSpec.preRow_of_cond 8 hx (by kernel_rfl) (fun k hk => by cases hk; kernel_rfl) (by kernel_rfl) (laid_met os _))) ?_
  intro W base args ds gs before hval hW _ hcond _ hL hsh _
  exact contract H enc W base args ds gs before hval hW hL hsh (hcond _ rfl)

theorem said : Rows.ScriptPrintsUptoSaid :=
  OpenClaim.holds_of_cond 5 Tryz.f5 rfl rfl rfl rfl rfl rfl rfl ⟨rfl, rfl, rfl, rfl, rfl⟩ rfl rfl rfl rfl rfl (by kernel_rfl) Tryz.func5 (by kernel_rfl)
    (of_decide_eq_true (by kernel_rfl)) (by unfold Func.isWrapper; first | (rw [if_pos (by decide +kernel)]; kernel_rfl) | (rw [if_neg (by decide +kernel)]; exact ⟨rfl, rfl⟩))
    (fun os started H enc _ F => by rw [OpenClaim.pre_eq_preRow]; exact lifted os started H enc F)

theorem plain (f : FuncId) (fn : Func) (hf : Tryz.pinned.checked.prog.funcNamed "pentimento/pentimentolaw25.ScriptPrints" = some f) (hfn : Tryz.pinned.checked.prog.funcs[f]? = some fn) :
    true = Tryz.pinned.checked.prog.looks [] ∧ ∀ (j : Nat) t, fn.params[j]? = some t → Tryz.pinned.checked.prog.wantsStandIn t = false := by
  obtain rfl : f = 5 := Option.some.inj ((show Tryz.prog.funcNamed "pentimento/pentimentolaw25.ScriptPrints" = some 5 by kernel_rfl).symm.trans hf) |>.symm
  obtain rfl : fn = Tryz.f5 := (Option.some.inj (Tryz.func5.symm.trans hfn)).symm
  refine ⟨by kernel_rfl, fun j t ht => ?_⟩
  rw [Tryz.params5] at ht
  match j, ht with
  | 0, ht =>
    obtain rfl : t = 27 := by simpa using ht.symm
    exact (show Tryz.prog.wantsStandIn 27 = false by kernel_rfl)
  | 1, ht =>
    obtain rfl : t = 3 := by simpa using ht.symm
    exact (show Tryz.prog.wantsStandIn 3 = false by kernel_rfl)
  | 2, ht =>
    obtain rfl : t = 52 := by simpa using ht.symm
    exact (show Tryz.prog.wantsStandIn 52 = false by kernel_rfl)
  | j + 3, ht => exact absurd ht (by simp)

theorem proved : Rows.ScriptPrintsUptoCardSaid :=
  Claim7.holds_tied_plain_at .later [] _ _ _ _ said (fun _ h => by cases h) (by kernel_rfl) (fun _ h => by cases h) scriptPrintsUpto_row_tie rfl ⟨rfl, rfl⟩ (by kernel_rfl) rfl plain (by kernel_rfl)
#print axioms proved
end Go.Proofs.YtmoelmapcdmllaaGreatDoor.scriptPrints

