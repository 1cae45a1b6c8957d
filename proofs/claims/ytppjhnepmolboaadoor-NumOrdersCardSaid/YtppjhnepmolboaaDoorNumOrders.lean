/-
  The law NumOrders, with the listed variables tied to the program's text, is true and changes nothing that was there, whatever the input. No condition.
-/
import Derived.Test.YtppjhnepmolboaaDoorProg
import Derived.Test.YtppjhnepmolboaaDoorVd
import Derived.Test.YtppjhnepmolboaaDoorNum
import Derived.Test.YtppjhnepmolboaaDoorLaid

section
open Go Go.Vc
namespace Go.Proofs
set_option maxRecDepth 100000
/-- pentimento/pentimentolaw2.NumOrders -/
theorem OrdersV (x0 : Int) (x1 : Int) (x2 : Int) (x3 : Nat) (x4 : Nat) (x5 : Nat) (H : Heap) (R : Value → Heap → Prop) : Walk Tryd.prog 4 [(7, [(13, (.float .f64 0)), (14, (.float .f64 0)), (15, (.float .f64 0)), (16, (.int .i64 0))]), (9, [(13, (.float .f64 0)), (14, (.float .f64 0)), (16, (.int .i64 0))]), (11, [(13, (.float .f64 0)), (14, (.float .f64 0)), (16, (.int .i64 0))])] [(.int .i64 x0), (.int .i64 x1), (.int .i64 x2), (.float .f64 x3), (.float .f64 x4), (.float .f64 x5)] H R = (
  Does Tryd.prog 6 [(.int .i64 x0), (.float .f64 x3)] H fun v1 H2 => ∃ f3 : Nat, v1 = (.float .f64 f3) ∧ (
    Does Tryd.prog 6 [(.int .i64 x1), (.float .f64 x4)] H2 fun v4 H5 => ∃ f6 : Nat, v4 = (.float .f64 f6) ∧ (
      Does Tryd.prog 6 [(.int .i64 x2), (.float .f64 x5)] H5 fun v7 H8 => ∃ f9 : Nat, v7 = (.float .f64 f9) ∧ (
        Does Tryd.prog 14 [(.float .f64 f3), (.float .f64 f6)] H8 fun v10 H11 => ∃ n12 : Int, v10 = (.int .i64 n12) ∧ (
          ∃ I13 : Nat → Nat → Nat → Int → Heap → Prop, (
            Does Tryd.prog 12 [] H11 fun v14 H15 => ∃ t16 : Bool, v14 = (.bool t16) ∧ (
              (((t16 = false) → (
                    R (.bool false) H15)) ∧ (¬ (t16 = false) → (
                    Does Tryd.prog 14 [(.float .f64 f6), (.float .f64 f3)] H15 fun v17 H18 => ∃ n19 : Int, v17 = (.int .i64 n19) ∧ (
                      (In64 (0 - n19)) ∧
                      ((((n12 : Int) ≠ (0 - n19)) → (
                            R (.bool false) H18)) ∧ (¬ ((n12 : Int) ≠ (0 - n19)) → (
                            Does Tryd.prog 15 [(.float .f64 f3), (.float .f64 f6)] H18 fun v20 H21 => ∃ t22 : Bool, v20 = (.bool t22) ∧ (
                              (((¬ (((n12 : Int) = 0) ↔ (t22 = true))) → (
                                    R (.bool false) H21)) ∧ (¬ (¬ (((n12 : Int) = 0) ↔ (t22 = true))) → (
                                    Does Tryd.prog 14 [(.float .f64 f3), (.float .f64 f3)] H21 fun v23 H24 => ∃ n25 : Int, v23 = (.int .i64 n25) ∧ (
                                      ((((n25 : Int) ≠ 0) → (
                                            R (.bool false) H24)) ∧ (¬ ((n25 : Int) ≠ 0) → (
                                            I13 f3 f6 f9 n12 H24))))))))))))))))) ∧
          ∀ f26 : Nat, ∀ f27 : Nat, ∀ f28 : Nat, ∀ n29 : Int, ∀ H30 : Heap, I13 f26 f27 f28 n29 H30 → (
            ∃ I31 : Nat → Nat → Int → Heap → Prop, (
              ((((n29 : Int) ≤ 0) → (
                    Does Tryd.prog 14 [(.float .f64 f27), (.float .f64 f28)] H30 fun v32 H33 => ∃ n34 : Int, v32 = (.int .i64 n34) ∧ (
                      ((((n34 : Int) ≤ 0) → (
                            Does Tryd.prog 14 [(.float .f64 f26), (.float .f64 f28)] H33 fun v35 H36 => ∃ n37 : Int, v35 = (.int .i64 n37) ∧ (
                              ((((0 : Int) < n37) → (
                                    R (.bool false) H36)) ∧ (¬ ((0 : Int) < n37) → (
                                    I31 f26 f27 n29 H36)))))) ∧ (¬ ((n34 : Int) ≤ 0) → (
                            I31 f26 f27 n29 H33)))))) ∧ (¬ ((n29 : Int) ≤ 0) → (
                    I31 f26 f27 n29 H30)))) ∧
            ∀ f38 : Nat, ∀ f39 : Nat, ∀ n40 : Int, ∀ H41 : Heap, I31 f38 f39 n40 H41 → (
              ∃ I42 : Nat → Nat → Int → Heap → Prop, (
                (((FLt f38 f39) → (
                      ((((n40 : Int) ≠ (-1)) → (
                            R (.bool false) H41)) ∧ (¬ ((n40 : Int) ≠ (-1)) → (
                            (((FGt f38 f39) → (
                                  ((((n40 : Int) ≠ 1) → (
                                        R (.bool false) H41)) ∧ (¬ ((n40 : Int) ≠ 1) → (
                                        (((¬ FEq f38 f38) → (
                                              (((FEq f39 f39) → (
                                                    ((((n40 : Int) ≠ 1) → (
                                                          R (.bool false) H41)) ∧ (¬ ((n40 : Int) ≠ 1) → (
                                                          I42 f38 f39 n40 H41))))) ∧ (¬ (FEq f39 f39) → (
                                                    I42 f38 f39 n40 H41))))) ∧ (¬ (¬ FEq f38 f38) → (
                                              I42 f38 f39 n40 H41)))))))) ∧ (¬ (FGt f38 f39) → (
                                  (((¬ FEq f38 f38) → (
                                        (((FEq f39 f39) → (
                                              ((((n40 : Int) ≠ 1) → (
                                                    R (.bool false) H41)) ∧ (¬ ((n40 : Int) ≠ 1) → (
                                                    I42 f38 f39 n40 H41))))) ∧ (¬ (FEq f39 f39) → (
                                              I42 f38 f39 n40 H41))))) ∧ (¬ (¬ FEq f38 f38) → (
                                        I42 f38 f39 n40 H41))))))))))) ∧ (¬ (FLt f38 f39) → (
                      (((FGt f38 f39) → (
                            ((((n40 : Int) ≠ 1) → (
                                  R (.bool false) H41)) ∧ (¬ ((n40 : Int) ≠ 1) → (
                                  (((¬ FEq f38 f38) → (
                                        (((FEq f39 f39) → (
                                              ((((n40 : Int) ≠ 1) → (
                                                    R (.bool false) H41)) ∧ (¬ ((n40 : Int) ≠ 1) → (
                                                    I42 f38 f39 n40 H41))))) ∧ (¬ (FEq f39 f39) → (
                                              I42 f38 f39 n40 H41))))) ∧ (¬ (¬ FEq f38 f38) → (
                                        I42 f38 f39 n40 H41)))))))) ∧ (¬ (FGt f38 f39) → (
                            (((¬ FEq f38 f38) → (
                                  (((FEq f39 f39) → (
                                        ((((n40 : Int) ≠ 1) → (
                                              R (.bool false) H41)) ∧ (¬ ((n40 : Int) ≠ 1) → (
                                              I42 f38 f39 n40 H41))))) ∧ (¬ (FEq f39 f39) → (
                                        I42 f38 f39 n40 H41))))) ∧ (¬ (¬ FEq f38 f38) → (
                                  I42 f38 f39 n40 H41)))))))))) ∧
              ∀ f43 : Nat, ∀ f44 : Nat, ∀ n45 : Int, ∀ H46 : Heap, I42 f43 f44 n45 H46 → (
                Does Tryd.prog 16 [(.float .f64 f43), (.float .f64 f44)] H46 fun v47 H48 => ∃ f49 : Nat, v47 = (.float .f64 f49) ∧ (
                  Does Tryd.prog 8 [(.float .f64 f43)] H48 fun v50 H51 => ∃ s52 : ByteArray, v50 = (.string s52) ∧ (
                    Does Tryd.prog 10 [(.string s52)] H51 fun v53 H54 => ∃ f55 : Nat, ∃ t56 : Bool, v53 = (.tuple #[(.float .f64 f55), (.bool t56)]) ∧ (
                      Does Tryd.prog 14 [(.float .f64 f49), (.float .f64 f43)] H54 fun v57 H58 => ∃ n59 : Int, v57 = (.int .i64 n59) ∧ (
                        ((((0 : Int) ≤ n59) → (
                              Does Tryd.prog 14 [(.float .f64 f49), (.float .f64 f44)] H58 fun v60 H61 => ∃ n62 : Int, v60 = (.int .i64 n62) ∧ (
                                ((((0 : Int) ≤ n62) → (
                                      Does Tryd.prog 15 [(.float .f64 f49), (.float .f64 f43)] H61 fun v63 H64 => ∃ t65 : Bool, v63 = (.bool t65) ∧ (
                                        ((t65 = true → (
                                              Does Tryd.prog 16 [(.float .f64 f44), (.float .f64 f43)] H64 fun v66 H67 => ∃ f68 : Nat, v66 = (.float .f64 f68) ∧ (
                                                Does Tryd.prog 15 [(.float .f64 f49), (.float .f64 f68)] H67 fun v69 H70 => ∃ t71 : Bool, v69 = (.bool t71) ∧ (
                                                  ((t71 = true → (
                                                        ((t56 = true → (
                                                            Does Tryd.prog 15 [(.float .f64 f55), (.float .f64 f43)] H70 fun v72 H73 => ∃ t74 : Bool, v72 = (.bool t74) ∧ (
                                                            ((t74 = true → (
                                                            Does Tryd.prog 8 [(.float .f64 f43)] H73 fun v75 H76 => ∃ s77 : ByteArray, v75 = (.string s77) ∧ (
                                                            Does Tryd.prog 8 [(.float .f64 f44)] H76 fun v78 H79 => ∃ s80 : ByteArray, v78 = (.string s80) ∧ (
                                                            R (.bool (@decide (((s77 : ByteArray) = s80) ↔ ((n45 : Int) = 0)) (Classical.propDecidable _))) H79)))) ∧ (t74 = false → (
                                                            R (.bool false) H73)))))) ∧ (t56 = false → (
                                                            R (.bool false) H70))))) ∧ (t71 = false → (
                                                        R (.bool false) H70))))))) ∧ (t65 = false → (
                                              Does Tryd.prog 15 [(.float .f64 f49), (.float .f64 f44)] H64 fun v81 H82 => ∃ t83 : Bool, v81 = (.bool t83) ∧ (
                                                ((t83 = true → (
                                                      Does Tryd.prog 16 [(.float .f64 f44), (.float .f64 f43)] H82 fun v84 H85 => ∃ f86 : Nat, v84 = (.float .f64 f86) ∧ (
                                                        Does Tryd.prog 15 [(.float .f64 f49), (.float .f64 f86)] H85 fun v87 H88 => ∃ t89 : Bool, v87 = (.bool t89) ∧ (
                                                          ((t89 = true → (
                                                            ((t56 = true → (
                                                            Does Tryd.prog 15 [(.float .f64 f55), (.float .f64 f43)] H88 fun v90 H91 => ∃ t92 : Bool, v90 = (.bool t92) ∧ (
                                                            ((t92 = true → (
                                                            Does Tryd.prog 8 [(.float .f64 f43)] H91 fun v93 H94 => ∃ s95 : ByteArray, v93 = (.string s95) ∧ (
                                                            Does Tryd.prog 8 [(.float .f64 f44)] H94 fun v96 H97 => ∃ s98 : ByteArray, v96 = (.string s98) ∧ (
                                                            R (.bool (@decide (((s95 : ByteArray) = s98) ↔ ((n45 : Int) = 0)) (Classical.propDecidable _))) H97)))) ∧ (t92 = false → (
                                                            R (.bool false) H91)))))) ∧ (t56 = false → (
                                                            R (.bool false) H88))))) ∧ (t89 = false → (
                                                            R (.bool false) H88))))))) ∧ (t83 = false → (
                                                      R (.bool false) H82)))))))))) ∧ (¬ ((0 : Int) ≤ n62) → (
                                      R (.bool false) H61)))))) ∧ (¬ ((0 : Int) ≤ n59) → (
                              R (.bool false) H58))))))))))))))) := by kernel_rfl


end Go.Proofs
end

section
open Go Go.Vc
namespace Go.Proofs

theorem not_nan {a b : Nat} (h : FLt a b ∨ FEq a b ∨ FGt a b) : nanW a = false ∧ nanW b = false := by
  cases na : nanW a <;> cases nb : nanW b <;> first | exact ⟨rfl, rfl⟩ | (exfalso; obtain ⟨h1, h2, h3⟩ := no_order (a := a) (b := b) (by simp [na, nb]); rcases h with h | h | h <;> contradiction)

theorem rk_lt {a b : Nat} (ha : a < 18446744073709551616) (hb : b < 18446744073709551616) (na : nanW a = false) (nb : nanW b = false) (h : keyW a < keyW b) : rk a < rk b := by
  obtain ⟨_, ea⟩ := rk_num ha na
  obtain ⟨_, eb⟩ := rk_num hb nb
  rw [ea, eb]
  unfold keyW at h
  split at h <;> split at h <;> (try split) <;> (try split) <;> omega

theorem flt_rk {a b : Nat} (ha : a < 18446744073709551616) (hb : b < 18446744073709551616) (h : FLt a b) : rk a < rk b := by
  obtain ⟨na, nb⟩ := not_nan (.inl h)
  exact rk_lt ha hb na nb ((order_w ha hb na nb).1.1 h)
theorem fgt_rk {a b : Nat} (ha : a < 18446744073709551616) (hb : b < 18446744073709551616) (h : FGt a b) : rk b < rk a := by
  obtain ⟨na, nb⟩ := not_nan (.inr (.inr h))
  exact rk_lt hb ha nb na ((order_w ha hb na nb).2.2.1 h)
theorem fnan_rk {a b : Nat} (ha : a < 18446744073709551616) (hb : b < 18446744073709551616) (h : ¬ FEq a a) (h2 : FEq b b) : rk b < rk a := by
  have na : nanW a = true := by
    have := feq_self ha
    cases hn : nanW a <;> simp_all
  have nb := (not_nan (.inr (.inl h2))).1
  rw [rk_nan na]
  have := (rk_num hb nb).1
  omega

theorem plain_plain (w : Nat) : plainW (plainW w) = plainW w := by
  by_cases hw : nanW w = true
  · have : plainW w = 9221120237041090561 := by unfold plainW; rw [if_pos hw]
    rw [this]; rfl
  · have : plainW w = w := by unfold plainW; rw [if_neg hw]
    rw [this, this]
theorem rk_plain (w : Nat) : rk (plainW w) = rk w := by unfold rk; rw [plain_plain]
theorem later_lt {p q : Nat} (hp : p < 18446744073709551616) (hq : q < 18446744073709551616) : laterW p q < 18446744073709551616 := by
  unfold laterW; split <;> exact plain_lt ‹_›
theorem rk_later (p q : Nat) : rk (laterW p q) = max (rk p) (rk q) := by
  unfold laterW
  split <;> rw [rk_plain] <;> omega

theorem orders_law (H : Heap) (hT : T64 H) (n0 : Int) (_ : (Lit.int .i64 n0).wf = true) (n1 : Int) (_ : (Lit.int .i64 n1).wf = true) (n2 : Int) (_ : (Lit.int .i64 n2).wf = true) (x : Nat) (wx : (Lit.float .f64 x).wf = true) (y : Nat) (wy : (Lit.float .f64 y).wf = true) (z : Nat) (wz : (Lit.float .f64 z).wf = true) :
    Does Tryd.prog 4 [.int .i64 n0, .int .i64 n1, .int .i64 n2, .float .f64 x, .float .f64 y, .float .f64 z] H fun v H' => v = .bool true ∧ Ext [] H H' := by
  have hx : x < 18446744073709551616 := by simpa [Lit.wf] using wx
  have hy : y < 18446744073709551616 := by simpa [Lit.wf] using wy
  have hz : z < 18446744073709551616 := by simpa [Lit.wf] using wz
  refine Fn_of_vc Tryd.mixed (OrdersV _ _ _ _ _ _ _ _) ?_
  refine (time_ok n0 hx H).mono ?_
  rintro _ H2 ⟨p, rfl, hp, hx2⟩
  refine ⟨_, rfl, (time_ok n1 hy H2).mono ?_⟩
  rintro _ H5 ⟨q, rfl, hq, hx5⟩
  refine ⟨_, rfl, (time_ok n2 hz H5).mono ?_⟩
  rintro _ H8 ⟨r, rfl, hr, hx8⟩
  refine ⟨_, rfl, (compare_ok hp hq H8).mono ?_⟩
  rintro _ H11 ⟨rfl, hx11⟩
  have hX11 := ((hx2.trans hx5).trans hx8).trans hx11
  have sym : sgn (rk p) (rk q) = 0 - sgn (rk q) (rk p) := by
    unfold sgn; split <;> split <;> omega
  have s01 : -1 ≤ sgn (rk q) (rk p) ∧ sgn (rk q) (rk p) ≤ 1 := by unfold sgn; split <;> (try split) <;> omega
  refine ⟨_, rfl, fun a b c k H' => a = p ∧ b = q ∧ c = r ∧ k = sgn (rk p) (rk q) ∧ Ext [] H H', (known2_ok H11).mono ?_, ?_⟩
  · rintro _ H15 ⟨rfl, hx15⟩
    refine ⟨_, rfl, fun e => (by cases e), fun _ => (compare_ok hq hp H15).mono ?_⟩
    rintro _ H18 ⟨rfl, hx18⟩
    refine ⟨_, rfl, ⟨by omega, by omega⟩, fun e => absurd sym e, fun _ => (same_ok hp hq H18).mono ?_⟩
    rintro _ H21 ⟨rfl, hx21⟩
    refine ⟨_, rfl, fun e => absurd (by rw [sgn_zero, decide_eq_true_eq]) e, fun _ => (compare_ok hp hp H21).mono ?_⟩
    rintro _ H24 ⟨rfl, hx24⟩
    exact ⟨_, rfl, fun e => absurd (sgn_eq rfl) e, fun _ => ⟨rfl, rfl, rfl, rfl, (((hX11.trans hx15).trans hx18).trans hx21).trans hx24⟩⟩
  rintro a b c _ H30 ⟨e1, e2, e3, rfl, hx30⟩
  obtain rfl : p = a := e1.symm
  obtain rfl : q = b := e2.symm
  obtain rfl : r = c := e3.symm
  clear e1 e2 e3
  refine ⟨fun a b k H' => a = p ∧ b = q ∧ k = sgn (rk p) (rk q) ∧ Ext [] H H', ⟨fun h1 => (compare_ok hq hr H30).mono ?_, fun _ => ⟨rfl, rfl, rfl, hx30⟩⟩, ?_⟩
  · rintro _ H33 ⟨rfl, hx33⟩
    refine ⟨_, rfl, fun h2 => (compare_ok hp hr H33).mono ?_, fun _ => ⟨rfl, rfl, rfl, hx30.trans hx33⟩⟩
    rintro _ H36 ⟨rfl, hx36⟩
    refine ⟨_, rfl, fun h3 => ?_, fun _ => ⟨rfl, rfl, rfl, (hx30.trans hx33).trans hx36⟩⟩
    exfalso
    unfold sgn at h1 h2 h3
    split at h1 <;> split at h2 <;> split at h3 <;> (try split at h1) <;> (try split at h2) <;> (try split at h3) <;> omega
  rintro a b _ H41 ⟨e1, e2, rfl, hx41⟩
  obtain rfl : p = a := e1.symm
  obtain rfl : q = b := e2.symm
  clear e1 e2
  refine ⟨fun a b k H' => a = p ∧ b = q ∧ k = sgn (rk p) (rk q) ∧ H' = H41, ?_, ?_⟩
  · have e1 : FLt p q → ¬ (sgn (rk p) (rk q) ≠ -1) := fun h => by rw [sgn_lt (flt_rk hp hq h)]; decide
    have e2 : FGt p q → ¬ (sgn (rk p) (rk q) ≠ 1) := fun h => by rw [sgn_gt (fgt_rk hp hq h)]; decide
    have e3 : ¬ FEq p p → FEq q q → ¬ (sgn (rk p) (rk q) ≠ 1) := fun h h' => by rw [sgn_gt (fnan_rk hp hq h h')]; decide
    have fin : (fun (a b : Nat) (k : Int) (H' : Heap) => a = p ∧ b = q ∧ k = sgn (rk p) (rk q) ∧ H' = H41) p q (sgn (rk p) (rk q)) H41 := ⟨rfl, rfl, rfl, rfl⟩
    have last : ∀ {X : Prop}, ((¬ FEq p p) → ((FEq q q → ((sgn (rk p) (rk q) ≠ 1 → X) ∧ (¬ (sgn (rk p) (rk q) ≠ 1) → (fun (a b : Nat) (k : Int) (H' : Heap) => a = p ∧ b = q ∧ k = sgn (rk p) (rk q) ∧ H' = H41) p q (sgn (rk p) (rk q)) H41))) ∧ (¬ FEq q q → (fun (a b : Nat) (k : Int) (H' : Heap) => a = p ∧ b = q ∧ k = sgn (rk p) (rk q) ∧ H' = H41) p q (sgn (rk p) (rk q)) H41))) ∧ (¬ ¬ FEq p p → (fun (a b : Nat) (k : Int) (H' : Heap) => a = p ∧ b = q ∧ k = sgn (rk p) (rk q) ∧ H' = H41) p q (sgn (rk p) (rk q)) H41) :=
      fun {X} => ⟨fun h => ⟨fun h' => ⟨fun h'' => absurd h'' (e3 h h'), fun _ => fin⟩, fun _ => fin⟩, fun _ => fin⟩
    refine ⟨fun h => ⟨fun h' => absurd h' (e1 h), fun _ => ⟨fun h2 => ⟨fun h' => absurd h' (e2 h2), fun _ => last⟩, fun _ => last⟩⟩, fun h => ⟨fun h2 => ⟨fun h' => absurd h' (e2 h2), fun _ => last⟩, fun _ => last⟩⟩
  rintro a b _ H46 ⟨e1, e2, rfl, e46⟩
  obtain rfl : p = a := e1.symm
  obtain rfl : q = b := e2.symm
  clear e1 e2
  obtain rfl : H41 = H46 := e46.symm
  have hm := later_lt hp hq
  have hm' := later_lt hq hp
  have rm := rk_later p q
  refine (later_ok hp hq H41).mono ?_
  rintro _ H48 ⟨rfl, hx48⟩
  have hT48 : T64 H48 := hT.ext (hx41.trans hx48)
  refine ⟨_, rfl, (text_ok hp hT48).mono ?_⟩
  rintro _ H51 ⟨rfl, hx51⟩
  refine ⟨_, rfl, (parse_hex (plain_lt hp) (hT48.ext hx51)).mono ?_⟩
  rintro _ H54 ⟨rfl, hx54⟩
  rw [if_pos (plain_plain p)]
  refine ⟨_, _, rfl, (compare_ok hm hp H54).mono ?_⟩
  rintro _ H58 ⟨rfl, hx58⟩
  have c1 : 0 ≤ sgn (rk (laterW p q)) (rk p) := by rw [rm]; unfold sgn; split <;> (try split) <;> omega
  have c2 : 0 ≤ sgn (rk (laterW p q)) (rk q) := by rw [rm]; unfold sgn; split <;> (try split) <;> omega
  refine ⟨_, rfl, fun _ => (compare_ok hm hq H58).mono ?_, fun h => absurd c1 h⟩
  rintro _ H61 ⟨rfl, hx61⟩
  refine ⟨_, rfl, fun _ => (same_ok hm hp H61).mono ?_, fun h => absurd c2 h⟩
  rintro _ H64 ⟨rfl, hx64⟩
  have hX64 := (((((hx41.trans hx48).trans hx51).trans hx54).trans hx58).trans hx61).trans hx64
  have tail : ∀ H64, Ext [] H H64 → Does Tryd.prog 16 [(.float .f64 q), (.float .f64 p)] H64 fun v66 H67 => ∃ f68 : Nat, v66 = (.float .f64 f68) ∧
      Does Tryd.prog 15 [(.float .f64 (laterW p q)), (.float .f64 f68)] H67 fun v69 H70 => ∃ t71 : Bool, v69 = (.bool t71) ∧
        (t71 = true →
          (true = true →
            Does Tryd.prog 15 [(.float .f64 (plainW p)), (.float .f64 p)] H70 fun v72 H73 => ∃ t74 : Bool, v72 = (.bool t74) ∧
              (t74 = true →
                Does Tryd.prog 8 [(.float .f64 p)] H73 fun v75 H76 => ∃ s77 : ByteArray, v75 = (.string s77) ∧
                  Does Tryd.prog 8 [(.float .f64 q)] H76 fun v78 H79 => ∃ s80 : ByteArray, v78 = (.string s80) ∧
                    (fun v H' => v = Value.bool true ∧ Ext [] H H') (.bool (@decide (((s77 : ByteArray) = s80) ↔ ((sgn (rk p) (rk q) : Int) = 0)) (Classical.propDecidable _))) H79) ∧
              (t74 = false → (fun v H' => v = Value.bool true ∧ Ext [] H H') (.bool false) H73)) ∧
          (true = false → (fun v H' => v = Value.bool true ∧ Ext [] H H') (.bool false) H70)) ∧
        (t71 = false → (fun v H' => v = Value.bool true ∧ Ext [] H H') (.bool false) H70) := by
    intro H64 hX
    refine (later_ok hq hp H64).mono ?_
    rintro _ H67 ⟨rfl, hx67⟩
    refine ⟨_, rfl, (same_ok hm hm' H67).mono ?_⟩
    rintro _ H70 ⟨rfl, hx70⟩
    have r2 := rk_later q p
    refine ⟨_, rfl, fun _ => ⟨fun _ => (same_ok (plain_lt hp) hp H70).mono ?_, fun e => (by cases e)⟩, fun e => ?_⟩
    · rintro _ H73 ⟨rfl, hx73⟩
      refine ⟨_, rfl, fun _ => (text_ok hp ((((hT.ext hX).ext hx67).ext hx70).ext hx73)).mono ?_, fun e => ?_⟩
      · rintro _ H76 ⟨rfl, hx76⟩
        refine ⟨_, rfl, (text_ok hq (((((hT.ext hX).ext hx67).ext hx70).ext hx73).ext hx76)).mono ?_⟩
        rintro _ H79 ⟨rfl, hx79⟩
        refine ⟨_, rfl, yes ?_, ((((hX.trans hx67).trans hx70).trans hx73).trans hx76).trans hx79⟩
        rw [hexS_inj (plain_lt hp) (plain_lt hq), sgn_zero, rk_inj]
      · rw [rk_plain] at e
        simp at e
    · rw [rm, r2] at e
      simp at e
      omega
  refine ⟨_, rfl, fun _ => tail H64 hX64, fun e => (same_ok hm hq H64).mono ?_⟩
  rintro _ H82 ⟨rfl, hx82⟩
  refine ⟨_, rfl, fun _ => tail H82 (hX64.trans hx82), fun e' => ?_⟩
  rw [rm] at e e'
  simp at e e'
  omega
end Go.Proofs
end

namespace Go.Proofs.YtppjhnepmolboaaDoor.numOrders
open Go.ChangeShapes Go.WideShapes Go.ChangeAt Go.RowKit
open Go.ChangeMaps (open_string shut_string)
set_option linter.unusedVariables false

theorem contract (H : Type) (enc : TypeId × Value → H) (W : World) (base : Nat) (args : Array Value) (ds gs : List (DataW H)) (before : List MemPlace)
    (hval0 : ∀ (j : Nat) t v, Tryd.f4.params[j]? = some t → args[j]? = some v → Value.okWide Tryd.prog W .any base t v)
    (hW : DataW.Whole enc Tryd.prog Tryd.f4.params.toList Rows.numOrdersSpec.vars false W args.toList ds gs before) (hL : laidMetH Tryd.prog Rows.numOrdersRow.laid W) :
    Calls Tryd.prog 4 args W fun e W' => ∃ v, e = .returned v ∧ Rows.numOrdersSpec.post enc Tryd.prog Tryd.f4 false true false false W args v W' := by
  have hval : ∀ (j : Nat) t v, Tryd.f4.params[j]? = some t → args[j]? = some v → Value.okWide Tryd.prog W .any base t v := hval0
  have hL' : laidMet Tryd.prog theLaid W := hL
  have hW' := hW
  obtain ⟨p, q, hA0, hV, rfl, hfz, hnd⟩ := hW
  have hA : DataW.TrodAll enc Tryd.prog W 0 (fun _ => true) true Tryd.f4.params.toList args.toList ds p := hA0
  rw [Tryd.params4] at hA hval
  obtain ⟨v0, vs0, d0, ds0, p0, q0, hargs, rfl, rfl, h0, r0⟩ := trodAll_cons hA
  obtain ⟨v1, vs1, d1, ds1, p1, q1, rfl, rfl, rfl, h1, r1⟩ := trodAll_cons r0
  obtain ⟨v2, vs2, d2, ds2, p2, q2, rfl, rfl, rfl, h2, r2⟩ := trodAll_cons r1
  obtain ⟨v3, vs3, d3, ds3, p3, q3, rfl, rfl, rfl, h3, r3⟩ := trodAll_cons r2
  obtain ⟨v4, vs4, d4, ds4, p4, q4, rfl, rfl, rfl, h4, r4⟩ := trodAll_cons r3
  obtain ⟨v5, vs5, d5, ds5, p5, q5, rfl, rfl, rfl, h5, r5⟩ := trodAll_cons r4
  obtain ⟨rfl, rfl, rfl⟩ := trodAll_nil r5
  obtain rfl : args = #[v0, v1, v2, v3, v4, v5] := by cases args; simp_all
  obtain ⟨rfl, rfl⟩ := trodVars_none hV
  obtain ⟨a0, rfl, rfl, rfl, w0⟩ := open_int Tryd.underlying3 (hval 0 3 v0 rfl rfl) h0
  obtain ⟨a1, rfl, rfl, rfl, w1⟩ := open_int Tryd.underlying3 (hval 1 3 v1 rfl rfl) h1
  obtain ⟨a2, rfl, rfl, rfl, w2⟩ := open_int Tryd.underlying3 (hval 2 3 v2 rfl rfl) h2
  obtain ⟨a3, rfl, rfl, rfl, w3⟩ := open_float Tryd.underlying22 (hval 3 22 v3 rfl rfl) h3
  obtain ⟨a4, rfl, rfl, rfl, w4⟩ := open_float Tryd.underlying22 (hval 4 22 v4 rfl rfl) h4
  obtain ⟨a5, rfl, rfl, rfl, w5⟩ := open_float Tryd.underlying22 (hval 5 22 v5 rfl rfl) h5
  clear hA0 hval0
  refine (Go.Vc.Does.below (Go.Proofs.orders_law W.heap (t64 hL') a0 w0 a1 w1 a2 w2 a3 w3 a4 w4 a5 w5)).mono fun e W' ⟨he, bel⟩ => ?_
  subst he
  exact ⟨_, rfl, _, _, _, [], _, [], hW', trodAll_mk1 (shut_bool Tryd.underlying4 _), (trodAll_cons_mk (shut_int Tryd.underlying3 w0) (trodAll_cons_mk (shut_int Tryd.underlying3 w1) (trodAll_cons_mk (shut_int Tryd.underlying3 w2) (trodAll_cons_mk (shut_float Tryd.underlying22 w3) (trodAll_cons_mk (shut_float Tryd.underlying22 w4) (trodAll_cons_mk (shut_float Tryd.underlying22 w5) trodAll_mk0)))))), rfl, bel.frame _, fun h => by cases h⟩

theorem reads (os : Os) {H : Type} (enc : TypeId × Value → H) : ∃ places, DataW.whole enc Tryd.prog ((laidWorld os).forCall (fun _ _ => 0) ⟨#[], #[.int .i64 0, .int .i64 0, .int .i64 0, .float .f64 0, .float .f64 0, .float .f64 0], []⟩).memory Tryd.f4.params.toList Rows.numOrdersSpec.vars false (#[.int .i64 0, .int .i64 0, .int .i64 0, .float .f64 0, .float .f64 0, .float .f64 0] : Array Value).toList 8 = some ([.lit (.int .i64 0), .lit (.int .i64 0), .lit (.int .i64 0), .lit (.float .f64 0), .lit (.float .f64 0), .lit (.float .f64 0)], [], places) :=
  ⟨[], by kernel_rfl⟩

set_option maxRecDepth 100000 in
theorem lifted (os : Os) (started : os.Started) (H : Type) (enc : TypeId × Value → H) (F : Stop.Interp) :
    ReturnsInHanded {} Tryd.checked os 4 .any ((OpenSpec.ofChange Rows.numOrdersSpec).preRow enc Tryd.prog Tryd.f4 Rows.numOrdersRow.domain false Rows.numOrdersRow.laid) (((OpenSpec.ofChange Rows.numOrdersSpec).at F).post enc Tryd.prog Tryd.f4 false true false false) := by
  obtain ⟨places, hx⟩ := reads os enc
  refine returnsInHanded_of_row (C := Tryd.checked) (s := OpenSpec.ofChange Rows.numOrdersSpec) own started (by kernel_rfl) Tryd.func4
    (witness_row_at (enc := enc) (C := Tryd.checked) false (laidWorld os) #[.int .i64 0, .int .i64 0, .int .i64 0, .float .f64 0, .float .f64 0, .float .f64 0] rfl (by kernel_rfl) (by kernel_rfl) (by kernel_rfl)
      (OpenSpec.preRow_of_cond 8 hx (by kernel_rfl) (fun k hk => by cases hk) (by kernel_rfl) (laid_met os _))) ?_
  intro W base args ds gs before hval hW _ _ _ hL _ _
  exact contract H enc W base args ds gs before hval hW hL

theorem said : Rows.NumOrdersSaid :=
  OpenClaim.holds_of_cond 4 Tryd.f4 rfl rfl rfl rfl rfl rfl rfl ⟨rfl, rfl, rfl, rfl, rfl⟩ rfl rfl rfl rfl rfl (by kernel_rfl) Tryd.func4 (by kernel_rfl)
    (of_decide_eq_true (by kernel_rfl)) (by unfold Func.isWrapper; first | (rw [if_pos (by decide +kernel)]; kernel_rfl) | (rw [if_neg (by decide +kernel)]; exact ⟨rfl, rfl⟩))
    (fun os started H enc _ F => by rw [OpenClaim.pre_eq_preRow]; exact lifted os started H enc F)

theorem plain (f : FuncId) (fn : Func) (hf : Tryd.pinned.checked.prog.funcNamed "pentimento/pentimentolaw2.NumOrders" = some f) (hfn : Tryd.pinned.checked.prog.funcs[f]? = some fn) :
    true = Tryd.pinned.checked.prog.looks [] ∧ ∀ (j : Nat) t, fn.params[j]? = some t → Tryd.pinned.checked.prog.wantsStandIn t = false := by
  obtain rfl : f = 4 := Option.some.inj ((show Tryd.prog.funcNamed "pentimento/pentimentolaw2.NumOrders" = some 4 by kernel_rfl).symm.trans hf) |>.symm
  obtain rfl : fn = Tryd.f4 := (Option.some.inj (Tryd.func4.symm.trans hfn)).symm
  refine ⟨by kernel_rfl, fun j t ht => ?_⟩
  rw [Tryd.params4] at ht
  match j, ht with
  | 0, ht =>
    obtain rfl : t = 3 := by simpa using ht.symm
    exact (show Tryd.prog.wantsStandIn 3 = false by kernel_rfl)
  | 1, ht =>
    obtain rfl : t = 3 := by simpa using ht.symm
    exact (show Tryd.prog.wantsStandIn 3 = false by kernel_rfl)
  | 2, ht =>
    obtain rfl : t = 3 := by simpa using ht.symm
    exact (show Tryd.prog.wantsStandIn 3 = false by kernel_rfl)
  | 3, ht =>
    obtain rfl : t = 22 := by simpa using ht.symm
    exact (show Tryd.prog.wantsStandIn 22 = false by kernel_rfl)
  | 4, ht =>
    obtain rfl : t = 22 := by simpa using ht.symm
    exact (show Tryd.prog.wantsStandIn 22 = false by kernel_rfl)
  | 5, ht =>
    obtain rfl : t = 22 := by simpa using ht.symm
    exact (show Tryd.prog.wantsStandIn 22 = false by kernel_rfl)
  | j + 6, ht => exact absurd ht (by simp)

theorem proved : Rows.NumOrdersCardSaid :=
  Claim7.holds_tied_plain_at .later [] _ _ _ _ said (fun _ h => by cases h) (by kernel_rfl) (fun _ h => by cases h) numOrders_row_tie rfl ⟨rfl, rfl⟩ (by kernel_rfl) rfl plain (by kernel_rfl)
#print axioms proved
end Go.Proofs.YtppjhnepmolboaaDoor.numOrders

