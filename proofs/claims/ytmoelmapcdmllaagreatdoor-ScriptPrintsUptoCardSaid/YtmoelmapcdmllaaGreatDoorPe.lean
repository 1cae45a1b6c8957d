/-
  The contracts of the functions that the law reaches, part 5. No condition.
-/
import Derived.Test.YtmoelmapcdmllaaGreatDoorPd
import Derived.Test.YtmoelmapcdmllaaGreatDoorPb
import Derived.Test.YtmoelmapcdmllaaGreatDoorProg
import Derived.Test.YtmoelmapcdmllaaGreatDoorVb

section
open Go Go.Vc
namespace Go.Proofs
theorem ex_kinds {H0 H : Heap} {b1 : Nat} {xs : List Value} {X : Int → Prop} {r : Int} (h : EX H0 H b1 xs) (h0 : 0 ≤ r) (h1 : r < 24) (k : ∀ m, In64 m → hcell H0 1 (0 + r.toNat) = some (.int .i64 m) → X m) : ∃ m : Int, hcell H 1 (0 + r.toNat) = some (.int .i64 m) ∧ X m := by
  obtain ⟨n, h2, h3⟩ := h.glob.kinds r.toNat (by omega)
  rw [← Nat.zero_add r.toNat] at h2
  exact ⟨n, hcell_ext h2 h.ext (by simp), k n h3 h2⟩
theorem ex_isk {H0 H : Heap} {b1 b j : Nat} {xs : List Value} {X : Prop} {v : Value} (h : EX H0 H b1 xs) (hj : hcell H0 b j = some v) (k : X) : isL H b j [v] ∧ X := ⟨⟨hcell_ext hj h.ext (by simp), trivial⟩, k⟩
theorem ex_pick {X : Int → Heap → Prop} {H : Heap} {n m : Int} (h0 : 0 < m ∧ m ≤ 1000000000000) (k : ∀ r : Int, 0 ≤ r → r < m → X r H) : Does Tryz.prog 8 [.int .i64 n, .int .i64 m] H fun v H' => ∃ r : Int, v = .int .i64 r ∧ X r H' := hx_pick h0 k
theorem ex_said {H : Heap} {X : ByteArray → Heap → Prop} {n how : Int} {s : ByteArray} (hs : s.size ≤ 10000000) (k : ∀ t, t.size ≤ 10000000 → X t H) : Does Tryz.prog 65 [.int .i64 n, .int .i64 how, .string s] H fun v H' => ∃ t : ByteArray, v = .string t ∧ X t H' := hx_said hs k
/-- The link of a raw call. -/
theorem hx_node {H0 H : Heap} {b1 N b : Nat} {xs : List Value} {ss : List Sr} {X : Int → Int → Nat → Option Addr → Nat → Nat → Heap → Prop} {m : Int} (h : HX H0 H b1 xs N b ss) (k : ∀ n1 n2 f a l c H', HX H0 H' b1 xs N b ss → CellOk N H' .r (.slice a l c) → X n1 n2 f a l c H') :
    Does Tryz.prog 67 [.agg #[.int .i64 2, .int .i64 m, .int .i64 0, .float .f64 0, .slice none 0 0]] H fun v H' => ∃ n1 : Int, ∃ n2 : Int, ∃ f : Nat, ∃ a : Option Addr, ∃ l : Nat, ∃ c : Nat, v = .agg #[.int .i64 n1, .int .i64 n2, .float .f64 f, .slice a l c] ∧ X n1 n2 f a l c H' := by
  refine (node_ok h.g 2 m 0 (by decide) (a := none) (l := 0) (c := 0) ⟨[], ⟨rfl, rfl⟩, by decide⟩).mono ?_
  rintro _ H' ⟨n1, n2, f, a, l, c, rfl, ha, hx⟩
  refine ⟨n1, n2, f, a, l, c, rfl, k _ _ _ _ _ _ _ (h.more hx) (ha.2.2.2.1.mono h.sz)⟩
/-! Stages -/
section
set_option linter.unusedVariables false
variable {R : Value → Heap → Prop} {H4 : Heap} {b1 b3 : Nat} {x0 x1 x2 x3 x4 x5 x6 x7 : Int} {w : Nat} {a : Option Addr} {l c : Nat} {s : ByteArray}
abbrev rawC (x0 x1 x2 x3 x4 x5 x6 x7 : Int) (w : Nat) (a : Option Addr) (l c : Nat) (s : ByteArray) : List Value := [.int .i64 x0, .int .i64 x1, .int .i64 x2, .int .i64 x3, .int .i64 x4, .int .i64 x5, .int .i64 x6, .int .i64 x7, .float .f64 w, .slice a l c, .string s]
theorem hcall_5 (fin : ∀ {H192 : Heap} {N b16 : Nat}, HX H4 H192 b1 (rawC x0 x1 x2 x3 x4 x5 x6 x7 w a l c s) N b16 callS → ∃ n193 : Int, hcell H192 b16 0 = some (.int .i64 n193) ∧ ( ∃ s194 : ByteArray, hcell H192 b16 (0 + 1) = some (.string s194) ∧ ( ∃ s195 : ByteArray, hcell H192 b16 ((0 + 1) + 1) = some (.string s195) ∧ ( ∃ n196 : Int, hcell H192 b16 (((0 + 1) + 1) + 1) = some (.int .i64 n196) ∧ ( ∃ f197 : Nat, hcell H192 b16 ((((0 + 1) + 1) + 1) + 1) = some (.float .f64 f197) ∧ ( ∃ n198 : Int, hcell H192 b16 (((((0 + 1) + 1) + 1) + 1) + 1) = some (.int .i64 n198) ∧ ( ∃ n199 : Int, hcell H192 b16 ((((((0 + 1) + 1) + 1) + 1) + 1) + 1) = some (.int .i64 n199) ∧ ( ∃ a200 : Option Addr, ∃ l201 : Nat, ∃ c202 : Nat, hcell H192 b16 (((((((0 + 1) + 1) + 1) + 1) + 1) + 1) + 1) = some (.slice a200 l201 c202) ∧ ( Cells H192 b3 0 8 ∧ ∀ H203 : Heap, Puts H192 b3 0 [(.int .i64 n193), (.string s194), (.string s195), (.int .i64 n196), (.float .f64 f197), (.int .i64 n198), (.int .i64 n199), (.slice a200 l201 c202)] H203 → ( ∃ n204 : Int, hcell H203 b3 0 = some (.int .i64 n204) ∧ ( ∃ s205 : ByteArray, hcell H203 b3 (0 + 1) = some (.string s205) ∧ ( ∃ s206 : ByteArray, hcell H203 b3 ((0 + 1) + 1) = some (.string s206) ∧ ( ∃ n207 : Int, hcell H203 b3 (((0 + 1) + 1) + 1) = some (.int .i64 n207) ∧ ( ∃ f208 : Nat, hcell H203 b3 ((((0 + 1) + 1) + 1) + 1) = some (.float .f64 f208) ∧ ( ∃ n209 : Int, hcell H203 b3 (((((0 + 1) + 1) + 1) + 1) + 1) = some (.int .i64 n209) ∧ ( ∃ n210 : Int, hcell H203 b3 ((((((0 + 1) + 1) + 1) + 1) + 1) + 1) = some (.int .i64 n210) ∧ ( ∃ a211 : Option Addr, ∃ l212 : Nat, ∃ c213 : Nat, hcell H203 b3 (((((((0 + 1) + 1) + 1) + 1) + 1) + 1) + 1) = some (.slice a211 l212 c213) ∧ ( R (.agg #[(.int .i64 n204), (.string s205), (.string s206), (.int .i64 n207), (.float .f64 f208), (.int .i64 n209), (.int .i64 n210), (.slice a211 l212 c213)]) H203)))))))))))))))))) (h0 : In64 x0) (hw : w < 18446744073709551616) (hs : s.size ≤ 10000000) {H179 : Heap} {N b16 : Nat} (h : HX H4 H179 b1 (rawC x0 x1 x2 x3 x4 x5 x6 x7 w a l c s) N b16 callS) :
    ∃ I180 : Heap → Prop, ( ∃ n181 : Int, hcell H179 b16 0 = some (.int .i64 n181) ∧ ( ((((n181 : Int) = 4) → ( ((((n181 : Int) = 4) → ( ∃ n182 : Int, hcell H179 b1 (0 + 6) = some (.int .i64 n182) ∧ ( Does Tryz.prog 8 [(.int .i64 n182), (.int .i64 40)] H179 fun v183 H184 => ∃ n185 : Int, v183 = (.int .i64 n185) ∧ ( (In64 (n185 - 1)) ∧ Cells H184 b16 (0 + 6) 1 ∧ ∀ H186 : Heap, Puts H184 b16 (0 + 6) [(.int .i64 (n185 - 1))] H186 → ( I180 H186))))) ∧ (¬ ((n181 : Int) = 4) → ( I180 H179))))) ∧ (¬ ((n181 : Int) = 4) → ( ((((n181 : Int) = 14) → ( ∃ n187 : Int, hcell H179 b1 (0 + 6) = some (.int .i64 n187) ∧ ( Does Tryz.prog 8 [(.int .i64 n187), (.int .i64 40)] H179 fun v188 H189 => ∃ n190 : Int, v188 = (.int .i64 n190) ∧ ( (In64 (n190 - 1)) ∧ Cells H189 b16 (0 + 6) 1 ∧ ∀ H191 : Heap, Puts H189 b16 (0 + 6) [(.int .i64 (n190 - 1))] H191 → ( I180 H191))))) ∧ (¬ ((n181 : Int) = 14) → ( I180 H179)))))))) ∧ ∀ H192 : Heap, I180 H192 → ( ∃ n193 : Int, hcell H192 b16 0 = some (.int .i64 n193) ∧ ( ∃ s194 : ByteArray, hcell H192 b16 (0 + 1) = some (.string s194) ∧ ( ∃ s195 : ByteArray, hcell H192 b16 ((0 + 1) + 1) = some (.string s195) ∧ ( ∃ n196 : Int, hcell H192 b16 (((0 + 1) + 1) + 1) = some (.int .i64 n196) ∧ ( ∃ f197 : Nat, hcell H192 b16 ((((0 + 1) + 1) + 1) + 1) = some (.float .f64 f197) ∧ ( ∃ n198 : Int, hcell H192 b16 (((((0 + 1) + 1) + 1) + 1) + 1) = some (.int .i64 n198) ∧ ( ∃ n199 : Int, hcell H192 b16 ((((((0 + 1) + 1) + 1) + 1) + 1) + 1) = some (.int .i64 n199) ∧ ( ∃ a200 : Option Addr, ∃ l201 : Nat, ∃ c202 : Nat, hcell H192 b16 (((((((0 + 1) + 1) + 1) + 1) + 1) + 1) + 1) = some (.slice a200 l201 c202) ∧ ( Cells H192 b3 0 8 ∧ ∀ H203 : Heap, Puts H192 b3 0 [(.int .i64 n193), (.string s194), (.string s195), (.int .i64 n196), (.float .f64 f197), (.int .i64 n198), (.int .i64 n199), (.slice a200 l201 c202)] H203 → ( ∃ n204 : Int, hcell H203 b3 0 = some (.int .i64 n204) ∧ ( ∃ s205 : ByteArray, hcell H203 b3 (0 + 1) = some (.string s205) ∧ ( ∃ s206 : ByteArray, hcell H203 b3 ((0 + 1) + 1) = some (.string s206) ∧ ( ∃ n207 : Int, hcell H203 b3 (((0 + 1) + 1) + 1) = some (.int .i64 n207) ∧ ( ∃ f208 : Nat, hcell H203 b3 ((((0 + 1) + 1) + 1) + 1) = some (.float .f64 f208) ∧ ( ∃ n209 : Int, hcell H203 b3 (((((0 + 1) + 1) + 1) + 1) + 1) = some (.int .i64 n209) ∧ ( ∃ n210 : Int, hcell H203 b3 ((((((0 + 1) + 1) + 1) + 1) + 1) + 1) = some (.int .i64 n210) ∧ ( ∃ a211 : Option Addr, ∃ l212 : Nat, ∃ c213 : Nat, hcell H203 b3 (((((((0 + 1) + 1) + 1) + 1) + 1) + 1) + 1) = some (.slice a211 l212 c213) ∧ ( R (.agg #[(.int .i64 n204), (.string s205), (.string s206), (.int .i64 n207), (.float .f64 f208), (.int .i64 n209), (.int .i64 n210), (.slice a211 l212 c213)]) H203)))))))))))))))))) := by
  refine hx_cut h ?_ fun H' _ => ?_
  · clear fin
    repeat' first
      | assumption
      | refine hx_cut (by assumption) ?_ fun H' _ => ?_
      | refine hx_pick ⟨by decide, by decide⟩ fun r _ _ => ?_
      | refine hx_said (by assumption) fun t _ => ?_
      | refine hx_time (by assumption) (by assumption) fun r H' _ _ => ?_
      | refine hx_oi (by assumption) (by rfl) fun m => ?_
      | refine hx_lr (by assumption) (by rfl) ?_
      | refine hx_lf (by assumption) (by rfl) ?_
      | refine hx_ls (by assumption) (by rfl) ?_
      | refine hx_li (by assumption) (by rfl) ?_
      | refine hx_few (by assumption) (by simp) 60 (by rfl) (by decide) fun a' l' c' H' _ _ => ?_
      | refine hx_few (by assumption) (by simp) 200 (by rfl) (by decide) fun a' l' c' H' _ _ => ?_
      | refine hx_node (by assumption) fun n1 n2 f a' l' c' H' _ _ => ?_
      | refine hx_make (by assumption) (by omega) fun d H' _ _ _ => ?_
      | refine hx_pi (by assumption) (by rfl) (by first | assumption | exact ⟨by omega, by omega⟩) fun H' _ => ?_
      | refine hx_ps (by assumption) (by rfl) (by omega) fun H' _ => ?_
      | refine hx_pf (by assumption) (by rfl) (by assumption) fun H' _ => ?_
      | refine hx_pr (by assumption) (by rfl) (by assumption) fun H' _ => ?_
      | refine ⟨by decide, fun q _ => ?_⟩
      | refine @And.intro (_ ≤ _) _ (by omega) ?_
      | refine @And.intro (_ < _) _ (by omega) ?_
      | refine ⟨⟨by omega, by omega⟩, ?_⟩
      | refine br (fun _ => ?_) (fun _ => ?_)
  · exact fin (by assumption)
theorem hcall_4 (fin : ∀ {H192 : Heap} {N b16 : Nat}, HX H4 H192 b1 (rawC x0 x1 x2 x3 x4 x5 x6 x7 w a l c s) N b16 callS → ∃ n193 : Int, hcell H192 b16 0 = some (.int .i64 n193) ∧ ( ∃ s194 : ByteArray, hcell H192 b16 (0 + 1) = some (.string s194) ∧ ( ∃ s195 : ByteArray, hcell H192 b16 ((0 + 1) + 1) = some (.string s195) ∧ ( ∃ n196 : Int, hcell H192 b16 (((0 + 1) + 1) + 1) = some (.int .i64 n196) ∧ ( ∃ f197 : Nat, hcell H192 b16 ((((0 + 1) + 1) + 1) + 1) = some (.float .f64 f197) ∧ ( ∃ n198 : Int, hcell H192 b16 (((((0 + 1) + 1) + 1) + 1) + 1) = some (.int .i64 n198) ∧ ( ∃ n199 : Int, hcell H192 b16 ((((((0 + 1) + 1) + 1) + 1) + 1) + 1) = some (.int .i64 n199) ∧ ( ∃ a200 : Option Addr, ∃ l201 : Nat, ∃ c202 : Nat, hcell H192 b16 (((((((0 + 1) + 1) + 1) + 1) + 1) + 1) + 1) = some (.slice a200 l201 c202) ∧ ( Cells H192 b3 0 8 ∧ ∀ H203 : Heap, Puts H192 b3 0 [(.int .i64 n193), (.string s194), (.string s195), (.int .i64 n196), (.float .f64 f197), (.int .i64 n198), (.int .i64 n199), (.slice a200 l201 c202)] H203 → ( ∃ n204 : Int, hcell H203 b3 0 = some (.int .i64 n204) ∧ ( ∃ s205 : ByteArray, hcell H203 b3 (0 + 1) = some (.string s205) ∧ ( ∃ s206 : ByteArray, hcell H203 b3 ((0 + 1) + 1) = some (.string s206) ∧ ( ∃ n207 : Int, hcell H203 b3 (((0 + 1) + 1) + 1) = some (.int .i64 n207) ∧ ( ∃ f208 : Nat, hcell H203 b3 ((((0 + 1) + 1) + 1) + 1) = some (.float .f64 f208) ∧ ( ∃ n209 : Int, hcell H203 b3 (((((0 + 1) + 1) + 1) + 1) + 1) = some (.int .i64 n209) ∧ ( ∃ n210 : Int, hcell H203 b3 ((((((0 + 1) + 1) + 1) + 1) + 1) + 1) = some (.int .i64 n210) ∧ ( ∃ a211 : Option Addr, ∃ l212 : Nat, ∃ c213 : Nat, hcell H203 b3 (((((((0 + 1) + 1) + 1) + 1) + 1) + 1) + 1) = some (.slice a211 l212 c213) ∧ ( R (.agg #[(.int .i64 n204), (.string s205), (.string s206), (.int .i64 n207), (.float .f64 f208), (.int .i64 n209), (.int .i64 n210), (.slice a211 l212 c213)]) H203)))))))))))))))))) (h0 : In64 x0) (hw : w < 18446744073709551616) (hs : s.size ≤ 10000000) {H166 : Heap} {N b16 : Nat} (h : HX H4 H166 b1 (rawC x0 x1 x2 x3 x4 x5 x6 x7 w a l c s) N b16 callS) :
    ∃ I167 : Heap → Prop, ( ∃ n168 : Int, hcell H166 b16 0 = some (.int .i64 n168) ∧ ( ((((n168 : Int) = 3) → ( ((((n168 : Int) = 3) → ( ∃ n169 : Int, hcell H166 b1 (0 + 5) = some (.int .i64 n169) ∧ ( Does Tryz.prog 8 [(.int .i64 n169), (.int .i64 30)] H166 fun v170 H171 => ∃ n172 : Int, v170 = (.int .i64 n172) ∧ ( (In64 (n172 - 1)) ∧ Cells H171 b16 (0 + 5) 1 ∧ ∀ H173 : Heap, Puts H171 b16 (0 + 5) [(.int .i64 (n172 - 1))] H173 → ( I167 H173))))) ∧ (¬ ((n168 : Int) = 3) → ( I167 H166))))) ∧ (¬ ((n168 : Int) = 3) → ( ((((n168 : Int) = 14) → ( ∃ n174 : Int, hcell H166 b1 (0 + 5) = some (.int .i64 n174) ∧ ( Does Tryz.prog 8 [(.int .i64 n174), (.int .i64 30)] H166 fun v175 H176 => ∃ n177 : Int, v175 = (.int .i64 n177) ∧ ( (In64 (n177 - 1)) ∧ Cells H176 b16 (0 + 5) 1 ∧ ∀ H178 : Heap, Puts H176 b16 (0 + 5) [(.int .i64 (n177 - 1))] H178 → ( I167 H178))))) ∧ (¬ ((n168 : Int) = 14) → ( I167 H166)))))))) ∧ ∀ H179 : Heap, I167 H179 → ( ∃ I180 : Heap → Prop, ( ∃ n181 : Int, hcell H179 b16 0 = some (.int .i64 n181) ∧ ( ((((n181 : Int) = 4) → ( ((((n181 : Int) = 4) → ( ∃ n182 : Int, hcell H179 b1 (0 + 6) = some (.int .i64 n182) ∧ ( Does Tryz.prog 8 [(.int .i64 n182), (.int .i64 40)] H179 fun v183 H184 => ∃ n185 : Int, v183 = (.int .i64 n185) ∧ ( (In64 (n185 - 1)) ∧ Cells H184 b16 (0 + 6) 1 ∧ ∀ H186 : Heap, Puts H184 b16 (0 + 6) [(.int .i64 (n185 - 1))] H186 → ( I180 H186))))) ∧ (¬ ((n181 : Int) = 4) → ( I180 H179))))) ∧ (¬ ((n181 : Int) = 4) → ( ((((n181 : Int) = 14) → ( ∃ n187 : Int, hcell H179 b1 (0 + 6) = some (.int .i64 n187) ∧ ( Does Tryz.prog 8 [(.int .i64 n187), (.int .i64 40)] H179 fun v188 H189 => ∃ n190 : Int, v188 = (.int .i64 n190) ∧ ( (In64 (n190 - 1)) ∧ Cells H189 b16 (0 + 6) 1 ∧ ∀ H191 : Heap, Puts H189 b16 (0 + 6) [(.int .i64 (n190 - 1))] H191 → ( I180 H191))))) ∧ (¬ ((n181 : Int) = 14) → ( I180 H179)))))))) ∧ ∀ H192 : Heap, I180 H192 → ( ∃ n193 : Int, hcell H192 b16 0 = some (.int .i64 n193) ∧ ( ∃ s194 : ByteArray, hcell H192 b16 (0 + 1) = some (.string s194) ∧ ( ∃ s195 : ByteArray, hcell H192 b16 ((0 + 1) + 1) = some (.string s195) ∧ ( ∃ n196 : Int, hcell H192 b16 (((0 + 1) + 1) + 1) = some (.int .i64 n196) ∧ ( ∃ f197 : Nat, hcell H192 b16 ((((0 + 1) + 1) + 1) + 1) = some (.float .f64 f197) ∧ ( ∃ n198 : Int, hcell H192 b16 (((((0 + 1) + 1) + 1) + 1) + 1) = some (.int .i64 n198) ∧ ( ∃ n199 : Int, hcell H192 b16 ((((((0 + 1) + 1) + 1) + 1) + 1) + 1) = some (.int .i64 n199) ∧ ( ∃ a200 : Option Addr, ∃ l201 : Nat, ∃ c202 : Nat, hcell H192 b16 (((((((0 + 1) + 1) + 1) + 1) + 1) + 1) + 1) = some (.slice a200 l201 c202) ∧ ( Cells H192 b3 0 8 ∧ ∀ H203 : Heap, Puts H192 b3 0 [(.int .i64 n193), (.string s194), (.string s195), (.int .i64 n196), (.float .f64 f197), (.int .i64 n198), (.int .i64 n199), (.slice a200 l201 c202)] H203 → ( ∃ n204 : Int, hcell H203 b3 0 = some (.int .i64 n204) ∧ ( ∃ s205 : ByteArray, hcell H203 b3 (0 + 1) = some (.string s205) ∧ ( ∃ s206 : ByteArray, hcell H203 b3 ((0 + 1) + 1) = some (.string s206) ∧ ( ∃ n207 : Int, hcell H203 b3 (((0 + 1) + 1) + 1) = some (.int .i64 n207) ∧ ( ∃ f208 : Nat, hcell H203 b3 ((((0 + 1) + 1) + 1) + 1) = some (.float .f64 f208) ∧ ( ∃ n209 : Int, hcell H203 b3 (((((0 + 1) + 1) + 1) + 1) + 1) = some (.int .i64 n209) ∧ ( ∃ n210 : Int, hcell H203 b3 ((((((0 + 1) + 1) + 1) + 1) + 1) + 1) = some (.int .i64 n210) ∧ ( ∃ a211 : Option Addr, ∃ l212 : Nat, ∃ c213 : Nat, hcell H203 b3 (((((((0 + 1) + 1) + 1) + 1) + 1) + 1) + 1) = some (.slice a211 l212 c213) ∧ ( R (.agg #[(.int .i64 n204), (.string s205), (.string s206), (.int .i64 n207), (.float .f64 f208), (.int .i64 n209), (.int .i64 n210), (.slice a211 l212 c213)]) H203))))))))))))))))))) := by
  refine hx_cut h ?_ fun H' _ => ?_
  · clear fin
    repeat' first
      | assumption
      | refine hx_cut (by assumption) ?_ fun H' _ => ?_
      | refine hx_pick ⟨by decide, by decide⟩ fun r _ _ => ?_
      | refine hx_said (by assumption) fun t _ => ?_
      | refine hx_time (by assumption) (by assumption) fun r H' _ _ => ?_
      | refine hx_oi (by assumption) (by rfl) fun m => ?_
      | refine hx_lr (by assumption) (by rfl) ?_
      | refine hx_lf (by assumption) (by rfl) ?_
      | refine hx_ls (by assumption) (by rfl) ?_
      | refine hx_li (by assumption) (by rfl) ?_
      | refine hx_few (by assumption) (by simp) 60 (by rfl) (by decide) fun a' l' c' H' _ _ => ?_
      | refine hx_few (by assumption) (by simp) 200 (by rfl) (by decide) fun a' l' c' H' _ _ => ?_
      | refine hx_node (by assumption) fun n1 n2 f a' l' c' H' _ _ => ?_
      | refine hx_make (by assumption) (by omega) fun d H' _ _ _ => ?_
      | refine hx_pi (by assumption) (by rfl) (by first | assumption | exact ⟨by omega, by omega⟩) fun H' _ => ?_
      | refine hx_ps (by assumption) (by rfl) (by omega) fun H' _ => ?_
      | refine hx_pf (by assumption) (by rfl) (by assumption) fun H' _ => ?_
      | refine hx_pr (by assumption) (by rfl) (by assumption) fun H' _ => ?_
      | refine ⟨by decide, fun q _ => ?_⟩
      | refine @And.intro (_ ≤ _) _ (by omega) ?_
      | refine @And.intro (_ < _) _ (by omega) ?_
      | refine ⟨⟨by omega, by omega⟩, ?_⟩
      | refine br (fun _ => ?_) (fun _ => ?_)
  · exact hcall_5 fin h0 hw hs (by assumption)
theorem hcall_3 (fin : ∀ {H192 : Heap} {N b16 : Nat}, HX H4 H192 b1 (rawC x0 x1 x2 x3 x4 x5 x6 x7 w a l c s) N b16 callS → ∃ n193 : Int, hcell H192 b16 0 = some (.int .i64 n193) ∧ ( ∃ s194 : ByteArray, hcell H192 b16 (0 + 1) = some (.string s194) ∧ ( ∃ s195 : ByteArray, hcell H192 b16 ((0 + 1) + 1) = some (.string s195) ∧ ( ∃ n196 : Int, hcell H192 b16 (((0 + 1) + 1) + 1) = some (.int .i64 n196) ∧ ( ∃ f197 : Nat, hcell H192 b16 ((((0 + 1) + 1) + 1) + 1) = some (.float .f64 f197) ∧ ( ∃ n198 : Int, hcell H192 b16 (((((0 + 1) + 1) + 1) + 1) + 1) = some (.int .i64 n198) ∧ ( ∃ n199 : Int, hcell H192 b16 ((((((0 + 1) + 1) + 1) + 1) + 1) + 1) = some (.int .i64 n199) ∧ ( ∃ a200 : Option Addr, ∃ l201 : Nat, ∃ c202 : Nat, hcell H192 b16 (((((((0 + 1) + 1) + 1) + 1) + 1) + 1) + 1) = some (.slice a200 l201 c202) ∧ ( Cells H192 b3 0 8 ∧ ∀ H203 : Heap, Puts H192 b3 0 [(.int .i64 n193), (.string s194), (.string s195), (.int .i64 n196), (.float .f64 f197), (.int .i64 n198), (.int .i64 n199), (.slice a200 l201 c202)] H203 → ( ∃ n204 : Int, hcell H203 b3 0 = some (.int .i64 n204) ∧ ( ∃ s205 : ByteArray, hcell H203 b3 (0 + 1) = some (.string s205) ∧ ( ∃ s206 : ByteArray, hcell H203 b3 ((0 + 1) + 1) = some (.string s206) ∧ ( ∃ n207 : Int, hcell H203 b3 (((0 + 1) + 1) + 1) = some (.int .i64 n207) ∧ ( ∃ f208 : Nat, hcell H203 b3 ((((0 + 1) + 1) + 1) + 1) = some (.float .f64 f208) ∧ ( ∃ n209 : Int, hcell H203 b3 (((((0 + 1) + 1) + 1) + 1) + 1) = some (.int .i64 n209) ∧ ( ∃ n210 : Int, hcell H203 b3 ((((((0 + 1) + 1) + 1) + 1) + 1) + 1) = some (.int .i64 n210) ∧ ( ∃ a211 : Option Addr, ∃ l212 : Nat, ∃ c213 : Nat, hcell H203 b3 (((((((0 + 1) + 1) + 1) + 1) + 1) + 1) + 1) = some (.slice a211 l212 c213) ∧ ( R (.agg #[(.int .i64 n204), (.string s205), (.string s206), (.int .i64 n207), (.float .f64 f208), (.int .i64 n209), (.int .i64 n210), (.slice a211 l212 c213)]) H203)))))))))))))))))) (h0 : In64 x0) (hw : w < 18446744073709551616) (hs : s.size ≤ 10000000) {H69 : Heap} {N b16 : Nat} (h : HX H4 H69 b1 (rawC x0 x1 x2 x3 x4 x5 x6 x7 w a l c s) N b16 callS) :
    ∃ I70 : Heap → Prop, ( ∃ n71 : Int, hcell H69 b16 0 = some (.int .i64 n71) ∧ ( ((((n71 : Int) = 2) → ( ((((n71 : Int) = 2) → ( ∃ a72 : Option Addr, ∃ l73 : Nat, ∃ c74 : Nat, hcell H69 b1 (0 + 9) = some (.slice a72 l73 c74) ∧ ( Does Tryz.prog 48 [(.slice a72 l73 c74), (.int .i64 60)] H69 fun v75 H76 => ∃ a77 : Option Addr, ∃ l78 : Nat, ∃ c79 : Nat, v75 = (.slice a77 l78 c79) ∧ ( Cells H76 b16 (0 + 7) 1 ∧ ∀ H80 : Heap, Puts H76 b16 (0 + 7) [(.slice a77 l78 c79)] H80 → ( ∃ n81 : Int, hcell H80 b1 (0 + 6) = some (.int .i64 n81) ∧ ( ((67 : Int) ≠ 0) ∧ ∀ q82 : Int, q82 = Int.tmod n81 67 → ( ((((q82 : Int) = 66) → ( ∃ n83 : Int, hcell H80 b1 (0 + 5) = some (.int .i64 n83) ∧ ( Does Tryz.prog 8 [(.int .i64 n83), (.int .i64 40)] H80 fun v84 H85 => ∃ n86 : Int, v84 = (.int .i64 n86) ∧ ( (In64 (1980 + n86)) ∧ (0 : Int) ≤ (1980 + n86) ∧ ((1980 + n86) : Int) ≤ (1980 + n86) ∧ (1 : Int) * (1980 + n86) ≤ 281474976710656 ∧ ∀ b87 : Nat, ∀ H88 : Heap, New H85 b87 (List.replicate (Int.toNat (1980 + n86)) (.int .u8 0)) 5 H88 → ( Cells H88 b16 (0 + 7) 1 ∧ ∀ H89 : Heap, Puts H88 b16 (0 + 7) [(.slice (some (⟨b87, 0, none⟩ : Addr)) (Int.toNat (1980 + n86)) (Int.toNat (1980 + n86)))] H89 → ( I70 H89)))))) ∧ (¬ ((q82 : Int) = 66) → ( I70 H80)))))))))) ∧ (¬ ((n71 : Int) = 2) → ( ((((n71 : Int) = 7) → ( ∃ n90 : Int, hcell H69 b1 (0 + 2) = some (.int .i64 n90) ∧ ( Does Tryz.prog 67 [(.agg #[(.int .i64 2), (.int .i64 n90), (.int .i64 0), (.float .f64 0), (.slice none 0 0)])] H69 fun v91 H92 => ∃ n93 : Int, ∃ n94 : Int, ∃ f95 : Nat, ∃ a96 : Option Addr, ∃ l97 : Nat, ∃ c98 : Nat, v91 = (.agg #[(.int .i64 n93), (.int .i64 n94), (.float .f64 f95), (.slice a96 l97 c98)]) ∧ ( Cells H92 b16 (0 + 7) 1 ∧ ∀ H99 : Heap, Puts H92 b16 (0 + 7) [(.slice a96 l97 c98)] H99 → ( ∃ n100 : Int, hcell H99 b1 (0 + 6) = some (.int .i64 n100) ∧ ( ((17 : Int) ≠ 0) ∧ ∀ q101 : Int, q101 = Int.tmod n100 17 → ( ((((q101 : Int) = 16) → ( ∃ a102 : Option Addr, ∃ l103 : Nat, ∃ c104 : Nat, hcell H99 b1 (0 + 9) = some (.slice a102 l103 c104) ∧ ( Does Tryz.prog 48 [(.slice a102 l103 c104), (.int .i64 200)] H99 fun v105 H106 => ∃ a107 : Option Addr, ∃ l108 : Nat, ∃ c109 : Nat, v105 = (.slice a107 l108 c109) ∧ ( Cells H106 b16 (0 + 7) 1 ∧ ∀ H110 : Heap, Puts H106 b16 (0 + 7) [(.slice a107 l108 c109)] H110 → ( I70 H110))))) ∧ (¬ ((q101 : Int) = 16) → ( I70 H99)))))))))) ∧ (¬ ((n71 : Int) = 7) → ( ((((n71 : Int) = 9) → ( ∃ n111 : Int, hcell H69 b1 (0 + 2) = some (.int .i64 n111) ∧ ( ∃ n112 : Int, hcell H69 b1 (0 + 7) = some (.int .i64 n112) ∧ ( ((24 : Int) ≠ 0) ∧ ∀ q113 : Int, q113 = IntKind.wrap .i64 (Int.tdiv n112 24) → ( ∃ s114 : ByteArray, hcell H69 b1 (0 + 10) = some (.string s114) ∧ ( Does Tryz.prog 65 [(.int .i64 n111), (.int .i64 q113), (.string s114)] H69 fun v115 H116 => ∃ s117 : ByteArray, v115 = (.string s117) ∧ ( Cells H116 b16 (0 + 2) 1 ∧ ∀ H118 : Heap, Puts H116 b16 (0 + 2) [(.string s117)] H118 → ( I70 H118)))))))) ∧ (¬ ((n71 : Int) = 9) → ( I70 H69))))))))))) ∧ (¬ ((n71 : Int) = 2) → ( ((((n71 : Int) = 3) → ( ∃ a119 : Option Addr, ∃ l120 : Nat, ∃ c121 : Nat, hcell H69 b1 (0 + 9) = some (.slice a119 l120 c121) ∧ ( Does Tryz.prog 48 [(.slice a119 l120 c121), (.int .i64 60)] H69 fun v122 H123 => ∃ a124 : Option Addr, ∃ l125 : Nat, ∃ c126 : Nat, v122 = (.slice a124 l125 c126) ∧ ( Cells H123 b16 (0 + 7) 1 ∧ ∀ H127 : Heap, Puts H123 b16 (0 + 7) [(.slice a124 l125 c126)] H127 → ( ∃ n128 : Int, hcell H127 b1 (0 + 6) = some (.int .i64 n128) ∧ ( ((67 : Int) ≠ 0) ∧ ∀ q129 : Int, q129 = Int.tmod n128 67 → ( ((((q129 : Int) = 66) → ( ∃ n130 : Int, hcell H127 b1 (0 + 5) = some (.int .i64 n130) ∧ ( Does Tryz.prog 8 [(.int .i64 n130), (.int .i64 40)] H127 fun v131 H132 => ∃ n133 : Int, v131 = (.int .i64 n133) ∧ ( (In64 (1980 + n133)) ∧ (0 : Int) ≤ (1980 + n133) ∧ ((1980 + n133) : Int) ≤ (1980 + n133) ∧ (1 : Int) * (1980 + n133) ≤ 281474976710656 ∧ ∀ b134 : Nat, ∀ H135 : Heap, New H132 b134 (List.replicate (Int.toNat (1980 + n133)) (.int .u8 0)) 5 H135 → ( Cells H135 b16 (0 + 7) 1 ∧ ∀ H136 : Heap, Puts H135 b16 (0 + 7) [(.slice (some (⟨b134, 0, none⟩ : Addr)) (Int.toNat (1980 + n133)) (Int.toNat (1980 + n133)))] H136 → ( I70 H136)))))) ∧ (¬ ((q129 : Int) = 66) → ( I70 H127)))))))))) ∧ (¬ ((n71 : Int) = 3) → ( ((((n71 : Int) = 7) → ( ∃ n137 : Int, hcell H69 b1 (0 + 2) = some (.int .i64 n137) ∧ ( Does Tryz.prog 67 [(.agg #[(.int .i64 2), (.int .i64 n137), (.int .i64 0), (.float .f64 0), (.slice none 0 0)])] H69 fun v138 H139 => ∃ n140 : Int, ∃ n141 : Int, ∃ f142 : Nat, ∃ a143 : Option Addr, ∃ l144 : Nat, ∃ c145 : Nat, v138 = (.agg #[(.int .i64 n140), (.int .i64 n141), (.float .f64 f142), (.slice a143 l144 c145)]) ∧ ( Cells H139 b16 (0 + 7) 1 ∧ ∀ H146 : Heap, Puts H139 b16 (0 + 7) [(.slice a143 l144 c145)] H146 → ( ∃ n147 : Int, hcell H146 b1 (0 + 6) = some (.int .i64 n147) ∧ ( ((17 : Int) ≠ 0) ∧ ∀ q148 : Int, q148 = Int.tmod n147 17 → ( ((((q148 : Int) = 16) → ( ∃ a149 : Option Addr, ∃ l150 : Nat, ∃ c151 : Nat, hcell H146 b1 (0 + 9) = some (.slice a149 l150 c151) ∧ ( Does Tryz.prog 48 [(.slice a149 l150 c151), (.int .i64 200)] H146 fun v152 H153 => ∃ a154 : Option Addr, ∃ l155 : Nat, ∃ c156 : Nat, v152 = (.slice a154 l155 c156) ∧ ( Cells H153 b16 (0 + 7) 1 ∧ ∀ H157 : Heap, Puts H153 b16 (0 + 7) [(.slice a154 l155 c156)] H157 → ( I70 H157))))) ∧ (¬ ((q148 : Int) = 16) → ( I70 H146)))))))))) ∧ (¬ ((n71 : Int) = 7) → ( ((((n71 : Int) = 9) → ( ∃ n158 : Int, hcell H69 b1 (0 + 2) = some (.int .i64 n158) ∧ ( ∃ n159 : Int, hcell H69 b1 (0 + 7) = some (.int .i64 n159) ∧ ( ((24 : Int) ≠ 0) ∧ ∀ q160 : Int, q160 = IntKind.wrap .i64 (Int.tdiv n159 24) → ( ∃ s161 : ByteArray, hcell H69 b1 (0 + 10) = some (.string s161) ∧ ( Does Tryz.prog 65 [(.int .i64 n158), (.int .i64 q160), (.string s161)] H69 fun v162 H163 => ∃ s164 : ByteArray, v162 = (.string s164) ∧ ( Cells H163 b16 (0 + 2) 1 ∧ ∀ H165 : Heap, Puts H163 b16 (0 + 2) [(.string s164)] H165 → ( I70 H165)))))))) ∧ (¬ ((n71 : Int) = 9) → ( I70 H69)))))))))))))) ∧ ∀ H166 : Heap, I70 H166 → ( ∃ I167 : Heap → Prop, ( ∃ n168 : Int, hcell H166 b16 0 = some (.int .i64 n168) ∧ ( ((((n168 : Int) = 3) → ( ((((n168 : Int) = 3) → ( ∃ n169 : Int, hcell H166 b1 (0 + 5) = some (.int .i64 n169) ∧ ( Does Tryz.prog 8 [(.int .i64 n169), (.int .i64 30)] H166 fun v170 H171 => ∃ n172 : Int, v170 = (.int .i64 n172) ∧ ( (In64 (n172 - 1)) ∧ Cells H171 b16 (0 + 5) 1 ∧ ∀ H173 : Heap, Puts H171 b16 (0 + 5) [(.int .i64 (n172 - 1))] H173 → ( I167 H173))))) ∧ (¬ ((n168 : Int) = 3) → ( I167 H166))))) ∧ (¬ ((n168 : Int) = 3) → ( ((((n168 : Int) = 14) → ( ∃ n174 : Int, hcell H166 b1 (0 + 5) = some (.int .i64 n174) ∧ ( Does Tryz.prog 8 [(.int .i64 n174), (.int .i64 30)] H166 fun v175 H176 => ∃ n177 : Int, v175 = (.int .i64 n177) ∧ ( (In64 (n177 - 1)) ∧ Cells H176 b16 (0 + 5) 1 ∧ ∀ H178 : Heap, Puts H176 b16 (0 + 5) [(.int .i64 (n177 - 1))] H178 → ( I167 H178))))) ∧ (¬ ((n168 : Int) = 14) → ( I167 H166)))))))) ∧ ∀ H179 : Heap, I167 H179 → ( ∃ I180 : Heap → Prop, ( ∃ n181 : Int, hcell H179 b16 0 = some (.int .i64 n181) ∧ ( ((((n181 : Int) = 4) → ( ((((n181 : Int) = 4) → ( ∃ n182 : Int, hcell H179 b1 (0 + 6) = some (.int .i64 n182) ∧ ( Does Tryz.prog 8 [(.int .i64 n182), (.int .i64 40)] H179 fun v183 H184 => ∃ n185 : Int, v183 = (.int .i64 n185) ∧ ( (In64 (n185 - 1)) ∧ Cells H184 b16 (0 + 6) 1 ∧ ∀ H186 : Heap, Puts H184 b16 (0 + 6) [(.int .i64 (n185 - 1))] H186 → ( I180 H186))))) ∧ (¬ ((n181 : Int) = 4) → ( I180 H179))))) ∧ (¬ ((n181 : Int) = 4) → ( ((((n181 : Int) = 14) → ( ∃ n187 : Int, hcell H179 b1 (0 + 6) = some (.int .i64 n187) ∧ ( Does Tryz.prog 8 [(.int .i64 n187), (.int .i64 40)] H179 fun v188 H189 => ∃ n190 : Int, v188 = (.int .i64 n190) ∧ ( (In64 (n190 - 1)) ∧ Cells H189 b16 (0 + 6) 1 ∧ ∀ H191 : Heap, Puts H189 b16 (0 + 6) [(.int .i64 (n190 - 1))] H191 → ( I180 H191))))) ∧ (¬ ((n181 : Int) = 14) → ( I180 H179)))))))) ∧ ∀ H192 : Heap, I180 H192 → ( ∃ n193 : Int, hcell H192 b16 0 = some (.int .i64 n193) ∧ ( ∃ s194 : ByteArray, hcell H192 b16 (0 + 1) = some (.string s194) ∧ ( ∃ s195 : ByteArray, hcell H192 b16 ((0 + 1) + 1) = some (.string s195) ∧ ( ∃ n196 : Int, hcell H192 b16 (((0 + 1) + 1) + 1) = some (.int .i64 n196) ∧ ( ∃ f197 : Nat, hcell H192 b16 ((((0 + 1) + 1) + 1) + 1) = some (.float .f64 f197) ∧ ( ∃ n198 : Int, hcell H192 b16 (((((0 + 1) + 1) + 1) + 1) + 1) = some (.int .i64 n198) ∧ ( ∃ n199 : Int, hcell H192 b16 ((((((0 + 1) + 1) + 1) + 1) + 1) + 1) = some (.int .i64 n199) ∧ ( ∃ a200 : Option Addr, ∃ l201 : Nat, ∃ c202 : Nat, hcell H192 b16 (((((((0 + 1) + 1) + 1) + 1) + 1) + 1) + 1) = some (.slice a200 l201 c202) ∧ ( Cells H192 b3 0 8 ∧ ∀ H203 : Heap, Puts H192 b3 0 [(.int .i64 n193), (.string s194), (.string s195), (.int .i64 n196), (.float .f64 f197), (.int .i64 n198), (.int .i64 n199), (.slice a200 l201 c202)] H203 → ( ∃ n204 : Int, hcell H203 b3 0 = some (.int .i64 n204) ∧ ( ∃ s205 : ByteArray, hcell H203 b3 (0 + 1) = some (.string s205) ∧ ( ∃ s206 : ByteArray, hcell H203 b3 ((0 + 1) + 1) = some (.string s206) ∧ ( ∃ n207 : Int, hcell H203 b3 (((0 + 1) + 1) + 1) = some (.int .i64 n207) ∧ ( ∃ f208 : Nat, hcell H203 b3 ((((0 + 1) + 1) + 1) + 1) = some (.float .f64 f208) ∧ ( ∃ n209 : Int, hcell H203 b3 (((((0 + 1) + 1) + 1) + 1) + 1) = some (.int .i64 n209) ∧ ( ∃ n210 : Int, hcell H203 b3 ((((((0 + 1) + 1) + 1) + 1) + 1) + 1) = some (.int .i64 n210) ∧ ( ∃ a211 : Option Addr, ∃ l212 : Nat, ∃ c213 : Nat, hcell H203 b3 (((((((0 + 1) + 1) + 1) + 1) + 1) + 1) + 1) = some (.slice a211 l212 c213) ∧ ( R (.agg #[(.int .i64 n204), (.string s205), (.string s206), (.int .i64 n207), (.float .f64 f208), (.int .i64 n209), (.int .i64 n210), (.slice a211 l212 c213)]) H203)))))))))))))))))))) := by
  refine hx_cut h ?_ fun H' _ => ?_
  · clear fin
    repeat' first
      | assumption
      | refine hx_cut (by assumption) ?_ fun H' _ => ?_
      | refine hx_pick ⟨by decide, by decide⟩ fun r _ _ => ?_
      | refine hx_said (by assumption) fun t _ => ?_
      | refine hx_time (by assumption) (by assumption) fun r H' _ _ => ?_
      | refine hx_oi (by assumption) (by rfl) fun m => ?_
      | refine hx_lr (by assumption) (by rfl) ?_
      | refine hx_lf (by assumption) (by rfl) ?_
      | refine hx_ls (by assumption) (by rfl) ?_
      | refine hx_li (by assumption) (by rfl) ?_
      | refine hx_few (by assumption) (by simp) 60 (by rfl) (by decide) fun a' l' c' H' _ _ => ?_
      | refine hx_few (by assumption) (by simp) 200 (by rfl) (by decide) fun a' l' c' H' _ _ => ?_
      | refine hx_node (by assumption) fun n1 n2 f a' l' c' H' _ _ => ?_
      | refine hx_make (by assumption) (by omega) fun d H' _ _ _ => ?_
      | refine hx_pi (by assumption) (by rfl) (by first | assumption | exact ⟨by omega, by omega⟩) fun H' _ => ?_
      | refine hx_ps (by assumption) (by rfl) (by omega) fun H' _ => ?_
      | refine hx_pf (by assumption) (by rfl) (by assumption) fun H' _ => ?_
      | refine hx_pr (by assumption) (by rfl) (by assumption) fun H' _ => ?_
      | refine ⟨by decide, fun q _ => ?_⟩
      | refine @And.intro (_ ≤ _) _ (by omega) ?_
      | refine @And.intro (_ < _) _ (by omega) ?_
      | refine ⟨⟨by omega, by omega⟩, ?_⟩
      | refine br (fun _ => ?_) (fun _ => ?_)
  · exact hcall_4 fin h0 hw hs (by assumption)
theorem hcall_2 (fin : ∀ {H192 : Heap} {N b16 : Nat}, HX H4 H192 b1 (rawC x0 x1 x2 x3 x4 x5 x6 x7 w a l c s) N b16 callS → ∃ n193 : Int, hcell H192 b16 0 = some (.int .i64 n193) ∧ ( ∃ s194 : ByteArray, hcell H192 b16 (0 + 1) = some (.string s194) ∧ ( ∃ s195 : ByteArray, hcell H192 b16 ((0 + 1) + 1) = some (.string s195) ∧ ( ∃ n196 : Int, hcell H192 b16 (((0 + 1) + 1) + 1) = some (.int .i64 n196) ∧ ( ∃ f197 : Nat, hcell H192 b16 ((((0 + 1) + 1) + 1) + 1) = some (.float .f64 f197) ∧ ( ∃ n198 : Int, hcell H192 b16 (((((0 + 1) + 1) + 1) + 1) + 1) = some (.int .i64 n198) ∧ ( ∃ n199 : Int, hcell H192 b16 ((((((0 + 1) + 1) + 1) + 1) + 1) + 1) = some (.int .i64 n199) ∧ ( ∃ a200 : Option Addr, ∃ l201 : Nat, ∃ c202 : Nat, hcell H192 b16 (((((((0 + 1) + 1) + 1) + 1) + 1) + 1) + 1) = some (.slice a200 l201 c202) ∧ ( Cells H192 b3 0 8 ∧ ∀ H203 : Heap, Puts H192 b3 0 [(.int .i64 n193), (.string s194), (.string s195), (.int .i64 n196), (.float .f64 f197), (.int .i64 n198), (.int .i64 n199), (.slice a200 l201 c202)] H203 → ( ∃ n204 : Int, hcell H203 b3 0 = some (.int .i64 n204) ∧ ( ∃ s205 : ByteArray, hcell H203 b3 (0 + 1) = some (.string s205) ∧ ( ∃ s206 : ByteArray, hcell H203 b3 ((0 + 1) + 1) = some (.string s206) ∧ ( ∃ n207 : Int, hcell H203 b3 (((0 + 1) + 1) + 1) = some (.int .i64 n207) ∧ ( ∃ f208 : Nat, hcell H203 b3 ((((0 + 1) + 1) + 1) + 1) = some (.float .f64 f208) ∧ ( ∃ n209 : Int, hcell H203 b3 (((((0 + 1) + 1) + 1) + 1) + 1) = some (.int .i64 n209) ∧ ( ∃ n210 : Int, hcell H203 b3 ((((((0 + 1) + 1) + 1) + 1) + 1) + 1) = some (.int .i64 n210) ∧ ( ∃ a211 : Option Addr, ∃ l212 : Nat, ∃ c213 : Nat, hcell H203 b3 (((((((0 + 1) + 1) + 1) + 1) + 1) + 1) + 1) = some (.slice a211 l212 c213) ∧ ( R (.agg #[(.int .i64 n204), (.string s205), (.string s206), (.int .i64 n207), (.float .f64 f208), (.int .i64 n209), (.int .i64 n210), (.slice a211 l212 c213)]) H203)))))))))))))))))) (h0 : In64 x0) (hw : w < 18446744073709551616) (hs : s.size ≤ 10000000) {H42 : Heap} {N b16 : Nat} (h : HX H4 H42 b1 (rawC x0 x1 x2 x3 x4 x5 x6 x7 w a l c s) N b16 callS) :
    ∃ I43 : Heap → Prop, ( ∃ n44 : Int, hcell H42 b16 0 = some (.int .i64 n44) ∧ ( ((((n44 : Int) = 1) → ( ((((n44 : Int) = 1) → ( ∃ n45 : Int, hcell H42 b1 (0 + 4) = some (.int .i64 n45) ∧ ( ∃ f46 : Nat, hcell H42 b1 (0 + 8) = some (.float .f64 f46) ∧ ( Does Tryz.prog 66 [(.int .i64 n45), (.float .f64 f46)] H42 fun v47 H48 => ∃ f49 : Nat, v47 = (.float .f64 f49) ∧ ( Cells H48 b16 (0 + 4) 1 ∧ ∀ H50 : Heap, Puts H48 b16 (0 + 4) [(.float .f64 f49)] H50 → ( I43 H50)))))) ∧ (¬ ((n44 : Int) = 1) → ( I43 H42))))) ∧ (¬ ((n44 : Int) = 1) → ( ((((n44 : Int) = 2) → ( ((((n44 : Int) = 2) → ( ∃ n51 : Int, hcell H42 b1 (0 + 4) = some (.int .i64 n51) ∧ ( ∃ f52 : Nat, hcell H42 b1 (0 + 8) = some (.float .f64 f52) ∧ ( Does Tryz.prog 66 [(.int .i64 n51), (.float .f64 f52)] H42 fun v53 H54 => ∃ f55 : Nat, v53 = (.float .f64 f55) ∧ ( Cells H54 b16 (0 + 4) 1 ∧ ∀ H56 : Heap, Puts H54 b16 (0 + 4) [(.float .f64 f55)] H56 → ( I43 H56)))))) ∧ (¬ ((n44 : Int) = 2) → ( I43 H42))))) ∧ (¬ ((n44 : Int) = 2) → ( ((((n44 : Int) = 7) → ( ((((n44 : Int) = 7) → ( ∃ n57 : Int, hcell H42 b1 (0 + 4) = some (.int .i64 n57) ∧ ( ∃ f58 : Nat, hcell H42 b1 (0 + 8) = some (.float .f64 f58) ∧ ( Does Tryz.prog 66 [(.int .i64 n57), (.float .f64 f58)] H42 fun v59 H60 => ∃ f61 : Nat, v59 = (.float .f64 f61) ∧ ( Cells H60 b16 (0 + 4) 1 ∧ ∀ H62 : Heap, Puts H60 b16 (0 + 4) [(.float .f64 f61)] H62 → ( I43 H62)))))) ∧ (¬ ((n44 : Int) = 7) → ( I43 H42))))) ∧ (¬ ((n44 : Int) = 7) → ( ((((n44 : Int) = 11) → ( ∃ n63 : Int, hcell H42 b1 (0 + 4) = some (.int .i64 n63) ∧ ( ∃ f64 : Nat, hcell H42 b1 (0 + 8) = some (.float .f64 f64) ∧ ( Does Tryz.prog 66 [(.int .i64 n63), (.float .f64 f64)] H42 fun v65 H66 => ∃ f67 : Nat, v65 = (.float .f64 f67) ∧ ( Cells H66 b16 (0 + 4) 1 ∧ ∀ H68 : Heap, Puts H66 b16 (0 + 4) [(.float .f64 f67)] H68 → ( I43 H68)))))) ∧ (¬ ((n44 : Int) = 11) → ( I43 H42)))))))))))))) ∧ ∀ H69 : Heap, I43 H69 → ( ∃ I70 : Heap → Prop, ( ∃ n71 : Int, hcell H69 b16 0 = some (.int .i64 n71) ∧ ( ((((n71 : Int) = 2) → ( ((((n71 : Int) = 2) → ( ∃ a72 : Option Addr, ∃ l73 : Nat, ∃ c74 : Nat, hcell H69 b1 (0 + 9) = some (.slice a72 l73 c74) ∧ ( Does Tryz.prog 48 [(.slice a72 l73 c74), (.int .i64 60)] H69 fun v75 H76 => ∃ a77 : Option Addr, ∃ l78 : Nat, ∃ c79 : Nat, v75 = (.slice a77 l78 c79) ∧ ( Cells H76 b16 (0 + 7) 1 ∧ ∀ H80 : Heap, Puts H76 b16 (0 + 7) [(.slice a77 l78 c79)] H80 → ( ∃ n81 : Int, hcell H80 b1 (0 + 6) = some (.int .i64 n81) ∧ ( ((67 : Int) ≠ 0) ∧ ∀ q82 : Int, q82 = Int.tmod n81 67 → ( ((((q82 : Int) = 66) → ( ∃ n83 : Int, hcell H80 b1 (0 + 5) = some (.int .i64 n83) ∧ ( Does Tryz.prog 8 [(.int .i64 n83), (.int .i64 40)] H80 fun v84 H85 => ∃ n86 : Int, v84 = (.int .i64 n86) ∧ ( (In64 (1980 + n86)) ∧ (0 : Int) ≤ (1980 + n86) ∧ ((1980 + n86) : Int) ≤ (1980 + n86) ∧ (1 : Int) * (1980 + n86) ≤ 281474976710656 ∧ ∀ b87 : Nat, ∀ H88 : Heap, New H85 b87 (List.replicate (Int.toNat (1980 + n86)) (.int .u8 0)) 5 H88 → ( Cells H88 b16 (0 + 7) 1 ∧ ∀ H89 : Heap, Puts H88 b16 (0 + 7) [(.slice (some (⟨b87, 0, none⟩ : Addr)) (Int.toNat (1980 + n86)) (Int.toNat (1980 + n86)))] H89 → ( I70 H89)))))) ∧ (¬ ((q82 : Int) = 66) → ( I70 H80)))))))))) ∧ (¬ ((n71 : Int) = 2) → ( ((((n71 : Int) = 7) → ( ∃ n90 : Int, hcell H69 b1 (0 + 2) = some (.int .i64 n90) ∧ ( Does Tryz.prog 67 [(.agg #[(.int .i64 2), (.int .i64 n90), (.int .i64 0), (.float .f64 0), (.slice none 0 0)])] H69 fun v91 H92 => ∃ n93 : Int, ∃ n94 : Int, ∃ f95 : Nat, ∃ a96 : Option Addr, ∃ l97 : Nat, ∃ c98 : Nat, v91 = (.agg #[(.int .i64 n93), (.int .i64 n94), (.float .f64 f95), (.slice a96 l97 c98)]) ∧ ( Cells H92 b16 (0 + 7) 1 ∧ ∀ H99 : Heap, Puts H92 b16 (0 + 7) [(.slice a96 l97 c98)] H99 → ( ∃ n100 : Int, hcell H99 b1 (0 + 6) = some (.int .i64 n100) ∧ ( ((17 : Int) ≠ 0) ∧ ∀ q101 : Int, q101 = Int.tmod n100 17 → ( ((((q101 : Int) = 16) → ( ∃ a102 : Option Addr, ∃ l103 : Nat, ∃ c104 : Nat, hcell H99 b1 (0 + 9) = some (.slice a102 l103 c104) ∧ ( Does Tryz.prog 48 [(.slice a102 l103 c104), (.int .i64 200)] H99 fun v105 H106 => ∃ a107 : Option Addr, ∃ l108 : Nat, ∃ c109 : Nat, v105 = (.slice a107 l108 c109) ∧ ( Cells H106 b16 (0 + 7) 1 ∧ ∀ H110 : Heap, Puts H106 b16 (0 + 7) [(.slice a107 l108 c109)] H110 → ( I70 H110))))) ∧ (¬ ((q101 : Int) = 16) → ( I70 H99)))))))))) ∧ (¬ ((n71 : Int) = 7) → ( ((((n71 : Int) = 9) → ( ∃ n111 : Int, hcell H69 b1 (0 + 2) = some (.int .i64 n111) ∧ ( ∃ n112 : Int, hcell H69 b1 (0 + 7) = some (.int .i64 n112) ∧ ( ((24 : Int) ≠ 0) ∧ ∀ q113 : Int, q113 = IntKind.wrap .i64 (Int.tdiv n112 24) → ( ∃ s114 : ByteArray, hcell H69 b1 (0 + 10) = some (.string s114) ∧ ( Does Tryz.prog 65 [(.int .i64 n111), (.int .i64 q113), (.string s114)] H69 fun v115 H116 => ∃ s117 : ByteArray, v115 = (.string s117) ∧ ( Cells H116 b16 (0 + 2) 1 ∧ ∀ H118 : Heap, Puts H116 b16 (0 + 2) [(.string s117)] H118 → ( I70 H118)))))))) ∧ (¬ ((n71 : Int) = 9) → ( I70 H69))))))))))) ∧ (¬ ((n71 : Int) = 2) → ( ((((n71 : Int) = 3) → ( ∃ a119 : Option Addr, ∃ l120 : Nat, ∃ c121 : Nat, hcell H69 b1 (0 + 9) = some (.slice a119 l120 c121) ∧ ( Does Tryz.prog 48 [(.slice a119 l120 c121), (.int .i64 60)] H69 fun v122 H123 => ∃ a124 : Option Addr, ∃ l125 : Nat, ∃ c126 : Nat, v122 = (.slice a124 l125 c126) ∧ ( Cells H123 b16 (0 + 7) 1 ∧ ∀ H127 : Heap, Puts H123 b16 (0 + 7) [(.slice a124 l125 c126)] H127 → ( ∃ n128 : Int, hcell H127 b1 (0 + 6) = some (.int .i64 n128) ∧ ( ((67 : Int) ≠ 0) ∧ ∀ q129 : Int, q129 = Int.tmod n128 67 → ( ((((q129 : Int) = 66) → ( ∃ n130 : Int, hcell H127 b1 (0 + 5) = some (.int .i64 n130) ∧ ( Does Tryz.prog 8 [(.int .i64 n130), (.int .i64 40)] H127 fun v131 H132 => ∃ n133 : Int, v131 = (.int .i64 n133) ∧ ( (In64 (1980 + n133)) ∧ (0 : Int) ≤ (1980 + n133) ∧ ((1980 + n133) : Int) ≤ (1980 + n133) ∧ (1 : Int) * (1980 + n133) ≤ 281474976710656 ∧ ∀ b134 : Nat, ∀ H135 : Heap, New H132 b134 (List.replicate (Int.toNat (1980 + n133)) (.int .u8 0)) 5 H135 → ( Cells H135 b16 (0 + 7) 1 ∧ ∀ H136 : Heap, Puts H135 b16 (0 + 7) [(.slice (some (⟨b134, 0, none⟩ : Addr)) (Int.toNat (1980 + n133)) (Int.toNat (1980 + n133)))] H136 → ( I70 H136)))))) ∧ (¬ ((q129 : Int) = 66) → ( I70 H127)))))))))) ∧ (¬ ((n71 : Int) = 3) → ( ((((n71 : Int) = 7) → ( ∃ n137 : Int, hcell H69 b1 (0 + 2) = some (.int .i64 n137) ∧ ( Does Tryz.prog 67 [(.agg #[(.int .i64 2), (.int .i64 n137), (.int .i64 0), (.float .f64 0), (.slice none 0 0)])] H69 fun v138 H139 => ∃ n140 : Int, ∃ n141 : Int, ∃ f142 : Nat, ∃ a143 : Option Addr, ∃ l144 : Nat, ∃ c145 : Nat, v138 = (.agg #[(.int .i64 n140), (.int .i64 n141), (.float .f64 f142), (.slice a143 l144 c145)]) ∧ ( Cells H139 b16 (0 + 7) 1 ∧ ∀ H146 : Heap, Puts H139 b16 (0 + 7) [(.slice a143 l144 c145)] H146 → ( ∃ n147 : Int, hcell H146 b1 (0 + 6) = some (.int .i64 n147) ∧ ( ((17 : Int) ≠ 0) ∧ ∀ q148 : Int, q148 = Int.tmod n147 17 → ( ((((q148 : Int) = 16) → ( ∃ a149 : Option Addr, ∃ l150 : Nat, ∃ c151 : Nat, hcell H146 b1 (0 + 9) = some (.slice a149 l150 c151) ∧ ( Does Tryz.prog 48 [(.slice a149 l150 c151), (.int .i64 200)] H146 fun v152 H153 => ∃ a154 : Option Addr, ∃ l155 : Nat, ∃ c156 : Nat, v152 = (.slice a154 l155 c156) ∧ ( Cells H153 b16 (0 + 7) 1 ∧ ∀ H157 : Heap, Puts H153 b16 (0 + 7) [(.slice a154 l155 c156)] H157 → ( I70 H157))))) ∧ (¬ ((q148 : Int) = 16) → ( I70 H146)))))))))) ∧ (¬ ((n71 : Int) = 7) → ( ((((n71 : Int) = 9) → ( ∃ n158 : Int, hcell H69 b1 (0 + 2) = some (.int .i64 n158) ∧ ( ∃ n159 : Int, hcell H69 b1 (0 + 7) = some (.int .i64 n159) ∧ ( ((24 : Int) ≠ 0) ∧ ∀ q160 : Int, q160 = IntKind.wrap .i64 (Int.tdiv n159 24) → ( ∃ s161 : ByteArray, hcell H69 b1 (0 + 10) = some (.string s161) ∧ ( Does Tryz.prog 65 [(.int .i64 n158), (.int .i64 q160), (.string s161)] H69 fun v162 H163 => ∃ s164 : ByteArray, v162 = (.string s164) ∧ ( Cells H163 b16 (0 + 2) 1 ∧ ∀ H165 : Heap, Puts H163 b16 (0 + 2) [(.string s164)] H165 → ( I70 H165)))))))) ∧ (¬ ((n71 : Int) = 9) → ( I70 H69)))))))))))))) ∧ ∀ H166 : Heap, I70 H166 → ( ∃ I167 : Heap → Prop, ( ∃ n168 : Int, hcell H166 b16 0 = some (.int .i64 n168) ∧ ( ((((n168 : Int) = 3) → ( ((((n168 : Int) = 3) → ( ∃ n169 : Int, hcell H166 b1 (0 + 5) = some (.int .i64 n169) ∧ ( Does Tryz.prog 8 [(.int .i64 n169), (.int .i64 30)] H166 fun v170 H171 => ∃ n172 : Int, v170 = (.int .i64 n172) ∧ ( (In64 (n172 - 1)) ∧ Cells H171 b16 (0 + 5) 1 ∧ ∀ H173 : Heap, Puts H171 b16 (0 + 5) [(.int .i64 (n172 - 1))] H173 → ( I167 H173))))) ∧ (¬ ((n168 : Int) = 3) → ( I167 H166))))) ∧ (¬ ((n168 : Int) = 3) → ( ((((n168 : Int) = 14) → ( ∃ n174 : Int, hcell H166 b1 (0 + 5) = some (.int .i64 n174) ∧ ( Does Tryz.prog 8 [(.int .i64 n174), (.int .i64 30)] H166 fun v175 H176 => ∃ n177 : Int, v175 = (.int .i64 n177) ∧ ( (In64 (n177 - 1)) ∧ Cells H176 b16 (0 + 5) 1 ∧ ∀ H178 : Heap, Puts H176 b16 (0 + 5) [(.int .i64 (n177 - 1))] H178 → ( I167 H178))))) ∧ (¬ ((n168 : Int) = 14) → ( I167 H166)))))))) ∧ ∀ H179 : Heap, I167 H179 → ( ∃ I180 : Heap → Prop, ( ∃ n181 : Int, hcell H179 b16 0 = some (.int .i64 n181) ∧ ( ((((n181 : Int) = 4) → ( ((((n181 : Int) = 4) → ( ∃ n182 : Int, hcell H179 b1 (0 + 6) = some (.int .i64 n182) ∧ ( Does Tryz.prog 8 [(.int .i64 n182), (.int .i64 40)] H179 fun v183 H184 => ∃ n185 : Int, v183 = (.int .i64 n185) ∧ ( (In64 (n185 - 1)) ∧ Cells H184 b16 (0 + 6) 1 ∧ ∀ H186 : Heap, Puts H184 b16 (0 + 6) [(.int .i64 (n185 - 1))] H186 → ( I180 H186))))) ∧ (¬ ((n181 : Int) = 4) → ( I180 H179))))) ∧ (¬ ((n181 : Int) = 4) → ( ((((n181 : Int) = 14) → ( ∃ n187 : Int, hcell H179 b1 (0 + 6) = some (.int .i64 n187) ∧ ( Does Tryz.prog 8 [(.int .i64 n187), (.int .i64 40)] H179 fun v188 H189 => ∃ n190 : Int, v188 = (.int .i64 n190) ∧ ( (In64 (n190 - 1)) ∧ Cells H189 b16 (0 + 6) 1 ∧ ∀ H191 : Heap, Puts H189 b16 (0 + 6) [(.int .i64 (n190 - 1))] H191 → ( I180 H191))))) ∧ (¬ ((n181 : Int) = 14) → ( I180 H179)))))))) ∧ ∀ H192 : Heap, I180 H192 → ( ∃ n193 : Int, hcell H192 b16 0 = some (.int .i64 n193) ∧ ( ∃ s194 : ByteArray, hcell H192 b16 (0 + 1) = some (.string s194) ∧ ( ∃ s195 : ByteArray, hcell H192 b16 ((0 + 1) + 1) = some (.string s195) ∧ ( ∃ n196 : Int, hcell H192 b16 (((0 + 1) + 1) + 1) = some (.int .i64 n196) ∧ ( ∃ f197 : Nat, hcell H192 b16 ((((0 + 1) + 1) + 1) + 1) = some (.float .f64 f197) ∧ ( ∃ n198 : Int, hcell H192 b16 (((((0 + 1) + 1) + 1) + 1) + 1) = some (.int .i64 n198) ∧ ( ∃ n199 : Int, hcell H192 b16 ((((((0 + 1) + 1) + 1) + 1) + 1) + 1) = some (.int .i64 n199) ∧ ( ∃ a200 : Option Addr, ∃ l201 : Nat, ∃ c202 : Nat, hcell H192 b16 (((((((0 + 1) + 1) + 1) + 1) + 1) + 1) + 1) = some (.slice a200 l201 c202) ∧ ( Cells H192 b3 0 8 ∧ ∀ H203 : Heap, Puts H192 b3 0 [(.int .i64 n193), (.string s194), (.string s195), (.int .i64 n196), (.float .f64 f197), (.int .i64 n198), (.int .i64 n199), (.slice a200 l201 c202)] H203 → ( ∃ n204 : Int, hcell H203 b3 0 = some (.int .i64 n204) ∧ ( ∃ s205 : ByteArray, hcell H203 b3 (0 + 1) = some (.string s205) ∧ ( ∃ s206 : ByteArray, hcell H203 b3 ((0 + 1) + 1) = some (.string s206) ∧ ( ∃ n207 : Int, hcell H203 b3 (((0 + 1) + 1) + 1) = some (.int .i64 n207) ∧ ( ∃ f208 : Nat, hcell H203 b3 ((((0 + 1) + 1) + 1) + 1) = some (.float .f64 f208) ∧ ( ∃ n209 : Int, hcell H203 b3 (((((0 + 1) + 1) + 1) + 1) + 1) = some (.int .i64 n209) ∧ ( ∃ n210 : Int, hcell H203 b3 ((((((0 + 1) + 1) + 1) + 1) + 1) + 1) = some (.int .i64 n210) ∧ ( ∃ a211 : Option Addr, ∃ l212 : Nat, ∃ c213 : Nat, hcell H203 b3 (((((((0 + 1) + 1) + 1) + 1) + 1) + 1) + 1) = some (.slice a211 l212 c213) ∧ ( R (.agg #[(.int .i64 n204), (.string s205), (.string s206), (.int .i64 n207), (.float .f64 f208), (.int .i64 n209), (.int .i64 n210), (.slice a211 l212 c213)]) H203))))))))))))))))))))) := by
  refine hx_cut h ?_ fun H' _ => ?_
  · clear fin
    repeat' first
      | assumption
      | refine hx_cut (by assumption) ?_ fun H' _ => ?_
      | refine hx_pick ⟨by decide, by decide⟩ fun r _ _ => ?_
      | refine hx_said (by assumption) fun t _ => ?_
      | refine hx_time (by assumption) (by assumption) fun r H' _ _ => ?_
      | refine hx_oi (by assumption) (by rfl) fun m => ?_
      | refine hx_lr (by assumption) (by rfl) ?_
      | refine hx_lf (by assumption) (by rfl) ?_
      | refine hx_ls (by assumption) (by rfl) ?_
      | refine hx_li (by assumption) (by rfl) ?_
      | refine hx_few (by assumption) (by simp) 60 (by rfl) (by decide) fun a' l' c' H' _ _ => ?_
      | refine hx_few (by assumption) (by simp) 200 (by rfl) (by decide) fun a' l' c' H' _ _ => ?_
      | refine hx_node (by assumption) fun n1 n2 f a' l' c' H' _ _ => ?_
      | refine hx_make (by assumption) (by omega) fun d H' _ _ _ => ?_
      | refine hx_pi (by assumption) (by rfl) (by first | assumption | exact ⟨by omega, by omega⟩) fun H' _ => ?_
      | refine hx_ps (by assumption) (by rfl) (by omega) fun H' _ => ?_
      | refine hx_pf (by assumption) (by rfl) (by assumption) fun H' _ => ?_
      | refine hx_pr (by assumption) (by rfl) (by assumption) fun H' _ => ?_
      | refine ⟨by decide, fun q _ => ?_⟩
      | refine @And.intro (_ ≤ _) _ (by omega) ?_
      | refine @And.intro (_ < _) _ (by omega) ?_
      | refine ⟨⟨by omega, by omega⟩, ?_⟩
      | refine br (fun _ => ?_) (fun _ => ?_)
  · exact hcall_3 fin h0 hw hs (by assumption)
theorem hcall_1 (fin : ∀ {H192 : Heap} {N b16 : Nat}, HX H4 H192 b1 (rawC x0 x1 x2 x3 x4 x5 x6 x7 w a l c s) N b16 callS → ∃ n193 : Int, hcell H192 b16 0 = some (.int .i64 n193) ∧ ( ∃ s194 : ByteArray, hcell H192 b16 (0 + 1) = some (.string s194) ∧ ( ∃ s195 : ByteArray, hcell H192 b16 ((0 + 1) + 1) = some (.string s195) ∧ ( ∃ n196 : Int, hcell H192 b16 (((0 + 1) + 1) + 1) = some (.int .i64 n196) ∧ ( ∃ f197 : Nat, hcell H192 b16 ((((0 + 1) + 1) + 1) + 1) = some (.float .f64 f197) ∧ ( ∃ n198 : Int, hcell H192 b16 (((((0 + 1) + 1) + 1) + 1) + 1) = some (.int .i64 n198) ∧ ( ∃ n199 : Int, hcell H192 b16 ((((((0 + 1) + 1) + 1) + 1) + 1) + 1) = some (.int .i64 n199) ∧ ( ∃ a200 : Option Addr, ∃ l201 : Nat, ∃ c202 : Nat, hcell H192 b16 (((((((0 + 1) + 1) + 1) + 1) + 1) + 1) + 1) = some (.slice a200 l201 c202) ∧ ( Cells H192 b3 0 8 ∧ ∀ H203 : Heap, Puts H192 b3 0 [(.int .i64 n193), (.string s194), (.string s195), (.int .i64 n196), (.float .f64 f197), (.int .i64 n198), (.int .i64 n199), (.slice a200 l201 c202)] H203 → ( ∃ n204 : Int, hcell H203 b3 0 = some (.int .i64 n204) ∧ ( ∃ s205 : ByteArray, hcell H203 b3 (0 + 1) = some (.string s205) ∧ ( ∃ s206 : ByteArray, hcell H203 b3 ((0 + 1) + 1) = some (.string s206) ∧ ( ∃ n207 : Int, hcell H203 b3 (((0 + 1) + 1) + 1) = some (.int .i64 n207) ∧ ( ∃ f208 : Nat, hcell H203 b3 ((((0 + 1) + 1) + 1) + 1) = some (.float .f64 f208) ∧ ( ∃ n209 : Int, hcell H203 b3 (((((0 + 1) + 1) + 1) + 1) + 1) = some (.int .i64 n209) ∧ ( ∃ n210 : Int, hcell H203 b3 ((((((0 + 1) + 1) + 1) + 1) + 1) + 1) = some (.int .i64 n210) ∧ ( ∃ a211 : Option Addr, ∃ l212 : Nat, ∃ c213 : Nat, hcell H203 b3 (((((((0 + 1) + 1) + 1) + 1) + 1) + 1) + 1) = some (.slice a211 l212 c213) ∧ ( R (.agg #[(.int .i64 n204), (.string s205), (.string s206), (.int .i64 n207), (.float .f64 f208), (.int .i64 n209), (.int .i64 n210), (.slice a211 l212 c213)]) H203)))))))))))))))))) (h0 : In64 x0) (hw : w < 18446744073709551616) (hs : s.size ≤ 10000000) {H24 : Heap} {N b16 : Nat} (h : HX H4 H24 b1 (rawC x0 x1 x2 x3 x4 x5 x6 x7 w a l c s) N b16 callS) :
    ∃ I25 : Heap → Prop, ( ∃ n26 : Int, hcell H24 b16 0 = some (.int .i64 n26) ∧ ( ((((n26 : Int) = 1) → ( ((((n26 : Int) = 1) → ( ∃ n27 : Int, hcell H24 b1 (0 + 3) = some (.int .i64 n27) ∧ ( Does Tryz.prog 8 [(.int .i64 n27), (.int .i64 4099)] H24 fun v28 H29 => ∃ n30 : Int, v28 = (.int .i64 n30) ∧ ( (In64 (n30 - 1)) ∧ Cells H29 b16 (0 + 3) 1 ∧ ∀ H31 : Heap, Puts H29 b16 (0 + 3) [(.int .i64 (n30 - 1))] H31 → ( I25 H31))))) ∧ (¬ ((n26 : Int) = 1) → ( I25 H24))))) ∧ (¬ ((n26 : Int) = 1) → ( ((((n26 : Int) = 2) → ( ((((n26 : Int) = 2) → ( ∃ n32 : Int, hcell H24 b1 (0 + 3) = some (.int .i64 n32) ∧ ( Does Tryz.prog 8 [(.int .i64 n32), (.int .i64 4099)] H24 fun v33 H34 => ∃ n35 : Int, v33 = (.int .i64 n35) ∧ ( (In64 (n35 - 1)) ∧ Cells H34 b16 (0 + 3) 1 ∧ ∀ H36 : Heap, Puts H34 b16 (0 + 3) [(.int .i64 (n35 - 1))] H36 → ( I25 H36))))) ∧ (¬ ((n26 : Int) = 2) → ( I25 H24))))) ∧ (¬ ((n26 : Int) = 2) → ( ((((n26 : Int) = 10) → ( ∃ n37 : Int, hcell H24 b1 (0 + 3) = some (.int .i64 n37) ∧ ( Does Tryz.prog 8 [(.int .i64 n37), (.int .i64 4099)] H24 fun v38 H39 => ∃ n40 : Int, v38 = (.int .i64 n40) ∧ ( (In64 (n40 - 1)) ∧ Cells H39 b16 (0 + 3) 1 ∧ ∀ H41 : Heap, Puts H39 b16 (0 + 3) [(.int .i64 (n40 - 1))] H41 → ( I25 H41))))) ∧ (¬ ((n26 : Int) = 10) → ( I25 H24))))))))))) ∧ ∀ H42 : Heap, I25 H42 → ( ∃ I43 : Heap → Prop, ( ∃ n44 : Int, hcell H42 b16 0 = some (.int .i64 n44) ∧ ( ((((n44 : Int) = 1) → ( ((((n44 : Int) = 1) → ( ∃ n45 : Int, hcell H42 b1 (0 + 4) = some (.int .i64 n45) ∧ ( ∃ f46 : Nat, hcell H42 b1 (0 + 8) = some (.float .f64 f46) ∧ ( Does Tryz.prog 66 [(.int .i64 n45), (.float .f64 f46)] H42 fun v47 H48 => ∃ f49 : Nat, v47 = (.float .f64 f49) ∧ ( Cells H48 b16 (0 + 4) 1 ∧ ∀ H50 : Heap, Puts H48 b16 (0 + 4) [(.float .f64 f49)] H50 → ( I43 H50)))))) ∧ (¬ ((n44 : Int) = 1) → ( I43 H42))))) ∧ (¬ ((n44 : Int) = 1) → ( ((((n44 : Int) = 2) → ( ((((n44 : Int) = 2) → ( ∃ n51 : Int, hcell H42 b1 (0 + 4) = some (.int .i64 n51) ∧ ( ∃ f52 : Nat, hcell H42 b1 (0 + 8) = some (.float .f64 f52) ∧ ( Does Tryz.prog 66 [(.int .i64 n51), (.float .f64 f52)] H42 fun v53 H54 => ∃ f55 : Nat, v53 = (.float .f64 f55) ∧ ( Cells H54 b16 (0 + 4) 1 ∧ ∀ H56 : Heap, Puts H54 b16 (0 + 4) [(.float .f64 f55)] H56 → ( I43 H56)))))) ∧ (¬ ((n44 : Int) = 2) → ( I43 H42))))) ∧ (¬ ((n44 : Int) = 2) → ( ((((n44 : Int) = 7) → ( ((((n44 : Int) = 7) → ( ∃ n57 : Int, hcell H42 b1 (0 + 4) = some (.int .i64 n57) ∧ ( ∃ f58 : Nat, hcell H42 b1 (0 + 8) = some (.float .f64 f58) ∧ ( Does Tryz.prog 66 [(.int .i64 n57), (.float .f64 f58)] H42 fun v59 H60 => ∃ f61 : Nat, v59 = (.float .f64 f61) ∧ ( Cells H60 b16 (0 + 4) 1 ∧ ∀ H62 : Heap, Puts H60 b16 (0 + 4) [(.float .f64 f61)] H62 → ( I43 H62)))))) ∧ (¬ ((n44 : Int) = 7) → ( I43 H42))))) ∧ (¬ ((n44 : Int) = 7) → ( ((((n44 : Int) = 11) → ( ∃ n63 : Int, hcell H42 b1 (0 + 4) = some (.int .i64 n63) ∧ ( ∃ f64 : Nat, hcell H42 b1 (0 + 8) = some (.float .f64 f64) ∧ ( Does Tryz.prog 66 [(.int .i64 n63), (.float .f64 f64)] H42 fun v65 H66 => ∃ f67 : Nat, v65 = (.float .f64 f67) ∧ ( Cells H66 b16 (0 + 4) 1 ∧ ∀ H68 : Heap, Puts H66 b16 (0 + 4) [(.float .f64 f67)] H68 → ( I43 H68)))))) ∧ (¬ ((n44 : Int) = 11) → ( I43 H42)))))))))))))) ∧ ∀ H69 : Heap, I43 H69 → ( ∃ I70 : Heap → Prop, ( ∃ n71 : Int, hcell H69 b16 0 = some (.int .i64 n71) ∧ ( ((((n71 : Int) = 2) → ( ((((n71 : Int) = 2) → ( ∃ a72 : Option Addr, ∃ l73 : Nat, ∃ c74 : Nat, hcell H69 b1 (0 + 9) = some (.slice a72 l73 c74) ∧ ( Does Tryz.prog 48 [(.slice a72 l73 c74), (.int .i64 60)] H69 fun v75 H76 => ∃ a77 : Option Addr, ∃ l78 : Nat, ∃ c79 : Nat, v75 = (.slice a77 l78 c79) ∧ ( Cells H76 b16 (0 + 7) 1 ∧ ∀ H80 : Heap, Puts H76 b16 (0 + 7) [(.slice a77 l78 c79)] H80 → ( ∃ n81 : Int, hcell H80 b1 (0 + 6) = some (.int .i64 n81) ∧ ( ((67 : Int) ≠ 0) ∧ ∀ q82 : Int, q82 = Int.tmod n81 67 → ( ((((q82 : Int) = 66) → ( ∃ n83 : Int, hcell H80 b1 (0 + 5) = some (.int .i64 n83) ∧ ( Does Tryz.prog 8 [(.int .i64 n83), (.int .i64 40)] H80 fun v84 H85 => ∃ n86 : Int, v84 = (.int .i64 n86) ∧ ( (In64 (1980 + n86)) ∧ (0 : Int) ≤ (1980 + n86) ∧ ((1980 + n86) : Int) ≤ (1980 + n86) ∧ (1 : Int) * (1980 + n86) ≤ 281474976710656 ∧ ∀ b87 : Nat, ∀ H88 : Heap, New H85 b87 (List.replicate (Int.toNat (1980 + n86)) (.int .u8 0)) 5 H88 → ( Cells H88 b16 (0 + 7) 1 ∧ ∀ H89 : Heap, Puts H88 b16 (0 + 7) [(.slice (some (⟨b87, 0, none⟩ : Addr)) (Int.toNat (1980 + n86)) (Int.toNat (1980 + n86)))] H89 → ( I70 H89)))))) ∧ (¬ ((q82 : Int) = 66) → ( I70 H80)))))))))) ∧ (¬ ((n71 : Int) = 2) → ( ((((n71 : Int) = 7) → ( ∃ n90 : Int, hcell H69 b1 (0 + 2) = some (.int .i64 n90) ∧ ( Does Tryz.prog 67 [(.agg #[(.int .i64 2), (.int .i64 n90), (.int .i64 0), (.float .f64 0), (.slice none 0 0)])] H69 fun v91 H92 => ∃ n93 : Int, ∃ n94 : Int, ∃ f95 : Nat, ∃ a96 : Option Addr, ∃ l97 : Nat, ∃ c98 : Nat, v91 = (.agg #[(.int .i64 n93), (.int .i64 n94), (.float .f64 f95), (.slice a96 l97 c98)]) ∧ ( Cells H92 b16 (0 + 7) 1 ∧ ∀ H99 : Heap, Puts H92 b16 (0 + 7) [(.slice a96 l97 c98)] H99 → ( ∃ n100 : Int, hcell H99 b1 (0 + 6) = some (.int .i64 n100) ∧ ( ((17 : Int) ≠ 0) ∧ ∀ q101 : Int, q101 = Int.tmod n100 17 → ( ((((q101 : Int) = 16) → ( ∃ a102 : Option Addr, ∃ l103 : Nat, ∃ c104 : Nat, hcell H99 b1 (0 + 9) = some (.slice a102 l103 c104) ∧ ( Does Tryz.prog 48 [(.slice a102 l103 c104), (.int .i64 200)] H99 fun v105 H106 => ∃ a107 : Option Addr, ∃ l108 : Nat, ∃ c109 : Nat, v105 = (.slice a107 l108 c109) ∧ ( Cells H106 b16 (0 + 7) 1 ∧ ∀ H110 : Heap, Puts H106 b16 (0 + 7) [(.slice a107 l108 c109)] H110 → ( I70 H110))))) ∧ (¬ ((q101 : Int) = 16) → ( I70 H99)))))))))) ∧ (¬ ((n71 : Int) = 7) → ( ((((n71 : Int) = 9) → ( ∃ n111 : Int, hcell H69 b1 (0 + 2) = some (.int .i64 n111) ∧ ( ∃ n112 : Int, hcell H69 b1 (0 + 7) = some (.int .i64 n112) ∧ ( ((24 : Int) ≠ 0) ∧ ∀ q113 : Int, q113 = IntKind.wrap .i64 (Int.tdiv n112 24) → ( ∃ s114 : ByteArray, hcell H69 b1 (0 + 10) = some (.string s114) ∧ ( Does Tryz.prog 65 [(.int .i64 n111), (.int .i64 q113), (.string s114)] H69 fun v115 H116 => ∃ s117 : ByteArray, v115 = (.string s117) ∧ ( Cells H116 b16 (0 + 2) 1 ∧ ∀ H118 : Heap, Puts H116 b16 (0 + 2) [(.string s117)] H118 → ( I70 H118)))))))) ∧ (¬ ((n71 : Int) = 9) → ( I70 H69))))))))))) ∧ (¬ ((n71 : Int) = 2) → ( ((((n71 : Int) = 3) → ( ∃ a119 : Option Addr, ∃ l120 : Nat, ∃ c121 : Nat, hcell H69 b1 (0 + 9) = some (.slice a119 l120 c121) ∧ ( Does Tryz.prog 48 [(.slice a119 l120 c121), (.int .i64 60)] H69 fun v122 H123 => ∃ a124 : Option Addr, ∃ l125 : Nat, ∃ c126 : Nat, v122 = (.slice a124 l125 c126) ∧ ( Cells H123 b16 (0 + 7) 1 ∧ ∀ H127 : Heap, Puts H123 b16 (0 + 7) [(.slice a124 l125 c126)] H127 → ( ∃ n128 : Int, hcell H127 b1 (0 + 6) = some (.int .i64 n128) ∧ ( ((67 : Int) ≠ 0) ∧ ∀ q129 : Int, q129 = Int.tmod n128 67 → ( ((((q129 : Int) = 66) → ( ∃ n130 : Int, hcell H127 b1 (0 + 5) = some (.int .i64 n130) ∧ ( Does Tryz.prog 8 [(.int .i64 n130), (.int .i64 40)] H127 fun v131 H132 => ∃ n133 : Int, v131 = (.int .i64 n133) ∧ ( (In64 (1980 + n133)) ∧ (0 : Int) ≤ (1980 + n133) ∧ ((1980 + n133) : Int) ≤ (1980 + n133) ∧ (1 : Int) * (1980 + n133) ≤ 281474976710656 ∧ ∀ b134 : Nat, ∀ H135 : Heap, New H132 b134 (List.replicate (Int.toNat (1980 + n133)) (.int .u8 0)) 5 H135 → ( Cells H135 b16 (0 + 7) 1 ∧ ∀ H136 : Heap, Puts H135 b16 (0 + 7) [(.slice (some (⟨b134, 0, none⟩ : Addr)) (Int.toNat (1980 + n133)) (Int.toNat (1980 + n133)))] H136 → ( I70 H136)))))) ∧ (¬ ((q129 : Int) = 66) → ( I70 H127)))))))))) ∧ (¬ ((n71 : Int) = 3) → ( ((((n71 : Int) = 7) → ( ∃ n137 : Int, hcell H69 b1 (0 + 2) = some (.int .i64 n137) ∧ ( Does Tryz.prog 67 [(.agg #[(.int .i64 2), (.int .i64 n137), (.int .i64 0), (.float .f64 0), (.slice none 0 0)])] H69 fun v138 H139 => ∃ n140 : Int, ∃ n141 : Int, ∃ f142 : Nat, ∃ a143 : Option Addr, ∃ l144 : Nat, ∃ c145 : Nat, v138 = (.agg #[(.int .i64 n140), (.int .i64 n141), (.float .f64 f142), (.slice a143 l144 c145)]) ∧ ( Cells H139 b16 (0 + 7) 1 ∧ ∀ H146 : Heap, Puts H139 b16 (0 + 7) [(.slice a143 l144 c145)] H146 → ( ∃ n147 : Int, hcell H146 b1 (0 + 6) = some (.int .i64 n147) ∧ ( ((17 : Int) ≠ 0) ∧ ∀ q148 : Int, q148 = Int.tmod n147 17 → ( ((((q148 : Int) = 16) → ( ∃ a149 : Option Addr, ∃ l150 : Nat, ∃ c151 : Nat, hcell H146 b1 (0 + 9) = some (.slice a149 l150 c151) ∧ ( Does Tryz.prog 48 [(.slice a149 l150 c151), (.int .i64 200)] H146 fun v152 H153 => ∃ a154 : Option Addr, ∃ l155 : Nat, ∃ c156 : Nat, v152 = (.slice a154 l155 c156) ∧ ( Cells H153 b16 (0 + 7) 1 ∧ ∀ H157 : Heap, Puts H153 b16 (0 + 7) [(.slice a154 l155 c156)] H157 → ( I70 H157))))) ∧ (¬ ((q148 : Int) = 16) → ( I70 H146)))))))))) ∧ (¬ ((n71 : Int) = 7) → ( ((((n71 : Int) = 9) → ( ∃ n158 : Int, hcell H69 b1 (0 + 2) = some (.int .i64 n158) ∧ ( ∃ n159 : Int, hcell H69 b1 (0 + 7) = some (.int .i64 n159) ∧ ( ((24 : Int) ≠ 0) ∧ ∀ q160 : Int, q160 = IntKind.wrap .i64 (Int.tdiv n159 24) → ( ∃ s161 : ByteArray, hcell H69 b1 (0 + 10) = some (.string s161) ∧ ( Does Tryz.prog 65 [(.int .i64 n158), (.int .i64 q160), (.string s161)] H69 fun v162 H163 => ∃ s164 : ByteArray, v162 = (.string s164) ∧ ( Cells H163 b16 (0 + 2) 1 ∧ ∀ H165 : Heap, Puts H163 b16 (0 + 2) [(.string s164)] H165 → ( I70 H165)))))))) ∧ (¬ ((n71 : Int) = 9) → ( I70 H69)))))))))))))) ∧ ∀ H166 : Heap, I70 H166 → ( ∃ I167 : Heap → Prop, ( ∃ n168 : Int, hcell H166 b16 0 = some (.int .i64 n168) ∧ ( ((((n168 : Int) = 3) → ( ((((n168 : Int) = 3) → ( ∃ n169 : Int, hcell H166 b1 (0 + 5) = some (.int .i64 n169) ∧ ( Does Tryz.prog 8 [(.int .i64 n169), (.int .i64 30)] H166 fun v170 H171 => ∃ n172 : Int, v170 = (.int .i64 n172) ∧ ( (In64 (n172 - 1)) ∧ Cells H171 b16 (0 + 5) 1 ∧ ∀ H173 : Heap, Puts H171 b16 (0 + 5) [(.int .i64 (n172 - 1))] H173 → ( I167 H173))))) ∧ (¬ ((n168 : Int) = 3) → ( I167 H166))))) ∧ (¬ ((n168 : Int) = 3) → ( ((((n168 : Int) = 14) → ( ∃ n174 : Int, hcell H166 b1 (0 + 5) = some (.int .i64 n174) ∧ ( Does Tryz.prog 8 [(.int .i64 n174), (.int .i64 30)] H166 fun v175 H176 => ∃ n177 : Int, v175 = (.int .i64 n177) ∧ ( (In64 (n177 - 1)) ∧ Cells H176 b16 (0 + 5) 1 ∧ ∀ H178 : Heap, Puts H176 b16 (0 + 5) [(.int .i64 (n177 - 1))] H178 → ( I167 H178))))) ∧ (¬ ((n168 : Int) = 14) → ( I167 H166)))))))) ∧ ∀ H179 : Heap, I167 H179 → ( ∃ I180 : Heap → Prop, ( ∃ n181 : Int, hcell H179 b16 0 = some (.int .i64 n181) ∧ ( ((((n181 : Int) = 4) → ( ((((n181 : Int) = 4) → ( ∃ n182 : Int, hcell H179 b1 (0 + 6) = some (.int .i64 n182) ∧ ( Does Tryz.prog 8 [(.int .i64 n182), (.int .i64 40)] H179 fun v183 H184 => ∃ n185 : Int, v183 = (.int .i64 n185) ∧ ( (In64 (n185 - 1)) ∧ Cells H184 b16 (0 + 6) 1 ∧ ∀ H186 : Heap, Puts H184 b16 (0 + 6) [(.int .i64 (n185 - 1))] H186 → ( I180 H186))))) ∧ (¬ ((n181 : Int) = 4) → ( I180 H179))))) ∧ (¬ ((n181 : Int) = 4) → ( ((((n181 : Int) = 14) → ( ∃ n187 : Int, hcell H179 b1 (0 + 6) = some (.int .i64 n187) ∧ ( Does Tryz.prog 8 [(.int .i64 n187), (.int .i64 40)] H179 fun v188 H189 => ∃ n190 : Int, v188 = (.int .i64 n190) ∧ ( (In64 (n190 - 1)) ∧ Cells H189 b16 (0 + 6) 1 ∧ ∀ H191 : Heap, Puts H189 b16 (0 + 6) [(.int .i64 (n190 - 1))] H191 → ( I180 H191))))) ∧ (¬ ((n181 : Int) = 14) → ( I180 H179)))))))) ∧ ∀ H192 : Heap, I180 H192 → ( ∃ n193 : Int, hcell H192 b16 0 = some (.int .i64 n193) ∧ ( ∃ s194 : ByteArray, hcell H192 b16 (0 + 1) = some (.string s194) ∧ ( ∃ s195 : ByteArray, hcell H192 b16 ((0 + 1) + 1) = some (.string s195) ∧ ( ∃ n196 : Int, hcell H192 b16 (((0 + 1) + 1) + 1) = some (.int .i64 n196) ∧ ( ∃ f197 : Nat, hcell H192 b16 ((((0 + 1) + 1) + 1) + 1) = some (.float .f64 f197) ∧ ( ∃ n198 : Int, hcell H192 b16 (((((0 + 1) + 1) + 1) + 1) + 1) = some (.int .i64 n198) ∧ ( ∃ n199 : Int, hcell H192 b16 ((((((0 + 1) + 1) + 1) + 1) + 1) + 1) = some (.int .i64 n199) ∧ ( ∃ a200 : Option Addr, ∃ l201 : Nat, ∃ c202 : Nat, hcell H192 b16 (((((((0 + 1) + 1) + 1) + 1) + 1) + 1) + 1) = some (.slice a200 l201 c202) ∧ ( Cells H192 b3 0 8 ∧ ∀ H203 : Heap, Puts H192 b3 0 [(.int .i64 n193), (.string s194), (.string s195), (.int .i64 n196), (.float .f64 f197), (.int .i64 n198), (.int .i64 n199), (.slice a200 l201 c202)] H203 → ( ∃ n204 : Int, hcell H203 b3 0 = some (.int .i64 n204) ∧ ( ∃ s205 : ByteArray, hcell H203 b3 (0 + 1) = some (.string s205) ∧ ( ∃ s206 : ByteArray, hcell H203 b3 ((0 + 1) + 1) = some (.string s206) ∧ ( ∃ n207 : Int, hcell H203 b3 (((0 + 1) + 1) + 1) = some (.int .i64 n207) ∧ ( ∃ f208 : Nat, hcell H203 b3 ((((0 + 1) + 1) + 1) + 1) = some (.float .f64 f208) ∧ ( ∃ n209 : Int, hcell H203 b3 (((((0 + 1) + 1) + 1) + 1) + 1) = some (.int .i64 n209) ∧ ( ∃ n210 : Int, hcell H203 b3 ((((((0 + 1) + 1) + 1) + 1) + 1) + 1) = some (.int .i64 n210) ∧ ( ∃ a211 : Option Addr, ∃ l212 : Nat, ∃ c213 : Nat, hcell H203 b3 (((((((0 + 1) + 1) + 1) + 1) + 1) + 1) + 1) = some (.slice a211 l212 c213) ∧ ( R (.agg #[(.int .i64 n204), (.string s205), (.string s206), (.int .i64 n207), (.float .f64 f208), (.int .i64 n209), (.int .i64 n210), (.slice a211 l212 c213)]) H203)))))))))))))))))))))) := by
  refine hx_cut h ?_ fun H' _ => ?_
  · clear fin
    repeat' first
      | assumption
      | refine hx_cut (by assumption) ?_ fun H' _ => ?_
      | refine hx_pick ⟨by decide, by decide⟩ fun r _ _ => ?_
      | refine hx_said (by assumption) fun t _ => ?_
      | refine hx_time (by assumption) (by assumption) fun r H' _ _ => ?_
      | refine hx_oi (by assumption) (by rfl) fun m => ?_
      | refine hx_lr (by assumption) (by rfl) ?_
      | refine hx_lf (by assumption) (by rfl) ?_
      | refine hx_ls (by assumption) (by rfl) ?_
      | refine hx_li (by assumption) (by rfl) ?_
      | refine hx_few (by assumption) (by simp) 60 (by rfl) (by decide) fun a' l' c' H' _ _ => ?_
      | refine hx_few (by assumption) (by simp) 200 (by rfl) (by decide) fun a' l' c' H' _ _ => ?_
      | refine hx_node (by assumption) fun n1 n2 f a' l' c' H' _ _ => ?_
      | refine hx_make (by assumption) (by omega) fun d H' _ _ _ => ?_
      | refine hx_pi (by assumption) (by rfl) (by first | assumption | exact ⟨by omega, by omega⟩) fun H' _ => ?_
      | refine hx_ps (by assumption) (by rfl) (by omega) fun H' _ => ?_
      | refine hx_pf (by assumption) (by rfl) (by assumption) fun H' _ => ?_
      | refine hx_pr (by assumption) (by rfl) (by assumption) fun H' _ => ?_
      | refine ⟨by decide, fun q _ => ?_⟩
      | refine @And.intro (_ ≤ _) _ (by omega) ?_
      | refine @And.intro (_ < _) _ (by omega) ?_
      | refine ⟨⟨by omega, by omega⟩, ?_⟩
      | refine br (fun _ => ?_) (fun _ => ?_)
  · exact hcall_2 fin h0 hw hs (by assumption)
theorem hcall_0 (fin : ∀ {H192 : Heap} {N b16 : Nat}, HX H4 H192 b1 (rawC x0 x1 x2 x3 x4 x5 x6 x7 w a l c s) N b16 callS → ∃ n193 : Int, hcell H192 b16 0 = some (.int .i64 n193) ∧ ( ∃ s194 : ByteArray, hcell H192 b16 (0 + 1) = some (.string s194) ∧ ( ∃ s195 : ByteArray, hcell H192 b16 ((0 + 1) + 1) = some (.string s195) ∧ ( ∃ n196 : Int, hcell H192 b16 (((0 + 1) + 1) + 1) = some (.int .i64 n196) ∧ ( ∃ f197 : Nat, hcell H192 b16 ((((0 + 1) + 1) + 1) + 1) = some (.float .f64 f197) ∧ ( ∃ n198 : Int, hcell H192 b16 (((((0 + 1) + 1) + 1) + 1) + 1) = some (.int .i64 n198) ∧ ( ∃ n199 : Int, hcell H192 b16 ((((((0 + 1) + 1) + 1) + 1) + 1) + 1) = some (.int .i64 n199) ∧ ( ∃ a200 : Option Addr, ∃ l201 : Nat, ∃ c202 : Nat, hcell H192 b16 (((((((0 + 1) + 1) + 1) + 1) + 1) + 1) + 1) = some (.slice a200 l201 c202) ∧ ( Cells H192 b3 0 8 ∧ ∀ H203 : Heap, Puts H192 b3 0 [(.int .i64 n193), (.string s194), (.string s195), (.int .i64 n196), (.float .f64 f197), (.int .i64 n198), (.int .i64 n199), (.slice a200 l201 c202)] H203 → ( ∃ n204 : Int, hcell H203 b3 0 = some (.int .i64 n204) ∧ ( ∃ s205 : ByteArray, hcell H203 b3 (0 + 1) = some (.string s205) ∧ ( ∃ s206 : ByteArray, hcell H203 b3 ((0 + 1) + 1) = some (.string s206) ∧ ( ∃ n207 : Int, hcell H203 b3 (((0 + 1) + 1) + 1) = some (.int .i64 n207) ∧ ( ∃ f208 : Nat, hcell H203 b3 ((((0 + 1) + 1) + 1) + 1) = some (.float .f64 f208) ∧ ( ∃ n209 : Int, hcell H203 b3 (((((0 + 1) + 1) + 1) + 1) + 1) = some (.int .i64 n209) ∧ ( ∃ n210 : Int, hcell H203 b3 ((((((0 + 1) + 1) + 1) + 1) + 1) + 1) = some (.int .i64 n210) ∧ ( ∃ a211 : Option Addr, ∃ l212 : Nat, ∃ c213 : Nat, hcell H203 b3 (((((((0 + 1) + 1) + 1) + 1) + 1) + 1) + 1) = some (.slice a211 l212 c213) ∧ ( R (.agg #[(.int .i64 n204), (.string s205), (.string s206), (.int .i64 n207), (.float .f64 f208), (.int .i64 n209), (.int .i64 n210), (.slice a211 l212 c213)]) H203)))))))))))))))))) (h0 : In64 x0) (hw : w < 18446744073709551616) (hs : s.size ≤ 10000000) {H18 : Heap} {N b16 : Nat} (h : HX H4 H18 b1 (rawC x0 x1 x2 x3 x4 x5 x6 x7 w a l c s) N b16 callS) :
    ∃ I19 : Heap → Prop, ( ∃ n20 : Int, hcell H18 b1 (0 + 7) = some (.int .i64 n20) ∧ ( ((41 : Int) ≠ 0) ∧ ∀ q21 : Int, q21 = Int.tmod n20 41 → ( ((((q21 : Int) = 40) → ( ∃ n22 : Int, hcell H18 b1 0 = some (.int .i64 n22) ∧ ( Cells H18 b16 0 1 ∧ ∀ H23 : Heap, Puts H18 b16 0 [(.int .i64 n22)] H23 → ( I19 H23)))) ∧ (¬ ((q21 : Int) = 40) → ( I19 H18)))))) ∧ ∀ H24 : Heap, I19 H24 → ( ∃ I25 : Heap → Prop, ( ∃ n26 : Int, hcell H24 b16 0 = some (.int .i64 n26) ∧ ( ((((n26 : Int) = 1) → ( ((((n26 : Int) = 1) → ( ∃ n27 : Int, hcell H24 b1 (0 + 3) = some (.int .i64 n27) ∧ ( Does Tryz.prog 8 [(.int .i64 n27), (.int .i64 4099)] H24 fun v28 H29 => ∃ n30 : Int, v28 = (.int .i64 n30) ∧ ( (In64 (n30 - 1)) ∧ Cells H29 b16 (0 + 3) 1 ∧ ∀ H31 : Heap, Puts H29 b16 (0 + 3) [(.int .i64 (n30 - 1))] H31 → ( I25 H31))))) ∧ (¬ ((n26 : Int) = 1) → ( I25 H24))))) ∧ (¬ ((n26 : Int) = 1) → ( ((((n26 : Int) = 2) → ( ((((n26 : Int) = 2) → ( ∃ n32 : Int, hcell H24 b1 (0 + 3) = some (.int .i64 n32) ∧ ( Does Tryz.prog 8 [(.int .i64 n32), (.int .i64 4099)] H24 fun v33 H34 => ∃ n35 : Int, v33 = (.int .i64 n35) ∧ ( (In64 (n35 - 1)) ∧ Cells H34 b16 (0 + 3) 1 ∧ ∀ H36 : Heap, Puts H34 b16 (0 + 3) [(.int .i64 (n35 - 1))] H36 → ( I25 H36))))) ∧ (¬ ((n26 : Int) = 2) → ( I25 H24))))) ∧ (¬ ((n26 : Int) = 2) → ( ((((n26 : Int) = 10) → ( ∃ n37 : Int, hcell H24 b1 (0 + 3) = some (.int .i64 n37) ∧ ( Does Tryz.prog 8 [(.int .i64 n37), (.int .i64 4099)] H24 fun v38 H39 => ∃ n40 : Int, v38 = (.int .i64 n40) ∧ ( (In64 (n40 - 1)) ∧ Cells H39 b16 (0 + 3) 1 ∧ ∀ H41 : Heap, Puts H39 b16 (0 + 3) [(.int .i64 (n40 - 1))] H41 → ( I25 H41))))) ∧ (¬ ((n26 : Int) = 10) → ( I25 H24))))))))))) ∧ ∀ H42 : Heap, I25 H42 → ( ∃ I43 : Heap → Prop, ( ∃ n44 : Int, hcell H42 b16 0 = some (.int .i64 n44) ∧ ( ((((n44 : Int) = 1) → ( ((((n44 : Int) = 1) → ( ∃ n45 : Int, hcell H42 b1 (0 + 4) = some (.int .i64 n45) ∧ ( ∃ f46 : Nat, hcell H42 b1 (0 + 8) = some (.float .f64 f46) ∧ ( Does Tryz.prog 66 [(.int .i64 n45), (.float .f64 f46)] H42 fun v47 H48 => ∃ f49 : Nat, v47 = (.float .f64 f49) ∧ ( Cells H48 b16 (0 + 4) 1 ∧ ∀ H50 : Heap, Puts H48 b16 (0 + 4) [(.float .f64 f49)] H50 → ( I43 H50)))))) ∧ (¬ ((n44 : Int) = 1) → ( I43 H42))))) ∧ (¬ ((n44 : Int) = 1) → ( ((((n44 : Int) = 2) → ( ((((n44 : Int) = 2) → ( ∃ n51 : Int, hcell H42 b1 (0 + 4) = some (.int .i64 n51) ∧ ( ∃ f52 : Nat, hcell H42 b1 (0 + 8) = some (.float .f64 f52) ∧ ( Does Tryz.prog 66 [(.int .i64 n51), (.float .f64 f52)] H42 fun v53 H54 => ∃ f55 : Nat, v53 = (.float .f64 f55) ∧ ( Cells H54 b16 (0 + 4) 1 ∧ ∀ H56 : Heap, Puts H54 b16 (0 + 4) [(.float .f64 f55)] H56 → ( I43 H56)))))) ∧ (¬ ((n44 : Int) = 2) → ( I43 H42))))) ∧ (¬ ((n44 : Int) = 2) → ( ((((n44 : Int) = 7) → ( ((((n44 : Int) = 7) → ( ∃ n57 : Int, hcell H42 b1 (0 + 4) = some (.int .i64 n57) ∧ ( ∃ f58 : Nat, hcell H42 b1 (0 + 8) = some (.float .f64 f58) ∧ ( Does Tryz.prog 66 [(.int .i64 n57), (.float .f64 f58)] H42 fun v59 H60 => ∃ f61 : Nat, v59 = (.float .f64 f61) ∧ ( Cells H60 b16 (0 + 4) 1 ∧ ∀ H62 : Heap, Puts H60 b16 (0 + 4) [(.float .f64 f61)] H62 → ( I43 H62)))))) ∧ (¬ ((n44 : Int) = 7) → ( I43 H42))))) ∧ (¬ ((n44 : Int) = 7) → ( ((((n44 : Int) = 11) → ( ∃ n63 : Int, hcell H42 b1 (0 + 4) = some (.int .i64 n63) ∧ ( ∃ f64 : Nat, hcell H42 b1 (0 + 8) = some (.float .f64 f64) ∧ ( Does Tryz.prog 66 [(.int .i64 n63), (.float .f64 f64)] H42 fun v65 H66 => ∃ f67 : Nat, v65 = (.float .f64 f67) ∧ ( Cells H66 b16 (0 + 4) 1 ∧ ∀ H68 : Heap, Puts H66 b16 (0 + 4) [(.float .f64 f67)] H68 → ( I43 H68)))))) ∧ (¬ ((n44 : Int) = 11) → ( I43 H42)))))))))))))) ∧ ∀ H69 : Heap, I43 H69 → ( ∃ I70 : Heap → Prop, ( ∃ n71 : Int, hcell H69 b16 0 = some (.int .i64 n71) ∧ ( ((((n71 : Int) = 2) → ( ((((n71 : Int) = 2) → ( ∃ a72 : Option Addr, ∃ l73 : Nat, ∃ c74 : Nat, hcell H69 b1 (0 + 9) = some (.slice a72 l73 c74) ∧ ( Does Tryz.prog 48 [(.slice a72 l73 c74), (.int .i64 60)] H69 fun v75 H76 => ∃ a77 : Option Addr, ∃ l78 : Nat, ∃ c79 : Nat, v75 = (.slice a77 l78 c79) ∧ ( Cells H76 b16 (0 + 7) 1 ∧ ∀ H80 : Heap, Puts H76 b16 (0 + 7) [(.slice a77 l78 c79)] H80 → ( ∃ n81 : Int, hcell H80 b1 (0 + 6) = some (.int .i64 n81) ∧ ( ((67 : Int) ≠ 0) ∧ ∀ q82 : Int, q82 = Int.tmod n81 67 → ( ((((q82 : Int) = 66) → ( ∃ n83 : Int, hcell H80 b1 (0 + 5) = some (.int .i64 n83) ∧ ( Does Tryz.prog 8 [(.int .i64 n83), (.int .i64 40)] H80 fun v84 H85 => ∃ n86 : Int, v84 = (.int .i64 n86) ∧ ( (In64 (1980 + n86)) ∧ (0 : Int) ≤ (1980 + n86) ∧ ((1980 + n86) : Int) ≤ (1980 + n86) ∧ (1 : Int) * (1980 + n86) ≤ 281474976710656 ∧ ∀ b87 : Nat, ∀ H88 : Heap, New H85 b87 (List.replicate (Int.toNat (1980 + n86)) (.int .u8 0)) 5 H88 → ( Cells H88 b16 (0 + 7) 1 ∧ ∀ H89 : Heap, Puts H88 b16 (0 + 7) [(.slice (some (⟨b87, 0, none⟩ : Addr)) (Int.toNat (1980 + n86)) (Int.toNat (1980 + n86)))] H89 → ( I70 H89)))))) ∧ (¬ ((q82 : Int) = 66) → ( I70 H80)))))))))) ∧ (¬ ((n71 : Int) = 2) → ( ((((n71 : Int) = 7) → ( ∃ n90 : Int, hcell H69 b1 (0 + 2) = some (.int .i64 n90) ∧ ( Does Tryz.prog 67 [(.agg #[(.int .i64 2), (.int .i64 n90), (.int .i64 0), (.float .f64 0), (.slice none 0 0)])] H69 fun v91 H92 => ∃ n93 : Int, ∃ n94 : Int, ∃ f95 : Nat, ∃ a96 : Option Addr, ∃ l97 : Nat, ∃ c98 : Nat, v91 = (.agg #[(.int .i64 n93), (.int .i64 n94), (.float .f64 f95), (.slice a96 l97 c98)]) ∧ ( Cells H92 b16 (0 + 7) 1 ∧ ∀ H99 : Heap, Puts H92 b16 (0 + 7) [(.slice a96 l97 c98)] H99 → ( ∃ n100 : Int, hcell H99 b1 (0 + 6) = some (.int .i64 n100) ∧ ( ((17 : Int) ≠ 0) ∧ ∀ q101 : Int, q101 = Int.tmod n100 17 → ( ((((q101 : Int) = 16) → ( ∃ a102 : Option Addr, ∃ l103 : Nat, ∃ c104 : Nat, hcell H99 b1 (0 + 9) = some (.slice a102 l103 c104) ∧ ( Does Tryz.prog 48 [(.slice a102 l103 c104), (.int .i64 200)] H99 fun v105 H106 => ∃ a107 : Option Addr, ∃ l108 : Nat, ∃ c109 : Nat, v105 = (.slice a107 l108 c109) ∧ ( Cells H106 b16 (0 + 7) 1 ∧ ∀ H110 : Heap, Puts H106 b16 (0 + 7) [(.slice a107 l108 c109)] H110 → ( I70 H110))))) ∧ (¬ ((q101 : Int) = 16) → ( I70 H99)))))))))) ∧ (¬ ((n71 : Int) = 7) → ( ((((n71 : Int) = 9) → ( ∃ n111 : Int, hcell H69 b1 (0 + 2) = some (.int .i64 n111) ∧ ( ∃ n112 : Int, hcell H69 b1 (0 + 7) = some (.int .i64 n112) ∧ ( ((24 : Int) ≠ 0) ∧ ∀ q113 : Int, q113 = IntKind.wrap .i64 (Int.tdiv n112 24) → ( ∃ s114 : ByteArray, hcell H69 b1 (0 + 10) = some (.string s114) ∧ ( Does Tryz.prog 65 [(.int .i64 n111), (.int .i64 q113), (.string s114)] H69 fun v115 H116 => ∃ s117 : ByteArray, v115 = (.string s117) ∧ ( Cells H116 b16 (0 + 2) 1 ∧ ∀ H118 : Heap, Puts H116 b16 (0 + 2) [(.string s117)] H118 → ( I70 H118)))))))) ∧ (¬ ((n71 : Int) = 9) → ( I70 H69))))))))))) ∧ (¬ ((n71 : Int) = 2) → ( ((((n71 : Int) = 3) → ( ∃ a119 : Option Addr, ∃ l120 : Nat, ∃ c121 : Nat, hcell H69 b1 (0 + 9) = some (.slice a119 l120 c121) ∧ ( Does Tryz.prog 48 [(.slice a119 l120 c121), (.int .i64 60)] H69 fun v122 H123 => ∃ a124 : Option Addr, ∃ l125 : Nat, ∃ c126 : Nat, v122 = (.slice a124 l125 c126) ∧ ( Cells H123 b16 (0 + 7) 1 ∧ ∀ H127 : Heap, Puts H123 b16 (0 + 7) [(.slice a124 l125 c126)] H127 → ( ∃ n128 : Int, hcell H127 b1 (0 + 6) = some (.int .i64 n128) ∧ ( ((67 : Int) ≠ 0) ∧ ∀ q129 : Int, q129 = Int.tmod n128 67 → ( ((((q129 : Int) = 66) → ( ∃ n130 : Int, hcell H127 b1 (0 + 5) = some (.int .i64 n130) ∧ ( Does Tryz.prog 8 [(.int .i64 n130), (.int .i64 40)] H127 fun v131 H132 => ∃ n133 : Int, v131 = (.int .i64 n133) ∧ ( (In64 (1980 + n133)) ∧ (0 : Int) ≤ (1980 + n133) ∧ ((1980 + n133) : Int) ≤ (1980 + n133) ∧ (1 : Int) * (1980 + n133) ≤ 281474976710656 ∧ ∀ b134 : Nat, ∀ H135 : Heap, New H132 b134 (List.replicate (Int.toNat (1980 + n133)) (.int .u8 0)) 5 H135 → ( Cells H135 b16 (0 + 7) 1 ∧ ∀ H136 : Heap, Puts H135 b16 (0 + 7) [(.slice (some (⟨b134, 0, none⟩ : Addr)) (Int.toNat (1980 + n133)) (Int.toNat (1980 + n133)))] H136 → ( I70 H136)))))) ∧ (¬ ((q129 : Int) = 66) → ( I70 H127)))))))))) ∧ (¬ ((n71 : Int) = 3) → ( ((((n71 : Int) = 7) → ( ∃ n137 : Int, hcell H69 b1 (0 + 2) = some (.int .i64 n137) ∧ ( Does Tryz.prog 67 [(.agg #[(.int .i64 2), (.int .i64 n137), (.int .i64 0), (.float .f64 0), (.slice none 0 0)])] H69 fun v138 H139 => ∃ n140 : Int, ∃ n141 : Int, ∃ f142 : Nat, ∃ a143 : Option Addr, ∃ l144 : Nat, ∃ c145 : Nat, v138 = (.agg #[(.int .i64 n140), (.int .i64 n141), (.float .f64 f142), (.slice a143 l144 c145)]) ∧ ( Cells H139 b16 (0 + 7) 1 ∧ ∀ H146 : Heap, Puts H139 b16 (0 + 7) [(.slice a143 l144 c145)] H146 → ( ∃ n147 : Int, hcell H146 b1 (0 + 6) = some (.int .i64 n147) ∧ ( ((17 : Int) ≠ 0) ∧ ∀ q148 : Int, q148 = Int.tmod n147 17 → ( ((((q148 : Int) = 16) → ( ∃ a149 : Option Addr, ∃ l150 : Nat, ∃ c151 : Nat, hcell H146 b1 (0 + 9) = some (.slice a149 l150 c151) ∧ ( Does Tryz.prog 48 [(.slice a149 l150 c151), (.int .i64 200)] H146 fun v152 H153 => ∃ a154 : Option Addr, ∃ l155 : Nat, ∃ c156 : Nat, v152 = (.slice a154 l155 c156) ∧ ( Cells H153 b16 (0 + 7) 1 ∧ ∀ H157 : Heap, Puts H153 b16 (0 + 7) [(.slice a154 l155 c156)] H157 → ( I70 H157))))) ∧ (¬ ((q148 : Int) = 16) → ( I70 H146)))))))))) ∧ (¬ ((n71 : Int) = 7) → ( ((((n71 : Int) = 9) → ( ∃ n158 : Int, hcell H69 b1 (0 + 2) = some (.int .i64 n158) ∧ ( ∃ n159 : Int, hcell H69 b1 (0 + 7) = some (.int .i64 n159) ∧ ( ((24 : Int) ≠ 0) ∧ ∀ q160 : Int, q160 = IntKind.wrap .i64 (Int.tdiv n159 24) → ( ∃ s161 : ByteArray, hcell H69 b1 (0 + 10) = some (.string s161) ∧ ( Does Tryz.prog 65 [(.int .i64 n158), (.int .i64 q160), (.string s161)] H69 fun v162 H163 => ∃ s164 : ByteArray, v162 = (.string s164) ∧ ( Cells H163 b16 (0 + 2) 1 ∧ ∀ H165 : Heap, Puts H163 b16 (0 + 2) [(.string s164)] H165 → ( I70 H165)))))))) ∧ (¬ ((n71 : Int) = 9) → ( I70 H69)))))))))))))) ∧ ∀ H166 : Heap, I70 H166 → ( ∃ I167 : Heap → Prop, ( ∃ n168 : Int, hcell H166 b16 0 = some (.int .i64 n168) ∧ ( ((((n168 : Int) = 3) → ( ((((n168 : Int) = 3) → ( ∃ n169 : Int, hcell H166 b1 (0 + 5) = some (.int .i64 n169) ∧ ( Does Tryz.prog 8 [(.int .i64 n169), (.int .i64 30)] H166 fun v170 H171 => ∃ n172 : Int, v170 = (.int .i64 n172) ∧ ( (In64 (n172 - 1)) ∧ Cells H171 b16 (0 + 5) 1 ∧ ∀ H173 : Heap, Puts H171 b16 (0 + 5) [(.int .i64 (n172 - 1))] H173 → ( I167 H173))))) ∧ (¬ ((n168 : Int) = 3) → ( I167 H166))))) ∧ (¬ ((n168 : Int) = 3) → ( ((((n168 : Int) = 14) → ( ∃ n174 : Int, hcell H166 b1 (0 + 5) = some (.int .i64 n174) ∧ ( Does Tryz.prog 8 [(.int .i64 n174), (.int .i64 30)] H166 fun v175 H176 => ∃ n177 : Int, v175 = (.int .i64 n177) ∧ ( (In64 (n177 - 1)) ∧ Cells H176 b16 (0 + 5) 1 ∧ ∀ H178 : Heap, Puts H176 b16 (0 + 5) [(.int .i64 (n177 - 1))] H178 → ( I167 H178))))) ∧ (¬ ((n168 : Int) = 14) → ( I167 H166)))))))) ∧ ∀ H179 : Heap, I167 H179 → ( ∃ I180 : Heap → Prop, ( ∃ n181 : Int, hcell H179 b16 0 = some (.int .i64 n181) ∧ ( ((((n181 : Int) = 4) → ( ((((n181 : Int) = 4) → ( ∃ n182 : Int, hcell H179 b1 (0 + 6) = some (.int .i64 n182) ∧ ( Does Tryz.prog 8 [(.int .i64 n182), (.int .i64 40)] H179 fun v183 H184 => ∃ n185 : Int, v183 = (.int .i64 n185) ∧ ( (In64 (n185 - 1)) ∧ Cells H184 b16 (0 + 6) 1 ∧ ∀ H186 : Heap, Puts H184 b16 (0 + 6) [(.int .i64 (n185 - 1))] H186 → ( I180 H186))))) ∧ (¬ ((n181 : Int) = 4) → ( I180 H179))))) ∧ (¬ ((n181 : Int) = 4) → ( ((((n181 : Int) = 14) → ( ∃ n187 : Int, hcell H179 b1 (0 + 6) = some (.int .i64 n187) ∧ ( Does Tryz.prog 8 [(.int .i64 n187), (.int .i64 40)] H179 fun v188 H189 => ∃ n190 : Int, v188 = (.int .i64 n190) ∧ ( (In64 (n190 - 1)) ∧ Cells H189 b16 (0 + 6) 1 ∧ ∀ H191 : Heap, Puts H189 b16 (0 + 6) [(.int .i64 (n190 - 1))] H191 → ( I180 H191))))) ∧ (¬ ((n181 : Int) = 14) → ( I180 H179)))))))) ∧ ∀ H192 : Heap, I180 H192 → ( ∃ n193 : Int, hcell H192 b16 0 = some (.int .i64 n193) ∧ ( ∃ s194 : ByteArray, hcell H192 b16 (0 + 1) = some (.string s194) ∧ ( ∃ s195 : ByteArray, hcell H192 b16 ((0 + 1) + 1) = some (.string s195) ∧ ( ∃ n196 : Int, hcell H192 b16 (((0 + 1) + 1) + 1) = some (.int .i64 n196) ∧ ( ∃ f197 : Nat, hcell H192 b16 ((((0 + 1) + 1) + 1) + 1) = some (.float .f64 f197) ∧ ( ∃ n198 : Int, hcell H192 b16 (((((0 + 1) + 1) + 1) + 1) + 1) = some (.int .i64 n198) ∧ ( ∃ n199 : Int, hcell H192 b16 ((((((0 + 1) + 1) + 1) + 1) + 1) + 1) = some (.int .i64 n199) ∧ ( ∃ a200 : Option Addr, ∃ l201 : Nat, ∃ c202 : Nat, hcell H192 b16 (((((((0 + 1) + 1) + 1) + 1) + 1) + 1) + 1) = some (.slice a200 l201 c202) ∧ ( Cells H192 b3 0 8 ∧ ∀ H203 : Heap, Puts H192 b3 0 [(.int .i64 n193), (.string s194), (.string s195), (.int .i64 n196), (.float .f64 f197), (.int .i64 n198), (.int .i64 n199), (.slice a200 l201 c202)] H203 → ( ∃ n204 : Int, hcell H203 b3 0 = some (.int .i64 n204) ∧ ( ∃ s205 : ByteArray, hcell H203 b3 (0 + 1) = some (.string s205) ∧ ( ∃ s206 : ByteArray, hcell H203 b3 ((0 + 1) + 1) = some (.string s206) ∧ ( ∃ n207 : Int, hcell H203 b3 (((0 + 1) + 1) + 1) = some (.int .i64 n207) ∧ ( ∃ f208 : Nat, hcell H203 b3 ((((0 + 1) + 1) + 1) + 1) = some (.float .f64 f208) ∧ ( ∃ n209 : Int, hcell H203 b3 (((((0 + 1) + 1) + 1) + 1) + 1) = some (.int .i64 n209) ∧ ( ∃ n210 : Int, hcell H203 b3 ((((((0 + 1) + 1) + 1) + 1) + 1) + 1) = some (.int .i64 n210) ∧ ( ∃ a211 : Option Addr, ∃ l212 : Nat, ∃ c213 : Nat, hcell H203 b3 (((((((0 + 1) + 1) + 1) + 1) + 1) + 1) + 1) = some (.slice a211 l212 c213) ∧ ( R (.agg #[(.int .i64 n204), (.string s205), (.string s206), (.int .i64 n207), (.float .f64 f208), (.int .i64 n209), (.int .i64 n210), (.slice a211 l212 c213)]) H203))))))))))))))))))))))) := by
  refine hx_cut h ?_ fun H' _ => ?_
  · clear fin
    repeat' first
      | assumption
      | refine hx_cut (by assumption) ?_ fun H' _ => ?_
      | refine hx_pick ⟨by decide, by decide⟩ fun r _ _ => ?_
      | refine hx_said (by assumption) fun t _ => ?_
      | refine hx_time (by assumption) (by assumption) fun r H' _ _ => ?_
      | refine hx_oi (by assumption) (by rfl) fun m => ?_
      | refine hx_lr (by assumption) (by rfl) ?_
      | refine hx_lf (by assumption) (by rfl) ?_
      | refine hx_ls (by assumption) (by rfl) ?_
      | refine hx_li (by assumption) (by rfl) ?_
      | refine hx_few (by assumption) (by simp) 60 (by rfl) (by decide) fun a' l' c' H' _ _ => ?_
      | refine hx_few (by assumption) (by simp) 200 (by rfl) (by decide) fun a' l' c' H' _ _ => ?_
      | refine hx_node (by assumption) fun n1 n2 f a' l' c' H' _ _ => ?_
      | refine hx_make (by assumption) (by omega) fun d H' _ _ _ => ?_
      | refine hx_pi (by assumption) (by rfl) (by first | assumption | exact ⟨by omega, by omega⟩) fun H' _ => ?_
      | refine hx_ps (by assumption) (by rfl) (by omega) fun H' _ => ?_
      | refine hx_pf (by assumption) (by rfl) (by assumption) fun H' _ => ?_
      | refine hx_pr (by assumption) (by rfl) (by assumption) fun H' _ => ?_
      | refine ⟨by decide, fun q _ => ?_⟩
      | refine @And.intro (_ ≤ _) _ (by omega) ?_
      | refine @And.intro (_ < _) _ (by omega) ?_
      | refine ⟨⟨by omega, by omega⟩, ?_⟩
      | refine br (fun _ => ?_) (fun _ => ?_)
  · exact hcall_1 fin h0 hw hs (by assumption)
end
set_option maxHeartbeats 1000000 in
theorem hcall_ok {H : Heap} (g : Glob H) (x0 x1 x2 x3 x4 x5 x6 x7 : Int) {w : Nat} (h0 : In64 x0) (hw : w < 18446744073709551616) {a : Option Addr} {l c : Nat} (hr : ∃ bs, SRow H 1 l (.slice a l c) (bytesV bs) ∧ l ≤ c) {s : ByteArray} (hs : s.size ≤ 10000000) :
    Does Tryz.prog 47 [.agg #[.int .i64 x0, .int .i64 x1, .int .i64 x2, .int .i64 x3, .int .i64 x4, .int .i64 x5, .int .i64 x6, .int .i64 x7, .float .f64 w, .slice a l c, .string s]] H fun v H' => ∃ (k : Int) (p t : ByteArray) (m : Int) (f : Nat) (q n : Int) (a : Option Addr) (l c : Nat), v = .agg #[.int .i64 k, .string p, .string t, .int .i64 m, .float .f64 f, .int .i64 q, .int .i64 n, .slice a l c] ∧ AllOk H.size H' callS [.int .i64 k, .string p, .string t, .int .i64 m, .float .f64 f, .int .i64 q, .int .i64 n, .slice a l c] ∧ Ext [] H H' := by
  refine Fn_of_vc Tryz.mixed (HCallV _ _ _ _ _ _ _ _ _ _ _ _ _ _ _) ?_
  intro b1 H2 hn1 b3 H4 hn3
  have hx4 : Ext [] H H4 := hn1.ext.trans hn3.ext
  have s2 := hn1.size
  have s4 := hn3.size
  have e3 := hn3.eq
  have ex4 : EX H4 H4 b1 [.int .i64 x0, .int .i64 x1, .int .i64 x2, .int .i64 x3, .int .i64 x4, .int .i64 x5, .int .i64 x6, .int .i64 x7, .float .f64 w, .slice a l c, .string s] := ⟨hn1.blk.ext hn3.ext (by simp), Ext.refl _ _, g.ext hx4, fun a' l' c' hm => by
    have e : Value.slice a' l' c' = .slice a l c := by simpa using hm
    cases e
    obtain ⟨bs, h1, h2⟩ := hr
    exact ⟨bs, srow_ext h1 hx4, h2⟩⟩
  have zero : ∀ N H', AllOk N H' callS [.int .i64 0, .string (ByteArray.mk #[]), .string (ByteArray.mk #[]), .int .i64 0, .float .f64 0, .int .i64 0, .int .i64 0, .slice none 0 0] := fun N H' => ⟨⟨0, rfl, by decide, by decide⟩, ⟨_, rfl, by decide⟩, ⟨_, rfl, by decide⟩, ⟨0, rfl, by decide, by decide⟩, ⟨0, rfl, by decide⟩, ⟨0, rfl, by decide, by decide⟩, ⟨0, rfl, by decide, by decide⟩, ⟨none, 0, 0, [], rfl, ⟨rfl, rfl⟩, by decide, by simp [blkOf]⟩, trivial⟩
  have eight : ∀ N H' (x : Int) (p : ByteArray), In64 x → p.size ≤ 10000000 → AllOk N H' callS [.int .i64 x, .string p, .string (ByteArray.mk #[]), .int .i64 0, .float .f64 0, .int .i64 0, .int .i64 0, .slice none 0 0] := fun N H' x p h1 h2 => ⟨⟨x, rfl, h1⟩, ⟨p, rfl, by omega⟩, ⟨_, rfl, by decide⟩, ⟨0, rfl, by decide, by decide⟩, ⟨0, rfl, by decide⟩, ⟨0, rfl, by decide, by decide⟩, ⟨0, rfl, by decide, by decide⟩, ⟨none, 0, 0, [], rfl, ⟨rfl, rfl⟩, by decide, by simp [blkOf]⟩, trivial⟩
  have fin : ∀ {H193 : Heap} {N b : Nat}, HX H4 H193 b1 (rawC x0 x1 x2 x3 x4 x5 x6 x7 w a l c s) N b callS →
    ∃ n194 : Int, hcell H193 b 0 = some (.int .i64 n194) ∧ (
      ∃ s195 : ByteArray, hcell H193 b (0 + 1) = some (.string s195) ∧ (
        ∃ s196 : ByteArray, hcell H193 b ((0 + 1) + 1) = some (.string s196) ∧ (
          ∃ n197 : Int, hcell H193 b (((0 + 1) + 1) + 1) = some (.int .i64 n197) ∧ (
            ∃ f198 : Nat, hcell H193 b ((((0 + 1) + 1) + 1) + 1) = some (.float .f64 f198) ∧ (
              ∃ n199 : Int, hcell H193 b (((((0 + 1) + 1) + 1) + 1) + 1) = some (.int .i64 n199) ∧ (
                ∃ n200 : Int, hcell H193 b ((((((0 + 1) + 1) + 1) + 1) + 1) + 1) = some (.int .i64 n200) ∧ (
                  ∃ a201 : Option Addr, ∃ l202 : Nat, ∃ c203 : Nat, hcell H193 b (((((((0 + 1) + 1) + 1) + 1) + 1) + 1) + 1) = some (.slice a201 l202 c203) ∧ (
                    Cells H193 b3 0 8 ∧ ∀ H204 : Heap, Puts H193 b3 0 [(.int .i64 n194), (.string s195), (.string s196), (.int .i64 n197), (.float .f64 f198), (.int .i64 n199), (.int .i64 n200), (.slice a201 l202 c203)] H204 → (
                      ∃ n205 : Int, hcell H204 b3 0 = some (.int .i64 n205) ∧ (
                        ∃ s206 : ByteArray, hcell H204 b3 (0 + 1) = some (.string s206) ∧ (
                          ∃ s207 : ByteArray, hcell H204 b3 ((0 + 1) + 1) = some (.string s207) ∧ (
                            ∃ n208 : Int, hcell H204 b3 (((0 + 1) + 1) + 1) = some (.int .i64 n208) ∧ (
                              ∃ f209 : Nat, hcell H204 b3 ((((0 + 1) + 1) + 1) + 1) = some (.float .f64 f209) ∧ (
                                ∃ n210 : Int, hcell H204 b3 (((((0 + 1) + 1) + 1) + 1) + 1) = some (.int .i64 n210) ∧ (
                                  ∃ n211 : Int, hcell H204 b3 ((((((0 + 1) + 1) + 1) + 1) + 1) + 1) = some (.int .i64 n211) ∧ (
                                    ∃ a212 : Option Addr, ∃ l213 : Nat, ∃ c214 : Nat, hcell H204 b3 (((((((0 + 1) + 1) + 1) + 1) + 1) + 1) + 1) = some (.slice a212 l213 c214) ∧ (
      ∃ (k : Int) (p t : ByteArray) (m : Int) (f : Nat) (q n : Int) (a : Option Addr) (l c : Nat), Value.agg #[(.int .i64 n205), (.string s206), (.string s207), (.int .i64 n208), (.float .f64 f209), (.int .i64 n210), (.int .i64 n211), (.slice a212 l213 c214)] = .agg #[.int .i64 k, .string p, .string t, .int .i64 m, .float .f64 f, .int .i64 q, .int .i64 n, .slice a l c] ∧ AllOk H.size H204 callS [.int .i64 k, .string p, .string t, .int .i64 m, .float .f64 f, .int .i64 q, .int .i64 n, .slice a l c] ∧ Ext [] H H204))))))))))))))))) := by
    intro H91 N b hh
    obtain ⟨hbn, vs, hb, ha⟩ := hh.obj
    obtain ⟨v0, r0, rfl, ⟨x0, rfl, h0⟩, ha0⟩ := all_cons ha
    obtain ⟨v1, r1, rfl, ⟨x1, rfl, h1⟩, ha1⟩ := all_cons ha0
    obtain ⟨v2, r2, rfl, ⟨x2, rfl, h2⟩, ha2⟩ := all_cons ha1
    obtain ⟨v3, r3, rfl, ⟨x3, rfl, h3⟩, ha3⟩ := all_cons ha2
    obtain ⟨v4, r4, rfl, ⟨x4, rfl, h4⟩, ha4⟩ := all_cons ha3
    obtain ⟨v5, r5, rfl, ⟨x5, rfl, h5⟩, ha5⟩ := all_cons ha4
    obtain ⟨v6, r6, rfl, ⟨x6, rfl, h6⟩, ha6⟩ := all_cons ha5
    obtain ⟨v7, r7, rfl, ⟨x7, l7, c7, bs7, rfl, h7⟩, ha7⟩ := all_cons ha6
    cases all_nil ha7
    have hr1 := hn3.blk.ext hh.ext (by simp)
    refine ⟨_, hb.cell _, _, hb.cell _, _, hb.cell _, _, hb.cell _, _, hb.cell _, _, hb.cell _, _, hb.cell _, _, _, _, hb.cell _, hr1.cells _ _ (by simp), fun H98 hp => ?_⟩
    have hz := hp.blk hr1 (by simp)
    have hnn := hh.nn
    refine ⟨_, hz.cell _, _, hz.cell _, _, hz.cell _, _, hz.cell _, _, hz.cell _, _, hz.cell _, _, hz.cell _, _, _, _, hz.cell _, _, _, _, _, _, _, _, _, _, _, rfl, (ha.ext hp.ext (by simp; omega)).mono (by omega), (hx4.trans hh.ext).trans' hp.ext (fun i hi => .inl (by simp only [List.mem_singleton] at hi; omega))⟩
  refine ex_li ex4 (by rfl) ?_
  refine ex_li ex4 (by rfl) ?_
  refine ex_li ex4 (by rfl) ?_
  refine ex_ls ex4 (by rfl) ?_
  refine @And.intro (Does _ _ _ _ _) _ ?_ ?_
  · refine ex_pick ⟨by decide, by decide⟩ fun r r0 r1 => ?_
    refine ex_is ex4 (by rfl) ?_
    refine ex_is ex4 (by rfl) ?_
    refine ex_is ex4 (by rfl) ?_
    refine ⟨r0, r1, ?_⟩
    refine ex_kinds ex4 r0 r1 fun m hm hk => ?_
    refine @And.intro (Does _ _ _ _ _) _ ?_ ?_
    · refine ex_said hs fun t ht => ?_
      refine ex_isk ex4 hk ?_
      refine ex_new callS ex4 zero fun d H' _ hh => ?_
      refine ex_isk hh.ex hk ?_
      refine ex_is hh.ex (by rfl) ?_
      refine ex_is hh.ex (by rfl) ?_
      refine ex_is hh.ex (by rfl) ?_
      refine ex_is hh.ex (by rfl) ?_
      refine hx_all callS hh (by rfl) (eight _ _ _ _ hm ht) ⟨[], by rfl⟩ fun H' hh2 => ?_
      exact hcall_0 (R := fun v H' => ∃ (k : Int) (p t : ByteArray) (m : Int) (f : Nat) (q n : Int) (a : Option Addr) (l c : Nat), v = .agg #[.int .i64 k, .string p, .string t, .int .i64 m, .float .f64 f, .int .i64 q, .int .i64 n, .slice a l c] ∧ AllOk H.size H' callS [.int .i64 k, .string p, .string t, .int .i64 m, .float .f64 f, .int .i64 q, .int .i64 n, .slice a l c] ∧ Ext [] H H') fin h0 hw hs hh2
    · refine ex_new callS ex4 zero fun d H' _ hh => ?_
      refine ex_isk hh.ex hk ?_
      refine ex_is hh.ex (by rfl) ?_
      refine ex_is hh.ex (by rfl) ?_
      refine ex_is hh.ex (by rfl) ?_
      refine ex_is hh.ex (by rfl) ?_
      refine hx_said hs fun t ht => ?_
      refine ex_isk hh.ex hk ?_
      refine hx_all callS hh (by rfl) (eight _ _ _ _ hm ht) ⟨[], by rfl⟩ fun H' hh2 => ?_
      exact hcall_0 (R := fun v H' => ∃ (k : Int) (p t : ByteArray) (m : Int) (f : Nat) (q n : Int) (a : Option Addr) (l c : Nat), v = .agg #[.int .i64 k, .string p, .string t, .int .i64 m, .float .f64 f, .int .i64 q, .int .i64 n, .slice a l c] ∧ AllOk H.size H' callS [.int .i64 k, .string p, .string t, .int .i64 m, .float .f64 f, .int .i64 q, .int .i64 n, .slice a l c] ∧ Ext [] H H') fin h0 hw hs hh2
  · refine ex_new callS ex4 zero fun d H' _ hh => ?_
    refine ex_is hh.ex (by rfl) ?_
    refine ex_is hh.ex (by rfl) ?_
    refine ex_is hh.ex (by rfl) ?_
    refine ex_is hh.ex (by rfl) ?_
    refine hx_pick ⟨by decide, by decide⟩ fun r r0 r1 => ?_
    refine ex_is hh.ex (by rfl) ?_
    refine ex_is hh.ex (by rfl) ?_
    refine ex_is hh.ex (by rfl) ?_
    refine ⟨r0, r1, ?_⟩
    refine ex_kinds hh.ex r0 r1 fun m hm hk => ?_
    refine hx_said hs fun t ht => ?_
    refine ex_isk hh.ex hk ?_
    refine hx_all callS hh (by rfl) (eight _ _ _ _ hm ht) ⟨[], by rfl⟩ fun H' hh2 => ?_
    exact hcall_0 (R := fun v H' => ∃ (k : Int) (p t : ByteArray) (m : Int) (f : Nat) (q n : Int) (a : Option Addr) (l c : Nat), v = .agg #[.int .i64 k, .string p, .string t, .int .i64 m, .float .f64 f, .int .i64 q, .int .i64 n, .slice a l c] ∧ AllOk H.size H' callS [.int .i64 k, .string p, .string t, .int .i64 m, .float .f64 f, .int .i64 q, .int .i64 n, .slice a l c] ∧ Ext [] H H') fin h0 hw hs hh2
end Go.Proofs
end

section
open Go Go.Vc
namespace Go.Proofs
theorem ex_name {H0 H : Heap} {b1 : Nat} {xs : List Value} {X : ByteArray → Heap → Prop} {n : Int} (h : EX H0 H b1 xs) (k : ∀ t, t.size ≤ 100 → X t H) : Does Tryz.prog 46 [.int .i64 n] H fun v H' => ∃ t : ByteArray, v = .string t ∧ X t H' := by
  refine (pname_ok n h.g).mono ?_
  rintro _ _ ⟨⟨t, rfl, ht⟩, rfl⟩
  exact ⟨t, rfl, k t ht⟩
theorem hx_call {H0 H : Heap} {b1 N b : Nat} {xs : List Value} {ss : List Sr} {X : Int → ByteArray → ByteArray → Int → Nat → Int → Int → Option Addr → Nat → Nat → Heap → Prop} {x0 x1 x2 x3 x4 x5 x6 x7 : Int} {w : Nat} {a : Option Addr} {l c : Nat} {s : ByteArray}
    (h : HX H0 H b1 xs N b ss) (h0 : In64 x0) (hw : w < 18446744073709551616) (hs : s.size ≤ 10000000) (hm : Value.slice a l c ∈ xs)
    (k : ∀ k p t m f q n a l c H', HX H0 H' b1 xs N b ss → AllOk N H' callS [.int .i64 k, .string p, .string t, .int .i64 m, .float .f64 f, .int .i64 q, .int .i64 n, .slice a l c] → X k p t m f q n a l c H') :
    Does Tryz.prog 47 [.agg #[.int .i64 x0, .int .i64 x1, .int .i64 x2, .int .i64 x3, .int .i64 x4, .int .i64 x5, .int .i64 x6, .int .i64 x7, .float .f64 w, .slice a l c, .string s]] H fun v H' => ∃ k : Int, ∃ p : ByteArray, ∃ t : ByteArray, ∃ m : Int, ∃ f : Nat, ∃ q : Int, ∃ n : Int, ∃ a : Option Addr, ∃ l : Nat, ∃ c : Nat, v = .agg #[.int .i64 k, .string p, .string t, .int .i64 m, .float .f64 f, .int .i64 q, .int .i64 n, .slice a l c] ∧ X k p t m f q n a l c H' := by
  obtain ⟨bs, h1, h2⟩ := h.rows _ _ _ hm
  refine (hcall_ok h.g x0 x1 x2 x3 x4 x5 x6 x7 h0 hw ⟨bs, srow_ext h1 h.ext, h2⟩ hs).mono ?_
  rintro _ H' ⟨k0, p, t, m, f, q, n, a, l, c, rfl, ha, hx⟩
  exact ⟨k0, p, t, m, f, q, n, a, l, c, rfl, k _ _ _ _ _ _ _ _ _ _ _ (h.more hx) (ha.mono h.sz)⟩
abbrev rawE (x0 x1 x2 x3 x4 y0 y1 y2 y3 y4 y5 y6 y7 : Int) (w : Nat) (a : Option Addr) (l c : Nat) (s : ByteArray) (ma : Option Addr) (ml mc : Nat) : List Value := [.int .i64 x0, .int .i64 x1, .int .i64 x2, .int .i64 x3, .int .i64 x4, .int .i64 y0, .int .i64 y1, .int .i64 y2, .int .i64 y3, .int .i64 y4, .int .i64 y5, .int .i64 y6, .int .i64 y7, .float .f64 w, .slice a l c, .string s, .slice ma ml mc]
section
variable {R : Value → Heap → Prop} {H4 : Heap} {b1 b3 : Nat} {x0 x1 x2 x3 x4 y0 y1 y2 y3 y4 y5 y6 y7 : Int} {w : Nat} {a : Option Addr} {l c : Nat} {s : ByteArray} {ma : Option Addr} {ml mc : Nat} {x1b : Bool}
theorem make_0 (fin : ∀ {H118 : Heap} {N b9 : Nat}, HX H4 H118 b1 (rawE x0 x1 x2 x3 x4 y0 y1 y2 y3 y4 y5 y6 y7 w a l c s ma ml mc) N b9 evS → ∃ n119 : Int, hcell H118 b9 0 = some (.int .i64 n119) ∧ ( ∃ s120 : ByteArray, hcell H118 b9 (0 + 1) = some (.string s120) ∧ ( ∃ s121 : ByteArray, hcell H118 b9 ((0 + 1) + 1) = some (.string s121) ∧ ( ∃ s122 : ByteArray, hcell H118 b9 (((0 + 1) + 1) + 1) = some (.string s122) ∧ ( ∃ n123 : Int, hcell H118 b9 ((((0 + 1) + 1) + 1) + 1) = some (.int .i64 n123) ∧ ( ∃ s124 : ByteArray, hcell H118 b9 (((((0 + 1) + 1) + 1) + 1) + 1) = some (.string s124) ∧ ( ∃ s125 : ByteArray, hcell H118 b9 ((((((0 + 1) + 1) + 1) + 1) + 1) + 1) = some (.string s125) ∧ ( ∃ n126 : Int, hcell H118 b9 (((((((0 + 1) + 1) + 1) + 1) + 1) + 1) + 1) = some (.int .i64 n126) ∧ ( ∃ f127 : Nat, hcell H118 b9 ((((((((0 + 1) + 1) + 1) + 1) + 1) + 1) + 1) + 1) = some (.float .f64 f127) ∧ ( ∃ n128 : Int, hcell H118 b9 (((((((((0 + 1) + 1) + 1) + 1) + 1) + 1) + 1) + 1) + 1) = some (.int .i64 n128) ∧ ( ∃ n129 : Int, hcell H118 b9 ((((((((((0 + 1) + 1) + 1) + 1) + 1) + 1) + 1) + 1) + 1) + 1) = some (.int .i64 n129) ∧ ( ∃ a130 : Option Addr, ∃ l131 : Nat, ∃ c132 : Nat, hcell H118 b9 (((((((((((0 + 1) + 1) + 1) + 1) + 1) + 1) + 1) + 1) + 1) + 1) + 1) = some (.slice a130 l131 c132) ∧ ( ∃ n133 : Int, hcell H118 b9 ((((((((((((0 + 1) + 1) + 1) + 1) + 1) + 1) + 1) + 1) + 1) + 1) + 1) + 1) = some (.int .i64 n133) ∧ ( ∃ a134 : Option Addr, ∃ l135 : Nat, ∃ c136 : Nat, hcell H118 b9 (((((((((((((0 + 1) + 1) + 1) + 1) + 1) + 1) + 1) + 1) + 1) + 1) + 1) + 1) + 1) = some (.slice a134 l135 c136) ∧ ( Cells H118 b3 0 14 ∧ ∀ H137 : Heap, Puts H118 b3 0 [(.int .i64 n119), (.string s120), (.string s121), (.string s122), (.int .i64 n123), (.string s124), (.string s125), (.int .i64 n126), (.float .f64 f127), (.int .i64 n128), (.int .i64 n129), (.slice a130 l131 c132), (.int .i64 n133), (.slice a134 l135 c136)] H137 → ( ∃ n138 : Int, hcell H137 b3 0 = some (.int .i64 n138) ∧ ( ∃ s139 : ByteArray, hcell H137 b3 (0 + 1) = some (.string s139) ∧ ( ∃ s140 : ByteArray, hcell H137 b3 ((0 + 1) + 1) = some (.string s140) ∧ ( ∃ s141 : ByteArray, hcell H137 b3 (((0 + 1) + 1) + 1) = some (.string s141) ∧ ( ∃ n142 : Int, hcell H137 b3 ((((0 + 1) + 1) + 1) + 1) = some (.int .i64 n142) ∧ ( ∃ s143 : ByteArray, hcell H137 b3 (((((0 + 1) + 1) + 1) + 1) + 1) = some (.string s143) ∧ ( ∃ s144 : ByteArray, hcell H137 b3 ((((((0 + 1) + 1) + 1) + 1) + 1) + 1) = some (.string s144) ∧ ( ∃ n145 : Int, hcell H137 b3 (((((((0 + 1) + 1) + 1) + 1) + 1) + 1) + 1) = some (.int .i64 n145) ∧ ( ∃ f146 : Nat, hcell H137 b3 ((((((((0 + 1) + 1) + 1) + 1) + 1) + 1) + 1) + 1) = some (.float .f64 f146) ∧ ( ∃ n147 : Int, hcell H137 b3 (((((((((0 + 1) + 1) + 1) + 1) + 1) + 1) + 1) + 1) + 1) = some (.int .i64 n147) ∧ ( ∃ n148 : Int, hcell H137 b3 ((((((((((0 + 1) + 1) + 1) + 1) + 1) + 1) + 1) + 1) + 1) + 1) = some (.int .i64 n148) ∧ ( ∃ a149 : Option Addr, ∃ l150 : Nat, ∃ c151 : Nat, hcell H137 b3 (((((((((((0 + 1) + 1) + 1) + 1) + 1) + 1) + 1) + 1) + 1) + 1) + 1) = some (.slice a149 l150 c151) ∧ ( ∃ n152 : Int, hcell H137 b3 ((((((((((((0 + 1) + 1) + 1) + 1) + 1) + 1) + 1) + 1) + 1) + 1) + 1) + 1) = some (.int .i64 n152) ∧ ( ∃ a153 : Option Addr, ∃ l154 : Nat, ∃ c155 : Nat, hcell H137 b3 (((((((((((((0 + 1) + 1) + 1) + 1) + 1) + 1) + 1) + 1) + 1) + 1) + 1) + 1) + 1) = some (.slice a153 l154 c155) ∧ ( R (.agg #[(.int .i64 n138), (.string s139), (.string s140), (.string s141), (.int .i64 n142), (.string s143), (.string s144), (.int .i64 n145), (.float .f64 f146), (.int .i64 n147), (.int .i64 n148), (.slice a149 l150 c151), (.int .i64 n152), (.slice a153 l154 c155)]) H137)))))))))))))))))))))))))))))) (h0 : In64 y0) (hw : w < 18446744073709551616) (hs : s.size ≤ 10000000) {H11 : Heap} {N b9 : Nat} (h : HX H4 H11 b1 (rawE x0 x1 x2 x3 x4 y0 y1 y2 y3 y4 y5 y6 y7 w a l c s ma ml mc) N b9 evS) :
    ∃ I12 : Heap → Prop, ( ∃ n13 : Int, hcell H11 b1 0 = some (.int .i64 n13) ∧ ( Does Tryz.prog 8 [(.int .i64 n13), (.int .i64 25)] H11 fun v14 H15 => ∃ n16 : Int, v14 = (.int .i64 n16) ∧ ( ((((n16 : Int) < 12) → ( Cells H15 b9 0 1 ∧ ∀ H17 : Heap, Puts H15 b9 0 [(.int .i64 1)] H17 → ( ∃ n18 : Int, hcell H17 b1 (0 + 5) = some (.int .i64 n18) ∧ ( ∃ n19 : Int, hcell H17 b1 ((0 + 5) + 1) = some (.int .i64 n19) ∧ ( ∃ n20 : Int, hcell H17 b1 (((0 + 5) + 1) + 1) = some (.int .i64 n20) ∧ ( ∃ n21 : Int, hcell H17 b1 ((((0 + 5) + 1) + 1) + 1) = some (.int .i64 n21) ∧ ( ∃ n22 : Int, hcell H17 b1 (((((0 + 5) + 1) + 1) + 1) + 1) = some (.int .i64 n22) ∧ ( ∃ n23 : Int, hcell H17 b1 ((((((0 + 5) + 1) + 1) + 1) + 1) + 1) = some (.int .i64 n23) ∧ ( ∃ n24 : Int, hcell H17 b1 (((((((0 + 5) + 1) + 1) + 1) + 1) + 1) + 1) = some (.int .i64 n24) ∧ ( ∃ n25 : Int, hcell H17 b1 ((((((((0 + 5) + 1) + 1) + 1) + 1) + 1) + 1) + 1) = some (.int .i64 n25) ∧ ( ∃ f26 : Nat, hcell H17 b1 (((((((((0 + 5) + 1) + 1) + 1) + 1) + 1) + 1) + 1) + 1) = some (.float .f64 f26) ∧ ( ∃ a27 : Option Addr, ∃ l28 : Nat, ∃ c29 : Nat, hcell H17 b1 ((((((((((0 + 5) + 1) + 1) + 1) + 1) + 1) + 1) + 1) + 1) + 1) = some (.slice a27 l28 c29) ∧ ( ∃ s30 : ByteArray, hcell H17 b1 (((((((((((0 + 5) + 1) + 1) + 1) + 1) + 1) + 1) + 1) + 1) + 1) + 1) = some (.string s30) ∧ ( Does Tryz.prog 47 [(.agg #[(.int .i64 n18), (.int .i64 n19), (.int .i64 n20), (.int .i64 n21), (.int .i64 n22), (.int .i64 n23), (.int .i64 n24), (.int .i64 n25), (.float .f64 f26), (.slice a27 l28 c29), (.string s30)])] H17 fun v31 H32 => ∃ n33 : Int, ∃ s34 : ByteArray, ∃ s35 : ByteArray, ∃ n36 : Int, ∃ f37 : Nat, ∃ n38 : Int, ∃ n39 : Int, ∃ a40 : Option Addr, ∃ l41 : Nat, ∃ c42 : Nat, v31 = (.agg #[(.int .i64 n33), (.string s34), (.string s35), (.int .i64 n36), (.float .f64 f37), (.int .i64 n38), (.int .i64 n39), (.slice a40 l41 c42)]) ∧ ( Cells H32 b9 (0 + 4) 8 ∧ ∀ H43 : Heap, Puts H32 b9 (0 + 4) [(.int .i64 n33), (.string s34), (.string s35), (.int .i64 n36), (.float .f64 f37), (.int .i64 n38), (.int .i64 n39), (.slice a40 l41 c42)] H43 → ( ∃ n44 : Int, hcell H43 b1 (0 + 1) = some (.int .i64 n44) ∧ ( ((3 : Int) ≠ 0) ∧ ∀ q45 : Int, q45 = Int.tmod n44 3 → ( ((((0 : Int) < q45) → ( Cells H43 b9 (0 + 1) 1 ∧ ∀ H46 : Heap, Puts H43 b9 (0 + 1) [(.string (ByteArray.mk #[109, 97, 105, 110]))] H46 → ( I12 H46))) ∧ (¬ ((0 : Int) < q45) → ( I12 H43))))))))))))))))))))) ∧ (¬ ((n16 : Int) < 12) → ( ((((n16 : Int) < 14) → ( Cells H15 b9 0 1 ∧ ∀ H47 : Heap, Puts H15 b9 0 [(.int .i64 2)] H47 → ( ∃ n48 : Int, hcell H47 b1 (0 + 2) = some (.int .i64 n48) ∧ ( Does Tryz.prog 46 [(.int .i64 n48)] H47 fun v49 H50 => ∃ s51 : ByteArray, v49 = (.string s51) ∧ ( Cells H50 b9 (0 + 2) 1 ∧ ∀ H52 : Heap, Puts H50 b9 (0 + 2) [(.string s51)] H52 → ( ∃ n53 : Int, hcell H52 b1 (0 + 1) = some (.int .i64 n53) ∧ ( ((2 : Int) ≠ 0) ∧ ∀ q54 : Int, q54 = Int.tmod n53 2 → ( ((((q54 : Int) = 0) → ( Cells H52 b9 (0 + 1) 1 ∧ ∀ H55 : Heap, Puts H52 b9 (0 + 1) [(.string (ByteArray.mk #[109, 97, 105, 110]))] H55 → ( I12 H55))) ∧ (¬ ((q54 : Int) = 0) → ( I12 H52))))))))))) ∧ (¬ ((n16 : Int) < 14) → ( ((((n16 : Int) < 16) → ( Cells H15 b9 0 1 ∧ ∀ H56 : Heap, Puts H15 b9 0 [(.int .i64 3)] H56 → ( ∃ n57 : Int, hcell H56 b1 (0 + 2) = some (.int .i64 n57) ∧ ( Does Tryz.prog 46 [(.int .i64 n57)] H56 fun v58 H59 => ∃ s60 : ByteArray, v58 = (.string s60) ∧ ( Cells H59 b9 (0 + 2) 1 ∧ ∀ H61 : Heap, Puts H59 b9 (0 + 2) [(.string s60)] H61 → ( I12 H61)))))) ∧ (¬ ((n16 : Int) < 16) → ( ((((n16 : Int) = 16) → ( Cells H15 b9 0 1 ∧ ∀ H62 : Heap, Puts H15 b9 0 [(.int .i64 4)] H62 → ( ∃ n63 : Int, hcell H62 b1 (0 + 2) = some (.int .i64 n63) ∧ ( Does Tryz.prog 46 [(.int .i64 n63)] H62 fun v64 H65 => ∃ s66 : ByteArray, v64 = (.string s66) ∧ ( Cells H65 b9 (0 + 2) 1 ∧ ∀ H67 : Heap, Puts H65 b9 (0 + 2) [(.string s66)] H67 → ( I12 H67)))))) ∧ (¬ ((n16 : Int) = 16) → ( ((((n16 : Int) = 17) → ( Cells H15 b9 0 1 ∧ ∀ H68 : Heap, Puts H15 b9 0 [(.int .i64 5)] H68 → ( ∃ n69 : Int, hcell H68 b1 (0 + 2) = some (.int .i64 n69) ∧ ( Does Tryz.prog 46 [(.int .i64 n69)] H68 fun v70 H71 => ∃ s72 : ByteArray, v70 = (.string s72) ∧ ( Cells H71 b9 (0 + 2) 1 ∧ ∀ H73 : Heap, Puts H71 b9 (0 + 2) [(.string s72)] H73 → ( ∃ n74 : Int, hcell H73 b1 (0 + 3) = some (.int .i64 n74) ∧ ( Does Tryz.prog 46 [(.int .i64 n74)] H73 fun v75 H76 => ∃ s77 : ByteArray, v75 = (.string s77) ∧ ( Cells H76 b9 (0 + 3) 1 ∧ ∀ H78 : Heap, Puts H76 b9 (0 + 3) [(.string s77)] H78 → ( I12 H78))))))))) ∧ (¬ ((n16 : Int) = 17) → ( ((((n16 : Int) < 20) → ( Cells H15 b9 0 1 ∧ ∀ H79 : Heap, Puts H15 b9 0 [(.int .i64 6)] H79 → ( ∃ n80 : Int, hcell H79 b1 (0 + 2) = some (.int .i64 n80) ∧ ( Does Tryz.prog 46 [(.int .i64 n80)] H79 fun v81 H82 => ∃ s83 : ByteArray, v81 = (.string s83) ∧ ( Cells H82 b9 (0 + 2) 1 ∧ ∀ H84 : Heap, Puts H82 b9 (0 + 2) [(.string s83)] H84 → ( ∃ n85 : Int, hcell H84 b1 (0 + 3) = some (.int .i64 n85) ∧ ( Does Tryz.prog 46 [(.int .i64 n85)] H84 fun v86 H87 => ∃ s88 : ByteArray, v86 = (.string s88) ∧ ( Cells H87 b9 (0 + 3) 1 ∧ ∀ H89 : Heap, Puts H87 b9 (0 + 3) [(.string s88)] H89 → ( I12 H89))))))))) ∧ (¬ ((n16 : Int) < 20) → ( ((((n16 : Int) = 20) → ( Cells H15 b9 0 1 ∧ ∀ H90 : Heap, Puts H15 b9 0 [(.int .i64 7)] H90 → ( ∃ n91 : Int, hcell H90 b1 (0 + 2) = some (.int .i64 n91) ∧ ( Does Tryz.prog 46 [(.int .i64 n91)] H90 fun v92 H93 => ∃ s94 : ByteArray, v92 = (.string s94) ∧ ( Cells H93 b9 (0 + 2) 1 ∧ ∀ H95 : Heap, Puts H93 b9 (0 + 2) [(.string s94)] H95 → ( I12 H95)))))) ∧ (¬ ((n16 : Int) = 20) → ( ((((n16 : Int) = 21) → ( Cells H15 b9 0 1 ∧ ∀ H96 : Heap, Puts H15 b9 0 [(.int .i64 8)] H96 → ( ∃ n97 : Int, hcell H96 b1 (0 + 2) = some (.int .i64 n97) ∧ ( ((3 : Int) ≠ 0) ∧ ∀ q98 : Int, q98 = Int.tmod n97 3 → ( ((((0 : Int) < q98) → ( Cells H96 b9 0 1 ∧ ∀ H99 : Heap, Puts H96 b9 0 [(.int .i64 9)] H99 → ( I12 H99))) ∧ (¬ ((0 : Int) < q98) → ( I12 H96)))))))) ∧ (¬ ((n16 : Int) = 21) → ( ((((n16 : Int) = 22) → ( Cells H15 b9 0 1 ∧ ∀ H100 : Heap, Puts H15 b9 0 [(.int .i64 9)] H100 → ( I12 H100))) ∧ (¬ ((n16 : Int) = 22) → ( (((x1b = false) → ( Cells H15 b9 0 1 ∧ ∀ H101 : Heap, Puts H15 b9 0 [(.int .i64 9)] H101 → ( I12 H101))) ∧ (¬ (x1b = false) → ( ((((n16 : Int) = 23) → ( Cells H15 b9 0 1 ∧ ∀ H102 : Heap, Puts H15 b9 0 [(.int .i64 11)] H102 → ( ∃ a103 : Option Addr, ∃ l104 : Nat, ∃ c105 : Nat, hcell H102 b1 (0 + 16) = some (.slice a103 l104 c105) ∧ ( Does Tryz.prog 48 [(.slice a103 l104 c105), (.int .i64 60)] H102 fun v106 H107 => ∃ a108 : Option Addr, ∃ l109 : Nat, ∃ c110 : Nat, v106 = (.slice a108 l109 c110) ∧ ( Cells H107 b9 (0 + 13) 1 ∧ ∀ H111 : Heap, Puts H107 b9 (0 + 13) [(.slice a108 l109 c110)] H111 → ( I12 H111)))))) ∧ (¬ ((n16 : Int) = 23) → ( Cells H15 b9 0 1 ∧ ∀ H112 : Heap, Puts H15 b9 0 [(.int .i64 10)] H112 → ( ∃ n113 : Int, hcell H112 b1 (0 + 4) = some (.int .i64 n113) ∧ ( Does Tryz.prog 8 [(.int .i64 n113), (.int .i64 40)] H112 fun v114 H115 => ∃ n116 : Int, v114 = (.int .i64 n116) ∧ ( Cells H115 b9 (0 + 12) 1 ∧ ∀ H117 : Heap, Puts H115 b9 (0 + 12) [(.int .i64 n116)] H117 → ( I12 H117)))))))))))))))))))))))))))))))))))))))) ∧ ∀ H118 : Heap, I12 H118 → ( ∃ n119 : Int, hcell H118 b9 0 = some (.int .i64 n119) ∧ ( ∃ s120 : ByteArray, hcell H118 b9 (0 + 1) = some (.string s120) ∧ ( ∃ s121 : ByteArray, hcell H118 b9 ((0 + 1) + 1) = some (.string s121) ∧ ( ∃ s122 : ByteArray, hcell H118 b9 (((0 + 1) + 1) + 1) = some (.string s122) ∧ ( ∃ n123 : Int, hcell H118 b9 ((((0 + 1) + 1) + 1) + 1) = some (.int .i64 n123) ∧ ( ∃ s124 : ByteArray, hcell H118 b9 (((((0 + 1) + 1) + 1) + 1) + 1) = some (.string s124) ∧ ( ∃ s125 : ByteArray, hcell H118 b9 ((((((0 + 1) + 1) + 1) + 1) + 1) + 1) = some (.string s125) ∧ ( ∃ n126 : Int, hcell H118 b9 (((((((0 + 1) + 1) + 1) + 1) + 1) + 1) + 1) = some (.int .i64 n126) ∧ ( ∃ f127 : Nat, hcell H118 b9 ((((((((0 + 1) + 1) + 1) + 1) + 1) + 1) + 1) + 1) = some (.float .f64 f127) ∧ ( ∃ n128 : Int, hcell H118 b9 (((((((((0 + 1) + 1) + 1) + 1) + 1) + 1) + 1) + 1) + 1) = some (.int .i64 n128) ∧ ( ∃ n129 : Int, hcell H118 b9 ((((((((((0 + 1) + 1) + 1) + 1) + 1) + 1) + 1) + 1) + 1) + 1) = some (.int .i64 n129) ∧ ( ∃ a130 : Option Addr, ∃ l131 : Nat, ∃ c132 : Nat, hcell H118 b9 (((((((((((0 + 1) + 1) + 1) + 1) + 1) + 1) + 1) + 1) + 1) + 1) + 1) = some (.slice a130 l131 c132) ∧ ( ∃ n133 : Int, hcell H118 b9 ((((((((((((0 + 1) + 1) + 1) + 1) + 1) + 1) + 1) + 1) + 1) + 1) + 1) + 1) = some (.int .i64 n133) ∧ ( ∃ a134 : Option Addr, ∃ l135 : Nat, ∃ c136 : Nat, hcell H118 b9 (((((((((((((0 + 1) + 1) + 1) + 1) + 1) + 1) + 1) + 1) + 1) + 1) + 1) + 1) + 1) = some (.slice a134 l135 c136) ∧ ( Cells H118 b3 0 14 ∧ ∀ H137 : Heap, Puts H118 b3 0 [(.int .i64 n119), (.string s120), (.string s121), (.string s122), (.int .i64 n123), (.string s124), (.string s125), (.int .i64 n126), (.float .f64 f127), (.int .i64 n128), (.int .i64 n129), (.slice a130 l131 c132), (.int .i64 n133), (.slice a134 l135 c136)] H137 → ( ∃ n138 : Int, hcell H137 b3 0 = some (.int .i64 n138) ∧ ( ∃ s139 : ByteArray, hcell H137 b3 (0 + 1) = some (.string s139) ∧ ( ∃ s140 : ByteArray, hcell H137 b3 ((0 + 1) + 1) = some (.string s140) ∧ ( ∃ s141 : ByteArray, hcell H137 b3 (((0 + 1) + 1) + 1) = some (.string s141) ∧ ( ∃ n142 : Int, hcell H137 b3 ((((0 + 1) + 1) + 1) + 1) = some (.int .i64 n142) ∧ ( ∃ s143 : ByteArray, hcell H137 b3 (((((0 + 1) + 1) + 1) + 1) + 1) = some (.string s143) ∧ ( ∃ s144 : ByteArray, hcell H137 b3 ((((((0 + 1) + 1) + 1) + 1) + 1) + 1) = some (.string s144) ∧ ( ∃ n145 : Int, hcell H137 b3 (((((((0 + 1) + 1) + 1) + 1) + 1) + 1) + 1) = some (.int .i64 n145) ∧ ( ∃ f146 : Nat, hcell H137 b3 ((((((((0 + 1) + 1) + 1) + 1) + 1) + 1) + 1) + 1) = some (.float .f64 f146) ∧ ( ∃ n147 : Int, hcell H137 b3 (((((((((0 + 1) + 1) + 1) + 1) + 1) + 1) + 1) + 1) + 1) = some (.int .i64 n147) ∧ ( ∃ n148 : Int, hcell H137 b3 ((((((((((0 + 1) + 1) + 1) + 1) + 1) + 1) + 1) + 1) + 1) + 1) = some (.int .i64 n148) ∧ ( ∃ a149 : Option Addr, ∃ l150 : Nat, ∃ c151 : Nat, hcell H137 b3 (((((((((((0 + 1) + 1) + 1) + 1) + 1) + 1) + 1) + 1) + 1) + 1) + 1) = some (.slice a149 l150 c151) ∧ ( ∃ n152 : Int, hcell H137 b3 ((((((((((((0 + 1) + 1) + 1) + 1) + 1) + 1) + 1) + 1) + 1) + 1) + 1) + 1) = some (.int .i64 n152) ∧ ( ∃ a153 : Option Addr, ∃ l154 : Nat, ∃ c155 : Nat, hcell H137 b3 (((((((((((((0 + 1) + 1) + 1) + 1) + 1) + 1) + 1) + 1) + 1) + 1) + 1) + 1) + 1) = some (.slice a153 l154 c155) ∧ ( R (.agg #[(.int .i64 n138), (.string s139), (.string s140), (.string s141), (.int .i64 n142), (.string s143), (.string s144), (.int .i64 n145), (.float .f64 f146), (.int .i64 n147), (.int .i64 n148), (.slice a149 l150 c151), (.int .i64 n152), (.slice a153 l154 c155)]) H137)))))))))))))))))))))))))))))) := by
  refine hx_cut h ?_ fun H' _ => ?_
  · clear fin
    repeat' first
      | assumption
      | refine hx_pick ⟨by decide, by decide⟩ fun r _ _ => ?_
      | refine hx_name (by assumption) fun t _ => ?_
      | refine hx_call (by assumption) (by assumption) (by assumption) (by assumption) (by simp) fun k p t m f q n a' l' c' H' _ _ => ?_
      | refine hx_all callS (by assumption) (by rfl) (by assumption) ⟨[.i, .r], by rfl⟩ fun H' _ => ?_
      | refine hx_lr (by assumption) (by rfl) ?_
      | refine hx_lf (by assumption) (by rfl) ?_
      | refine hx_ls (by assumption) (by rfl) ?_
      | refine hx_li (by assumption) (by rfl) ?_
      | refine hx_few (by assumption) (by simp) 60 (by rfl) (by decide) fun a' l' c' H' _ _ => ?_
      | refine hx_pi (by assumption) (by rfl) (by first | assumption | exact ⟨by omega, by omega⟩) fun H' _ => ?_
      | refine hx_ps (by assumption) (by rfl) (by first | omega | decide) fun H' _ => ?_
      | refine hx_pr (by assumption) (by rfl) (by assumption) fun H' _ => ?_
      | refine ⟨by decide, fun q _ => ?_⟩
      | refine br (fun _ => ?_) (fun _ => ?_)
  · exact fin (by assumption)
end
set_option maxHeartbeats 4000000 in
theorem make_ok {H : Heap} (g : Glob H) (x0 x1 x2 x3 x4 y0 y1 y2 y3 y4 y5 y6 y7 : Int) {w : Nat} (h0 : In64 y0) (hw : w < 18446744073709551616) {a : Option Addr} {l c : Nat} (hr : ∃ bs, SRow H 1 l (.slice a l c) (bytesV bs) ∧ l ≤ c) {s : ByteArray} (hs : s.size ≤ 10000000) {ma : Option Addr} {ml mc : Nat} (hr2 : ∃ bs, SRow H 1 ml (.slice ma ml mc) (bytesV bs) ∧ ml ≤ mc) (x1b : Bool) :
    Does Tryz.prog 22 [.agg #[.int .i64 x0, .int .i64 x1, .int .i64 x2, .int .i64 x3, .int .i64 x4, .int .i64 y0, .int .i64 y1, .int .i64 y2, .int .i64 y3, .int .i64 y4, .int .i64 y5, .int .i64 y6, .int .i64 y7, .float .f64 w, .slice a l c, .string s, .slice ma ml mc], .bool x1b] H fun v H' => ∃ (e : Ev) (da : Option Addr) (dl dc : Nat) (ma : Option Addr) (ml mc : Nat), v = evA e da dl dc ma ml mc ∧ EvOk e ∧ Rows H' e da dl dc ma ml mc ∧ (∀ k ∈ blkOf da, H.size ≤ k) ∧ (∀ k ∈ blkOf ma, H.size ≤ k) ∧ Ext [] H H' := by
  refine Fn_of_vc Tryz.mixed (MakeV _ _ _ _ _ _ _ _ _ _ _ _ _ _ _ _ _ _ _ _ _ _ _ _) ?_
  intro b1 H2 hn1 b3 H4 hn3
  have hx4 : Ext [] H H4 := hn1.ext.trans hn3.ext
  have s2 := hn1.size
  have s4 := hn3.size
  have e3 := hn3.eq
  have ex4 : EX H4 H4 b1 [.int .i64 x0, .int .i64 x1, .int .i64 x2, .int .i64 x3, .int .i64 x4, .int .i64 y0, .int .i64 y1, .int .i64 y2, .int .i64 y3, .int .i64 y4, .int .i64 y5, .int .i64 y6, .int .i64 y7, .float .f64 w, .slice a l c, .string s, .slice ma ml mc] := ⟨hn1.blk.ext hn3.ext (by simp), Ext.refl _ _, g.ext hx4, fun a' l' c' hm => by
    have e : Value.slice a' l' c' = .slice a l c ∨ Value.slice a' l' c' = .slice ma ml mc := by simpa using hm
    rcases e with e | e
    · cases e
      obtain ⟨bs, h1, h2⟩ := hr
      exact ⟨bs, srow_ext h1 hx4, h2⟩
    · cases e
      obtain ⟨bs, h1, h2⟩ := hr2
      exact ⟨bs, srow_ext h1 hx4, h2⟩⟩
  have zero : ∀ N H', AllOk N H' evS [.int .i64 0, .string (ByteArray.mk #[]), .string (ByteArray.mk #[]), .string (ByteArray.mk #[]), .int .i64 0, .string (ByteArray.mk #[]), .string (ByteArray.mk #[]), .int .i64 0, .float .f64 0, .int .i64 0, .int .i64 0, .slice none 0 0, .int .i64 0, .slice none 0 0] := fun N H' => ⟨⟨0, rfl, by decide, by decide⟩, ⟨_, rfl, by decide⟩, ⟨_, rfl, by decide⟩, ⟨_, rfl, by decide⟩, ⟨0, rfl, by decide, by decide⟩, ⟨_, rfl, by decide⟩, ⟨_, rfl, by decide⟩, ⟨0, rfl, by decide, by decide⟩, ⟨0, rfl, by decide⟩, ⟨0, rfl, by decide, by decide⟩, ⟨0, rfl, by decide, by decide⟩, ⟨none, 0, 0, [], rfl, ⟨rfl, rfl⟩, by decide, by simp [blkOf]⟩, ⟨0, rfl, by decide, by decide⟩, ⟨none, 0, 0, [], rfl, ⟨rfl, rfl⟩, by decide, by simp [blkOf]⟩, trivial⟩
  have one : ∀ N H' (p : ByteArray), p.size ≤ 1000 → AllOk N H' evS [.int .i64 0, .string p, .string (ByteArray.mk #[]), .string (ByteArray.mk #[]), .int .i64 0, .string (ByteArray.mk #[]), .string (ByteArray.mk #[]), .int .i64 0, .float .f64 0, .int .i64 0, .int .i64 0, .slice none 0 0, .int .i64 0, .slice none 0 0] := fun N H' p hp => ⟨⟨0, rfl, by decide, by decide⟩, ⟨p, rfl, by omega⟩, ⟨_, rfl, by decide⟩, ⟨_, rfl, by decide⟩, ⟨0, rfl, by decide, by decide⟩, ⟨_, rfl, by decide⟩, ⟨_, rfl, by decide⟩, ⟨0, rfl, by decide, by decide⟩, ⟨0, rfl, by decide⟩, ⟨0, rfl, by decide, by decide⟩, ⟨0, rfl, by decide, by decide⟩, ⟨none, 0, 0, [], rfl, ⟨rfl, rfl⟩, by decide, by simp [blkOf]⟩, ⟨0, rfl, by decide, by decide⟩, ⟨none, 0, 0, [], rfl, ⟨rfl, rfl⟩, by decide, by simp [blkOf]⟩, trivial⟩
  have fin : ∀ {H91 : Heap} {N b : Nat}, HX H4 H91 b1 (rawE x0 x1 x2 x3 x4 y0 y1 y2 y3 y4 y5 y6 y7 w a l c s ma ml mc) N b evS →
    ∃ m0 : Int, hcell H91 b 0 = some (.int .i64 m0) ∧ (
    ∃ m1 : ByteArray, hcell H91 b (0 + 1) = some (.string m1) ∧ (
    ∃ m2 : ByteArray, hcell H91 b ((0 + 1) + 1) = some (.string m2) ∧ (
    ∃ m3 : ByteArray, hcell H91 b (((0 + 1) + 1) + 1) = some (.string m3) ∧ (
    ∃ m4 : Int, hcell H91 b ((((0 + 1) + 1) + 1) + 1) = some (.int .i64 m4) ∧ (
    ∃ m5 : ByteArray, hcell H91 b (((((0 + 1) + 1) + 1) + 1) + 1) = some (.string m5) ∧ (
    ∃ m6 : ByteArray, hcell H91 b ((((((0 + 1) + 1) + 1) + 1) + 1) + 1) = some (.string m6) ∧ (
    ∃ m7 : Int, hcell H91 b (((((((0 + 1) + 1) + 1) + 1) + 1) + 1) + 1) = some (.int .i64 m7) ∧ (
    ∃ m8 : Nat, hcell H91 b ((((((((0 + 1) + 1) + 1) + 1) + 1) + 1) + 1) + 1) = some (.float .f64 m8) ∧ (
    ∃ m9 : Int, hcell H91 b (((((((((0 + 1) + 1) + 1) + 1) + 1) + 1) + 1) + 1) + 1) = some (.int .i64 m9) ∧ (
    ∃ m10 : Int, hcell H91 b ((((((((((0 + 1) + 1) + 1) + 1) + 1) + 1) + 1) + 1) + 1) + 1) = some (.int .i64 m10) ∧ (
    ∃ m11a : Option Addr, ∃ m11l : Nat, ∃ m11c : Nat, hcell H91 b (((((((((((0 + 1) + 1) + 1) + 1) + 1) + 1) + 1) + 1) + 1) + 1) + 1) = some (.slice m11a m11l m11c) ∧ (
    ∃ m12 : Int, hcell H91 b ((((((((((((0 + 1) + 1) + 1) + 1) + 1) + 1) + 1) + 1) + 1) + 1) + 1) + 1) = some (.int .i64 m12) ∧ (
    ∃ m13a : Option Addr, ∃ m13l : Nat, ∃ m13c : Nat, hcell H91 b (((((((((((((0 + 1) + 1) + 1) + 1) + 1) + 1) + 1) + 1) + 1) + 1) + 1) + 1) + 1) = some (.slice m13a m13l m13c) ∧ (
    Cells H91 b3 0 14 ∧ ∀ H98 : Heap, Puts H91 b3 0 [(.int .i64 m0), (.string m1), (.string m2), (.string m3), (.int .i64 m4), (.string m5), (.string m6), (.int .i64 m7), (.float .f64 m8), (.int .i64 m9), (.int .i64 m10), (.slice m11a m11l m11c), (.int .i64 m12), (.slice m13a m13l m13c)] H98 → (
    ∃ r0 : Int, hcell H98 b3 0 = some (.int .i64 r0) ∧ (
    ∃ r1 : ByteArray, hcell H98 b3 (0 + 1) = some (.string r1) ∧ (
    ∃ r2 : ByteArray, hcell H98 b3 ((0 + 1) + 1) = some (.string r2) ∧ (
    ∃ r3 : ByteArray, hcell H98 b3 (((0 + 1) + 1) + 1) = some (.string r3) ∧ (
    ∃ r4 : Int, hcell H98 b3 ((((0 + 1) + 1) + 1) + 1) = some (.int .i64 r4) ∧ (
    ∃ r5 : ByteArray, hcell H98 b3 (((((0 + 1) + 1) + 1) + 1) + 1) = some (.string r5) ∧ (
    ∃ r6 : ByteArray, hcell H98 b3 ((((((0 + 1) + 1) + 1) + 1) + 1) + 1) = some (.string r6) ∧ (
    ∃ r7 : Int, hcell H98 b3 (((((((0 + 1) + 1) + 1) + 1) + 1) + 1) + 1) = some (.int .i64 r7) ∧ (
    ∃ r8 : Nat, hcell H98 b3 ((((((((0 + 1) + 1) + 1) + 1) + 1) + 1) + 1) + 1) = some (.float .f64 r8) ∧ (
    ∃ r9 : Int, hcell H98 b3 (((((((((0 + 1) + 1) + 1) + 1) + 1) + 1) + 1) + 1) + 1) = some (.int .i64 r9) ∧ (
    ∃ r10 : Int, hcell H98 b3 ((((((((((0 + 1) + 1) + 1) + 1) + 1) + 1) + 1) + 1) + 1) + 1) = some (.int .i64 r10) ∧ (
    ∃ r11a : Option Addr, ∃ r11l : Nat, ∃ r11c : Nat, hcell H98 b3 (((((((((((0 + 1) + 1) + 1) + 1) + 1) + 1) + 1) + 1) + 1) + 1) + 1) = some (.slice r11a r11l r11c) ∧ (
    ∃ r12 : Int, hcell H98 b3 ((((((((((((0 + 1) + 1) + 1) + 1) + 1) + 1) + 1) + 1) + 1) + 1) + 1) + 1) = some (.int .i64 r12) ∧ (
    ∃ r13a : Option Addr, ∃ r13l : Nat, ∃ r13c : Nat, hcell H98 b3 (((((((((((((0 + 1) + 1) + 1) + 1) + 1) + 1) + 1) + 1) + 1) + 1) + 1) + 1) + 1) = some (.slice r13a r13l r13c) ∧ (
    ∃ (e : Ev) (da : Option Addr) (dl dc : Nat) (ma : Option Addr) (ml mc : Nat), .agg #[(.int .i64 r0), (.string r1), (.string r2), (.string r3), (.int .i64 r4), (.string r5), (.string r6), (.int .i64 r7), (.float .f64 r8), (.int .i64 r9), (.int .i64 r10), (.slice r11a r11l r11c), (.int .i64 r12), (.slice r13a r13l r13c)] = evA e da dl dc ma ml mc ∧ EvOk e ∧ Rows H98 e da dl dc ma ml mc ∧ (∀ k ∈ blkOf da, H.size ≤ k) ∧ (∀ k ∈ blkOf ma, H.size ≤ k) ∧ Ext [] H H98))))))))))))))))))))))))))))) := by
    intro H91 N b hh
    obtain ⟨hbn, vs, hb, ha⟩ := hh.obj
    obtain ⟨v0, r0, rfl, ⟨x0, rfl, h0⟩, ha0⟩ := all_cons ha
    obtain ⟨v1, r1, rfl, ⟨x1, rfl, h1⟩, ha1⟩ := all_cons ha0
    obtain ⟨v2, r2, rfl, ⟨x2, rfl, h2⟩, ha2⟩ := all_cons ha1
    obtain ⟨v3, r3, rfl, ⟨x3, rfl, h3⟩, ha3⟩ := all_cons ha2
    obtain ⟨v4, r4, rfl, ⟨x4, rfl, h4⟩, ha4⟩ := all_cons ha3
    obtain ⟨v5, r5, rfl, ⟨x5, rfl, h5⟩, ha5⟩ := all_cons ha4
    obtain ⟨v6, r6, rfl, ⟨x6, rfl, h6⟩, ha6⟩ := all_cons ha5
    obtain ⟨v7, r7, rfl, ⟨x7, rfl, h7⟩, ha7⟩ := all_cons ha6
    obtain ⟨v8, r8, rfl, ⟨x8, rfl, h8⟩, ha8⟩ := all_cons ha7
    obtain ⟨v9, r9, rfl, ⟨x9, rfl, h9⟩, ha9⟩ := all_cons ha8
    obtain ⟨v10, r10, rfl, ⟨x10, rfl, h10⟩, ha10⟩ := all_cons ha9
    obtain ⟨v11, r11, rfl, ⟨x11, l11, c11, bs11, rfl, h11⟩, ha11⟩ := all_cons ha10
    obtain ⟨v12, r12, rfl, ⟨x12, rfl, h12⟩, ha12⟩ := all_cons ha11
    obtain ⟨v13, r13, rfl, ⟨x13, l13, c13, bs13, rfl, h13⟩, ha13⟩ := all_cons ha12
    cases all_nil ha13
    have hr1 := hn3.blk.ext hh.ext (by simp)
    refine ⟨_, hb.cell _, _, hb.cell _, _, hb.cell _, _, hb.cell _, _, hb.cell _, _, hb.cell _, _, hb.cell _, _, hb.cell _, _, hb.cell _, _, hb.cell _, _, hb.cell _, _, _, _, hb.cell _, _, hb.cell _, _, _, _, hb.cell _, hr1.cells _ _ (by simp), fun H98 hp => ?_⟩
    have hz := hp.blk hr1 (by simp)
    have hnn := hh.nn
    refine ⟨_, hz.cell _, _, hz.cell _, _, hz.cell _, _, hz.cell _, _, hz.cell _, _, hz.cell _, _, hz.cell _, _, hz.cell _, _, hz.cell _, _, hz.cell _, _, hz.cell _, _, _, _, hz.cell _, _, hz.cell _, _, _, _, hz.cell _, ?_⟩
    refine ⟨⟨x0, x1, x2, x3, ⟨x4, x5, x6, x7, x8, x9, x10, bs11⟩, x12, bs13⟩, _, _, _, _, _, _, rfl, ⟨h1, h2, h3, h5, h6, ?_, ?_, h0, h12, h4, h7, h9, h10, h8⟩, ⟨?_, ?_⟩, ?_, ?_, ?_⟩
    · have := srow_len h11.1
      rw [bytesV_length] at this
      show bs11.length ≤ _
      omega
    · have := srow_len h13.1
      rw [bytesV_length] at this
      show bs13.length ≤ _
      omega
    · exact h11.1.ext hp.ext (fun k hk hm => by have := h11.2.2 k hk; simp only [List.mem_singleton] at hm; omega)
    · exact h13.1.ext hp.ext (fun k hk hm => by have := h13.2.2 k hk; simp only [List.mem_singleton] at hm; omega)
    · intro k hk; have := h11.2.2 k hk; omega
    · intro k hk; have := h13.2.2 k hk; omega
    · exact (hx4.trans hh.ext).trans' hp.ext (fun i hi => .inl (by simp only [List.mem_singleton] at hi; omega))
  refine ex_li ex4 (by rfl) ?_
  refine ex_name ex4 fun t ht => ?_
  refine ex_new evS ex4 zero fun d H' _ hh => ?_
  refine hx_all evS hh (by rfl) (one _ _ _ (by omega)) ⟨[], by rfl⟩ fun H' hh2 => ?_
  exact make_0 (R := fun v H' => ∃ (e : Ev) (da : Option Addr) (dl dc : Nat) (ma : Option Addr) (ml mc : Nat), v = evA e da dl dc ma ml mc ∧ EvOk e ∧ Rows H' e da dl dc ma ml mc ∧ (∀ k ∈ blkOf da, H.size ≤ k) ∧ (∀ k ∈ blkOf ma, H.size ≤ k) ∧ Ext [] H H') fin h0 hw hs hh2
end Go.Proofs
end

section
open Go Go.Vc
namespace Go.Proofs
theorem srow_keep {H H' : Heap} {b n l c : Nat} {a : Option Addr} {xs : List Value} (h : SRow H 1 n (.slice a l c) xs) (hb : n = 0 ∨ b ∉ blkOf a) (hx : Ext [b] H H') : SRow H' 1 n (.slice a l c) xs := by
  rcases hb with hb | hb
  · subst hb
    have h1 := h.1
    have h2 : xs = [] := List.eq_nil_of_length_eq_zero (by omega)
    subst h2
    refine ⟨rfl, ?_⟩
    cases a with
    | none => rfl
    | some ad => exact ⟨.inl rfl, fun j u hj => by simp at hj⟩
  · exact h.ext hx (apart hb)
theorem srow_old {H : Heap} {n c : Nat} {a : Option Addr} {bs : List UInt8} (h : SRow H 1 n (.slice a n c) (bytesV bs)) {b : Nat} (hb : H.size ≤ b) : n = 0 ∨ b ∉ blkOf a := by
  rcases Nat.eq_zero_or_pos n with h0 | h0
  · exact .inl h0
  · right
    obtain ⟨b', o, rfl, hc⟩ := srow_byte h h0
    have := hcell_lt hc
    simp [blkOf]; omega
/-- An event in a block of its own. -/
def EvX (N : Nat) (H : Heap) (b : Nat) (e : Ev) : Prop := ∃ da dl dc ma ml mc, Blk H b (evL e da dl dc ma ml mc) ∧ Rows H e da dl dc ma ml mc ∧ ((dl = 0 ∨ b ∉ blkOf da) ∧ ∀ k ∈ blkOf da, N ≤ k) ∧ ((ml = 0 ∨ b ∉ blkOf ma) ∧ ∀ k ∈ blkOf ma, N ≤ k) ∧ EvOk e
theorem EvX.more {N : Nat} {H H' : Heap} {b : Nat} {e : Ev} (h : EvX N H b e) (hx : Ext [] H H') : EvX N H' b e := by
  obtain ⟨da, dl, dc, ma, ml, mc, hb, hr, h1, h2, he⟩ := h
  exact ⟨da, dl, dc, ma, ml, mc, hb.ext hx (by simp), hr.ext hx, h1, h2, he⟩
theorem EvX.cells {N : Nat} {H : Heap} {b : Nat} {e : Ev} (h : EvX N H b e) (j n : Nat) (hj : j + n ≤ 14) : Cells H b j n := by
  obtain ⟨da, dl, dc, ma, ml, mc, hb, hr, h1, h2, he⟩ := h
  exact hb.cells _ _ (by simp [evL]; omega)
theorem EvX.new {N : Nat} {H0 H H2 H' : Heap} {b : Nat} {e : Ev} {da ma : Option Addr} {dl dc ml mc : Nat} {zs : List Value} {t : TypeId} (hr : Rows H0 e da dl dc ma ml mc) (he : EvOk e) (hd : ∀ k ∈ blkOf da, N ≤ k) (hm : ∀ k ∈ blkOf ma, N ≤ k) (hx : Ext [] H0 H) (hn : New H b zs t H2) (hz : zs.length = 14) (hp : Puts H2 b 0 (evL e da dl dc ma ml mc) H') : EvX N H' b e ∧ Ext [] H0 H' := by
  have hnb : H0.size ≤ b := by rw [hn.eq]; exact hx.size
  have hb := hp.blk hn.blk (by simp [evL, hz])
  have hx2 : Ext [] H0 H2 := hx.trans hn.ext
  have e1 := srow_old hr.data hnb
  have e2 := srow_old hr.mask hnb
  refine ⟨⟨da, dl, dc, ma, ml, mc, ?_, ⟨srow_keep (srow_ext hr.data hx2) e1 hp.ext, srow_keep (srow_ext hr.mask hx2) e2 hp.ext⟩, ⟨e1, hd⟩, ⟨e2, hm⟩, he⟩, hx2.trans' hp.ext (fun i hi => .inl (by simp only [List.mem_singleton] at hi; omega))⟩
  have : splice zs 0 (evL e da dl dc ma ml mc) = evL e da dl dc ma ml mc := by
    unfold splice
    rw [List.take_zero, List.nil_append, List.drop_eq_nil_of_le (by simp [evL, hz]), List.append_nil]
  rwa [this] at hb
section
variable {N : Nat} {H H' : Heap} {b : Nat} {e : Ev}
theorem EvX.put1 (h : EvX N H b e) {e' : Ev} {j : Nat} {v : Value} (hs : ∀ da dl dc ma ml mc, splice (evL e da dl dc ma ml mc) j [v] = evL e' da dl dc ma ml mc) (hj : j < 14) (hd : e'.call.data = e.call.data) (hm : e'.mask = e.mask) (he' : EvOk e → EvOk e') (hp : Puts H b j [v] H') : EvX N H' b e' := by
  obtain ⟨da, dl, dc, ma, ml, mc, hb, hr, h1, h2, he⟩ := h
  have hb2 := hp.blk hb (by simp [evL]; omega)
  rw [hs] at hb2
  exact ⟨da, dl, dc, ma, ml, mc, hb2, ⟨by rw [hd]; exact srow_keep hr.data h1.1 hp.ext, by rw [hm]; exact srow_keep hr.mask h2.1 hp.ext⟩, h1, h2, he' he⟩
theorem EvX.putM (h : EvX N H b e) {a : Option Addr} {l c : Nat} {bs : List UInt8} (hr' : SRow H 1 l (.slice a l c) (bytesV bs)) (hl : l ≤ 1000000000) (ho : l = 0 ∨ b ∉ blkOf a) (hN : ∀ k ∈ blkOf a, N ≤ k) (hp : Puts H b (0 + 13) [.slice a l c] H') : EvX N H' b { e with mask := bs } := by
  obtain ⟨da, dl, dc, ma, ml, mc, hb, hr, h1, h2, he⟩ := h
  have hb2 := hp.blk hb (by simp [evL])
  have hlen := srow_len hr'
  rw [bytesV_length] at hlen
  exact ⟨da, dl, dc, a, l, c, hb2, ⟨srow_keep hr.data h1.1 hp.ext, srow_keep hr' ho hp.ext⟩, h1, ⟨ho, hN⟩, { he with mask := by show bs.length ≤ _; omega }⟩
theorem EvX.putD (h : EvX N H b e) {a : Option Addr} {l c : Nat} {bs : List UInt8} (hr' : SRow H 1 l (.slice a l c) (bytesV bs)) (hl : l ≤ 1000000000) (ho : l = 0 ∨ b ∉ blkOf a) (hN : ∀ k ∈ blkOf a, N ≤ k) (hp : Puts H b (0 + 4 + 7) [.slice a l c] H') : EvX N H' b { e with call := { e.call with data := bs } } := by
  obtain ⟨da, dl, dc, ma, ml, mc, hb, hr, h1, h2, he⟩ := h
  have hb2 := hp.blk hb (by simp [evL])
  have hlen := srow_len hr'
  rw [bytesV_length] at hlen
  exact ⟨a, l, c, ma, ml, mc, hb2, ⟨srow_keep hr' ho hp.ext, srow_keep hr.mask h2.1 hp.ext⟩, ⟨ho, hN⟩, h2, { he with data := by show bs.length ≤ _; omega }⟩
end
theorem new_bytes {H H' : Heap} {d n : Nat} {e : TypeId} (hnw : New H d (List.replicate n (.int .u8 0)) e H') : SRow H' 1 n (.slice (some ⟨d, 0, none⟩) n n) (bytesV (List.replicate n 0)) := by
  have := hnw.srow (n := n) (by simp) n n
  unfold bytesV
  rw [List.map_replicate]
  exact this
theorem event_ok {H : Heap} (g : Glob H) (x0 x1 x2 x3 x4 y0 y1 y2 y3 y4 y5 y6 y7 : Int) {w : Nat} (h0 : In64 y0) (hw : w < 18446744073709551616) {a : Option Addr} {l c : Nat} (hr : ∃ bs, SRow H 1 l (.slice a l c) (bytesV bs) ∧ l ≤ c) {s : ByteArray} (hs : s.size ≤ 10000000) {ma : Option Addr} {ml mc : Nat} (hr2 : ∃ bs, SRow H 1 ml (.slice ma ml mc) (bytesV bs) ∧ ml ≤ mc) {how : Int} (hh : In64 how) :
    Does Tryz.prog 7 [.agg #[.int .i64 x0, .int .i64 x1, .int .i64 x2, .int .i64 x3, .int .i64 x4, .int .i64 y0, .int .i64 y1, .int .i64 y2, .int .i64 y3, .int .i64 y4, .int .i64 y5, .int .i64 y6, .int .i64 y7, .float .f64 w, .slice a l c, .string s, .slice ma ml mc], .int .i64 how] H fun v H' => ∃ (e : Ev) (da : Option Addr) (dl dc : Nat) (ma : Option Addr) (ml mc : Nat), v = evA e da dl dc ma ml mc ∧ EvOk e ∧ Rows H' e da dl dc ma ml mc ∧ Ext [] H H' := by
  refine Fn_of_vc Tryz.mixed (EventV _ _ _ _ _ _ _ _ _ _ _ _ _ _ _ _ _ _ _ _ _ _ _ _) ?_
  intro b1 H2 hn1 b3 H4 hn3
  have hx4 : Ext [] H H4 := hn1.ext.trans hn3.ext
  have s2 := hn1.size
  have s4 := hn3.size
  have e3 := hn3.eq
  have hb1 : Blk H4 b1 [.int .i64 x0, .int .i64 x1, .int .i64 x2, .int .i64 x3, .int .i64 x4, .int .i64 y0, .int .i64 y1, .int .i64 y2, .int .i64 y3, .int .i64 y4, .int .i64 y5, .int .i64 y6, .int .i64 y7, .float .f64 w, .slice a l c, .string s, .slice ma ml mc] := hn1.blk.ext hn3.ext (by simp)
  refine ⟨_, hb1.cell _, _, hb1.cell _, _, hb1.cell _, _, hb1.cell _, _, hb1.cell _, _, hb1.cell _, _, hb1.cell _, _, hb1.cell _, _, hb1.cell _, _, hb1.cell _, _, hb1.cell _, _, hb1.cell _, _, hb1.cell _, _, hb1.cell _, _, _, _, hb1.cell _, _, hb1.cell _, _, _, _, hb1.cell _, ?_⟩
  obtain ⟨rb, hr', hrl⟩ := hr
  obtain ⟨rb2, hr2', hrl2⟩ := hr2
  refine (make_ok (g.ext hx4) _ _ _ _ _ _ _ _ _ _ _ _ _ h0 hw ⟨rb, srow_ext hr' hx4, hrl⟩ hs ⟨rb2, srow_ext hr2' hx4, hrl2⟩ true).mono ?_
  rintro _ H27 ⟨e, da, dl, dc, ma', ml', mc', rfl, he, hrw, hda, hma, hx27⟩
  refine ⟨_, _, _, _, _, _, _, _, _, _, _, _, _, _, _, _, _, _, rfl, ?_⟩
  intro b46 H47 hn46
  refine ⟨hn46.blk.cells _ _ (by simp), fun H48 hp48 => ?_⟩
  have hn46e := hn46.eq
  obtain ⟨hev, hx48⟩ := EvX.new hrw he hda hma (Ext.refl _ _) hn46 (by rfl) hp48
  have hxall : Ext [] H4 H48 := hx27.trans hx48
  have e46 : H4.size ≤ b46 := by have := hx27.size; omega
  have h46 : b46 < H48.size := by have := hp48.size; have := hn46.size; omega
  refine ⟨fun H' => ∃ e', EvX H4.size H' b46 e' ∧ Ext [] H4 H', ?_, ?_⟩
  · refine (pick_ok how 16 H48 (by decide) (by decide)).mono ?_
    rintro _ H51 ⟨rfl, rfl⟩
    have xt : ∀ {H H' : Heap} {j : Nat} {v : Value}, Ext [] H4 H → Puts H b46 j [v] H' → Ext [] H4 H' := fun hx hp => hx.trans' hp.ext (fun i hi => .inl (by simp only [List.mem_singleton] at hi; omega))
    refine ⟨_, rfl, ⟨fun _ => ⟨by decide, fun q _ => ?_⟩, fun _ => ⟨fun _ => ⟨by decide, fun q _ => ?_⟩, fun _ => ⟨fun _ => ?_, fun _ => ⟨fun _ => ?_, fun _ => ⟨fun _ => ⟨by decide, fun q _ => ?_⟩, fun _ => ⟨fun _ => ?_, fun _ => ⟨fun _ => ⟨by decide, fun q _ => ?_⟩, fun _ => ⟨fun _ => ⟨by decide, fun q _ => ?_⟩, fun _ => ?_⟩⟩⟩⟩⟩⟩⟩⟩⟩
    · refine (pick_ok q 14 _ (by decide) (by decide)).mono ?_
      rintro _ _ ⟨rfl, rfl⟩
      exact ⟨_, rfl, hev.cells _ _ (by omega), fun H' hp => ⟨_, hev.put1 (e' := { e with kind := q % 14 }) (fun _ _ _ _ _ _ => rfl) (by decide) rfl rfl (fun he => { he with kind := ⟨by show _ ≤ q % 14; omega, by show q % 14 ≤ _; omega⟩ }) hp, xt hxall hp⟩⟩
    · refine (pick_ok q 18 _ (by decide) (by decide)).mono ?_
      rintro _ _ ⟨rfl, rfl⟩
      exact ⟨_, rfl, hev.cells _ _ (by omega), fun H' hp => ⟨_, hev.put1 (e' := { e with call := { e.call with kind := q % 18 } }) (fun _ _ _ _ _ _ => rfl) (by decide) rfl rfl (fun he => { he with ckind := ⟨by show _ ≤ q % 18; omega, by show q % 18 ≤ _; omega⟩ }) hp, xt hxall hp⟩⟩
    · exact ⟨hev.cells _ _ (by omega), fun H' hp => ⟨_, hev.put1 (e' := { e with n := how }) (fun _ _ _ _ _ _ => rfl) (by decide) rfl rfl (fun he => { he with n := hh }) hp, xt hxall hp⟩⟩
    · exact ⟨hev.cells _ _ (by omega), fun H' hp => ⟨_, hev.put1 (e' := { e with call := { e.call with mode := how } }) (fun _ _ _ _ _ _ => rfl) (by decide) rfl rfl (fun he => { he with mode := hh }) hp, xt hxall hp⟩⟩
    · refine (pick_ok q 220 _ (by decide) (by decide)).mono ?_
      rintro _ _ ⟨rfl, rfl⟩
      refine ⟨_, rfl, by omega, by omega, by omega, fun d Hd hd => ⟨_, new_bytes hd, ?_⟩⟩
      have hev2 := hev.more hd.ext
      refine ⟨hev2.cells _ _ (by omega), fun H' hp => ⟨_, hev2.put1 (e' := { e with name := ⟨(List.replicate (q % 220).toNat 0).toArray⟩ }) (fun _ _ _ _ _ _ => rfl) (by decide) rfl rfl (fun he => { he with name := ?_ }) hp, xt (hxall.trans hd.ext) hp⟩⟩
      show (ByteArray.mk (List.replicate (q % 220).toNat 0).toArray).size ≤ _
      have : (ByteArray.mk (List.replicate (q % 220).toNat 0).toArray).size = (q % 220).toNat := by show (List.replicate (q % 220).toNat 0).toArray.size = _; simp
      omega
    · exact ⟨hev.cells _ _ (by omega), fun H' hp => ⟨_, hev.put1 (e' := { e with call := { e.call with pos := how } }) (fun _ _ _ _ _ _ => rfl) (by decide) rfl rfl (fun he => { he with pos := hh }) hp, xt hxall hp⟩⟩
    · refine (pick_ok q 3100 _ (by decide) (by decide)).mono ?_
      rintro _ _ ⟨rfl, rfl⟩
      refine ⟨_, rfl, by omega, by omega, by omega, fun d Hd hd => ?_⟩
      have hev2 := hev.more hd.ext
      have hde := hd.eq
      exact ⟨hev2.cells _ _ (by omega), fun H' hp => ⟨_, hev2.putM (new_bytes hd) (by omega) (.inr (by simp [blkOf]; omega)) (by simp [blkOf]; have := hxall.size; omega) hp, xt (hxall.trans hd.ext) hp⟩⟩
    · refine (pick_ok q 3100 _ (by decide) (by decide)).mono ?_
      rintro _ _ ⟨rfl, rfl⟩
      refine ⟨_, rfl, by omega, by omega, by omega, fun d Hd hd => ?_⟩
      have hev2 := hev.more hd.ext
      have hde := hd.eq
      exact ⟨hev2.cells _ _ (by omega), fun H' hp => ⟨_, hev2.putD (new_bytes hd) (by omega) (.inr (by simp [blkOf]; omega)) (by simp [blkOf]; have := hxall.size; omega) hp, xt (hxall.trans hd.ext) hp⟩⟩
    · exact ⟨_, hev, hxall⟩
  · rintro H88 ⟨e', ⟨da, dl, dc, ma, ml, mc, hb, hr, h1, h2, he'⟩, hx88⟩
    refine ⟨_, hb.cell _, _, hb.cell _, _, hb.cell _, _, hb.cell _, _, hb.cell _, _, hb.cell _, _, hb.cell _, _, hb.cell _, _, hb.cell _, _, hb.cell _, _, hb.cell _, _, _, _, hb.cell _, _, hb.cell _, _, _, _, hb.cell _, ?_⟩
    have hb3 := hn3.blk.ext hx88 (by simp)
    refine ⟨hb3.cells _ _ (by simp), fun H107 hp => ?_⟩
    have hz := hp.blk hb3 (by simp)
    refine ⟨_, hz.cell _, _, hz.cell _, _, hz.cell _, _, hz.cell _, _, hz.cell _, _, hz.cell _, _, hz.cell _, _, hz.cell _, _, hz.cell _, _, hz.cell _, _, hz.cell _, _, _, _, hz.cell _, _, hz.cell _, _, _, _, hz.cell _, ?_⟩
    refine ⟨e', _, _, _, _, _, _, rfl, he', ⟨hr.data.ext hp.ext ?_, hr.mask.ext hp.ext ?_⟩, (hx4.trans hx88).trans' hp.ext (fun i hi => .inl (by simp only [List.mem_singleton] at hi; omega))⟩
    · intro k hk hm
      have := h1.2 k hk
      simp only [List.mem_singleton] at hm
      omega
    · intro k hk hm
      have := h2.2 k hk
      simp only [List.mem_singleton] at hm
      omega
end Go.Proofs
end

section
open Go Go.Vc
namespace Go.Proofs
/-- What is read of an event in a block of its own. -/
theorem EvX.put14 {H0 H H2 : Heap} {b : Nat} {e : Ev} {da ma : Option Addr} {dl dc ml mc : Nat} {zs : List Value} {t : TypeId} {Q : Heap → Prop} (hr : Rows H0 e da dl dc ma ml mc) (he : EvOk e) (hx : Ext [] H0 H) (hn : New H b zs t H2) (hz : zs.length = 14)
    (k : ∀ H', EvX 0 H' b e → Ext [] H0 H' → Q H') : Cells H2 b 0 14 ∧ ∀ H', Puts H2 b 0 (evL e da dl dc ma ml mc) H' → Q H' := by
  refine ⟨hn.blk.cells _ _ (by omega), fun H' hp => ?_⟩
  obtain ⟨h1, h2⟩ := EvX.new (N := 0) hr he (by simp) (by simp) hx hn hz hp
  exact k H' h1 h2
theorem Parsed.any {s : ByteArray} {v : Value} {H : Heap} (h : Parsed s v H) : ∃ e da dl dc ma ml mc t, v = .tuple #[evA e da dl dc ma ml mc, .bool t] ∧ Rows H e da dl dc ma ml mc ∧ EvOk e ∧ (t = true → Good (wordsS s) e ∧ printE e = (s, true)) ∧ (t = false → ∀ e0 : Ev, e0.call.time < 18446744073709551616 → printE e0 ≠ (s, true)) := by
  rcases h with ⟨e, da, dl, dc, ma, ml, mc, rfl, h1, h2, h3, h4⟩ | ⟨rfl, h⟩
  · exact ⟨e, da, dl, dc, ma, ml, mc, true, rfl, h1, h2, fun _ => ⟨h3, h4⟩, fun hf => by cases hf⟩
  · exact ⟨zeroE, none, 0, 0, none, 0, 0, false, rfl, zero_rows H, zero_ok, (fun hf => by cases hf), fun _ => h⟩

/-! ### The chapter's example -/
abbrev s25 : ByteArray := ByteArray.mk #[99, 97, 108, 108, 32, 109, 97, 105, 110, 32, 109, 107, 100, 105, 114, 32, 97, 32, 52, 57, 51, 32, 48, 48, 48, 48, 48, 48, 48, 48, 48, 48, 48, 48, 48, 48, 48, 48]
abbrev main25 : ByteArray := ByteArray.mk #[109, 97, 105, 110]
def e25 : Ev := ⟨1, main25, ⟨#[]⟩, ⟨#[]⟩, ⟨1, ByteArray.mk #[97], ⟨#[]⟩, 493, 0, 0, 0, []⟩, 0, []⟩
theorem print25 : printE e25 = (s25, true) := by decide +kernel
theorem name_of {e f : Ev} (h : fldW e .name = fldW f .name) : e.name = f.name := by
  have := congrArg (·.1) h
  exact textW_inj hS_ok this
theorem mode_of {e f : Ev} (h : fldW e .mode = fldW f .mode) (hf : 0 ≤ f.call.mode) (hf2 : f.call.mode ≤ 999999) : e.call.mode = f.call.mode := by
  have h1 := congrArg (·.1) h
  have h2 := congrArg (·.2) h
  simp only [fldW, numF] at h1 h2
  have h3 : ¬ (f.call.mode < 0 ∨ 999999 < f.call.mode) := by omega
  rw [decide_eq_false h3] at h2
  have h4 := of_decide_eq_false h2
  exact intS_inj (by omega) hf h1
theorem good25 {e : Ev} (hg : Good (wordsS s25) e) : e.kind = 1 ∧ e.name = main25 ∧ e.call.kind = 1 ∧ e.call.mode = 493 := by
  obtain ⟨hs, _⟩ := good_print hg (by decide) print25
  have hc := hs.call rfl
  exact ⟨hs.kind, name_of (hs.flds .name (by decide)), hc.1, mode_of (hc.2 .mode (by decide)) (by decide) (by decide)⟩
theorem known_ok {H : Heap} (g : Glob H) : Does Tryz.prog 11 [] H fun v H' => v = .bool true ∧ Ext [] H H' := by
  refine Fn_of_vc Tryz.mixed (KnownV _ _) ?_
  refine (parseS_ok s25 (by decide) g).mono ?_
  rintro _ H2 ⟨hp, hx⟩
  obtain ⟨e, da, dl, dc, ma, ml, mc, t, rfl, hrw, he, h1, h2⟩ := hp.any
  refine ⟨_, _, _, _, _, _, _, _, _, _, _, _, _, _, _, _, _, _, _, rfl, ?_⟩
  intro b22 H23 hn
  refine EvX.put14 hrw he (Ext.refl _ _) hn (by rfl) fun H24 hev hx24 => ?_
  have hxa := hx.trans hx24
  obtain ⟨da, dl, dc, ma, ml, mc, hb, hr, _, _, _⟩ := hev
  have ht : t = true := by
    cases t with
    | true => rfl
    | false => exact absurd print25 (h2 rfl e25 (by decide))
  obtain ⟨hg, _⟩ := h1 ht
  obtain ⟨k1, k2, k3, k4⟩ := good25 hg
  refine ⟨fun _ => ⟨_, hb.cell _, fun _ => ⟨_, hb.cell _, fun _ => ⟨_, hb.cell _, fun _ => ⟨_, hb.cell _, ?_, hxa⟩, fun hn => absurd k3 hn⟩, fun hn => absurd k2 hn⟩, fun hn => absurd k1 hn⟩, fun hf => by rw [ht] at hf; cases hf⟩
  show Value.bool (@decide (e.call.mode = 493) (Classical.propDecidable _)) = _
  rw [k4]
  exact congrArg Value.bool (@decide_eq_true _ (Classical.propDecidable _) rfl)
theorem same_ok {H : Heap} {e f : Ev} {da ma : Option Addr} {dl dc ml mc : Nat} {da' ma' : Option Addr} {dl' dc' ml' mc' : Nat} (h1 : Rows H e da dl dc ma ml mc) (h2 : Rows H f da' dl' dc' ma' ml' mc') (o1 : EvOk e) (o2 : EvOk f) {s : ByteArray} (p1 : printE e = (s, true)) (p2 : printE f = (s, true)) :
    Does Tryz.prog 12 [evA e da dl dc ma ml mc, evA f da' dl' dc' ma' ml' mc'] H fun v H' => v = .bool true ∧ Ext [] H H' := by
  refine Fn_of_vc Tryz.mixed (SameV _ _ _ _ _ _ _ _ _ _ _ _ _ _ _ _ _ _ _ _ _ _ _ _ _ _ _ _ _ _ _ _ _ _ _ _ _ _) ?_
  intro b1 H2 hn1 b3 H4 hn3
  have hx4 : Ext [] H H4 := hn1.ext.trans hn3.ext
  have hb : Blk H4 b1 (evL e da dl dc ma ml mc) := hn1.blk.ext hn3.ext (by simp)
  have hc : Blk H4 b3 (evL f da' dl' dc' ma' ml' mc') := hn3.blk
  refine ⟨_, hb.cell _, _, hb.cell _, _, hb.cell _, _, hb.cell _, _, hb.cell _, _, hb.cell _, _, hb.cell _, _, hb.cell _, _, hb.cell _, _, hb.cell _, _, hb.cell _, _, _, _, hb.cell _, _, hb.cell _, _, _, _, hb.cell _, ?_⟩
  refine (rprint_ok (h1.ext hx4) o1).mono ?_
  rintro _ H24 ⟨rfl, hx24⟩
  rw [p1]
  have hc := hc.ext hx24 (by simp)
  refine ⟨_, _, rfl, _, hc.cell _, _, hc.cell _, _, hc.cell _, _, hc.cell _, _, hc.cell _, _, hc.cell _, _, hc.cell _, _, hc.cell _, _, hc.cell _, _, hc.cell _, _, hc.cell _, _, _, _, hc.cell _, _, hc.cell _, _, _, _, hc.cell _, ?_⟩
  refine (rprint_ok (h2.ext (hx4.trans hx24)) o2).mono ?_
  rintro _ H46 ⟨rfl, hx46⟩
  rw [p2]
  refine ⟨_, _, rfl, fun _ => ⟨fun _ => ⟨congrArg Value.bool (@decide_eq_true _ (Classical.propDecidable _) rfl), (hx4.trans hx24).trans hx46⟩, (fun h => by cases h)⟩, (fun h => by cases h)⟩
end Go.Proofs
end

section
open Go Go.Vc
namespace Go.Proofs
set_option maxRecDepth 100000
/-- pentimento/pentimentolaw25.ScriptBack -/
theorem BackV (x0_0 : Int) (x0_1 : Int) (x0_2 : Int) (x0_3 : Int) (x0_4 : Int) (x0_5 : Int) (x0_6 : Int) (x0_7 : Int) (x0_8 : Int) (x0_9 : Int) (x0_10 : Int) (x0_11 : Int) (x0_12 : Int) (x0_13 : Nat) (x0_14 : Option Addr) (x0_14l : Nat) (x0_14c : Nat) (x0_15 : ByteArray) (x0_16 : Option Addr) (x0_16l : Nat) (x0_16c : Nat) (x1 : Int) (H : Heap) (R : Value → Heap → Prop) : Walk Tryz.prog 4 [] [(.agg #[(.int .i64 x0_0), (.int .i64 x0_1), (.int .i64 x0_2), (.int .i64 x0_3), (.int .i64 x0_4), (.int .i64 x0_5), (.int .i64 x0_6), (.int .i64 x0_7), (.int .i64 x0_8), (.int .i64 x0_9), (.int .i64 x0_10), (.int .i64 x0_11), (.int .i64 x0_12), (.float .f64 x0_13), (.slice x0_14 x0_14l x0_14c), (.string x0_15), (.slice x0_16 x0_16l x0_16c)]), (.int .i64 x1)] H R = (
 ∀ b1 : Nat, ∀ H2 : Heap, New H b1 [(.int .i64 x0_0), (.int .i64 x0_1), (.int .i64 x0_2), (.int .i64 x0_3), (.int .i64 x0_4), (.int .i64 x0_5), (.int .i64 x0_6), (.int .i64 x0_7), (.int .i64 x0_8), (.int .i64 x0_9), (.int .i64 x0_10), (.int .i64 x0_11), (.int .i64 x0_12), (.float .f64 x0_13), (.slice x0_14 x0_14l x0_14c), (.string x0_15), (.slice x0_16 x0_16l x0_16c)] 27 H2 → (
 ∃ n3 : Int, hcell H2 b1 0 = some (.int .i64 n3) ∧ (
 ∃ n4 : Int, hcell H2 b1 (0 + 1) = some (.int .i64 n4) ∧ (
 ∃ n5 : Int, hcell H2 b1 ((0 + 1) + 1) = some (.int .i64 n5) ∧ (
 ∃ n6 : Int, hcell H2 b1 (((0 + 1) + 1) + 1) = some (.int .i64 n6) ∧ (
 ∃ n7 : Int, hcell H2 b1 ((((0 + 1) + 1) + 1) + 1) = some (.int .i64 n7) ∧ (
 ∃ n8 : Int, hcell H2 b1 (((((0 + 1) + 1) + 1) + 1) + 1) = some (.int .i64 n8) ∧ (
 ∃ n9 : Int, hcell H2 b1 ((((((0 + 1) + 1) + 1) + 1) + 1) + 1) = some (.int .i64 n9) ∧ (
 ∃ n10 : Int, hcell H2 b1 (((((((0 + 1) + 1) + 1) + 1) + 1) + 1) + 1) = some (.int .i64 n10) ∧ (
 ∃ n11 : Int, hcell H2 b1 ((((((((0 + 1) + 1) + 1) + 1) + 1) + 1) + 1) + 1) = some (.int .i64 n11) ∧ (
 ∃ n12 : Int, hcell H2 b1 (((((((((0 + 1) + 1) + 1) + 1) + 1) + 1) + 1) + 1) + 1) = some (.int .i64 n12) ∧ (
 ∃ n13 : Int, hcell H2 b1 ((((((((((0 + 1) + 1) + 1) + 1) + 1) + 1) + 1) + 1) + 1) + 1) = some (.int .i64 n13) ∧ (
 ∃ n14 : Int, hcell H2 b1 (((((((((((0 + 1) + 1) + 1) + 1) + 1) + 1) + 1) + 1) + 1) + 1) + 1) = some (.int .i64 n14) ∧ (
 ∃ n15 : Int, hcell H2 b1 ((((((((((((0 + 1) + 1) + 1) + 1) + 1) + 1) + 1) + 1) + 1) + 1) + 1) + 1) = some (.int .i64 n15) ∧ (
 ∃ f16 : Nat, hcell H2 b1 (((((((((((((0 + 1) + 1) + 1) + 1) + 1) + 1) + 1) + 1) + 1) + 1) + 1) + 1) + 1) = some (.float .f64 f16) ∧ (
 ∃ a17 : Option Addr, ∃ l18 : Nat, ∃ c19 : Nat, hcell H2 b1 ((((((((((((((0 + 1) + 1) + 1) + 1) + 1) + 1) + 1) + 1) + 1) + 1) + 1) + 1) + 1) + 1) = some (.slice a17 l18 c19) ∧ (
 ∃ s20 : ByteArray, hcell H2 b1 (((((((((((((((0 + 1) + 1) + 1) + 1) + 1) + 1) + 1) + 1) + 1) + 1) + 1) + 1) + 1) + 1) + 1) = some (.string s20) ∧ (
 ∃ a21 : Option Addr, ∃ l22 : Nat, ∃ c23 : Nat, hcell H2 b1 ((((((((((((((((0 + 1) + 1) + 1) + 1) + 1) + 1) + 1) + 1) + 1) + 1) + 1) + 1) + 1) + 1) + 1) + 1) = some (.slice a21 l22 c23) ∧ (
 Does Tryz.prog 7 [(.agg #[(.int .i64 n3), (.int .i64 n4), (.int .i64 n5), (.int .i64 n6), (.int .i64 n7), (.int .i64 n8), (.int .i64 n9), (.int .i64 n10), (.int .i64 n11), (.int .i64 n12), (.int .i64 n13), (.int .i64 n14), (.int .i64 n15), (.float .f64 f16), (.slice a17 l18 c19), (.string s20), (.slice a21 l22 c23)]), (.int .i64 x1)] H2 fun v24 H25 => ∃ n26 : Int, ∃ s27 : ByteArray, ∃ s28 : ByteArray, ∃ s29 : ByteArray, ∃ n30 : Int, ∃ s31 : ByteArray, ∃ s32 : ByteArray, ∃ n33 : Int, ∃ f34 : Nat, ∃ n35 : Int, ∃ n36 : Int, ∃ a37 : Option Addr, ∃ l38 : Nat, ∃ c39 : Nat, ∃ n40 : Int, ∃ a41 : Option Addr, ∃ l42 : Nat, ∃ c43 : Nat, v24 = (.agg #[(.int .i64 n26), (.string s27), (.string s28), (.string s29), (.int .i64 n30), (.string s31), (.string s32), (.int .i64 n33), (.float .f64 f34), (.int .i64 n35), (.int .i64 n36), (.slice a37 l38 c39), (.int .i64 n40), (.slice a41 l42 c43)]) ∧ (
 ∀ b44 : Nat, ∀ H45 : Heap, New H25 b44 [(.int .i64 0), (.string (ByteArray.mk #[])), (.string (ByteArray.mk #[])), (.string (ByteArray.mk #[])), (.int .i64 0), (.string (ByteArray.mk #[])), (.string (ByteArray.mk #[])), (.int .i64 0), (.float .f64 0), (.int .i64 0), (.int .i64 0), (.slice none 0 0), (.int .i64 0), (.slice none 0 0)] 33 H45 → (
 Cells H45 b44 0 14 ∧ ∀ H46 : Heap, Puts H45 b44 0 [(.int .i64 n26), (.string s27), (.string s28), (.string s29), (.int .i64 n30), (.string s31), (.string s32), (.int .i64 n33), (.float .f64 f34), (.int .i64 n35), (.int .i64 n36), (.slice a37 l38 c39), (.int .i64 n40), (.slice a41 l42 c43)] H46 → (
 ∃ n47 : Int, hcell H46 b44 0 = some (.int .i64 n47) ∧ (
 ∃ s48 : ByteArray, hcell H46 b44 (0 + 1) = some (.string s48) ∧ (
 ∃ s49 : ByteArray, hcell H46 b44 ((0 + 1) + 1) = some (.string s49) ∧ (
 ∃ s50 : ByteArray, hcell H46 b44 (((0 + 1) + 1) + 1) = some (.string s50) ∧ (
 ∃ n51 : Int, hcell H46 b44 ((((0 + 1) + 1) + 1) + 1) = some (.int .i64 n51) ∧ (
 ∃ s52 : ByteArray, hcell H46 b44 (((((0 + 1) + 1) + 1) + 1) + 1) = some (.string s52) ∧ (
 ∃ s53 : ByteArray, hcell H46 b44 ((((((0 + 1) + 1) + 1) + 1) + 1) + 1) = some (.string s53) ∧ (
 ∃ n54 : Int, hcell H46 b44 (((((((0 + 1) + 1) + 1) + 1) + 1) + 1) + 1) = some (.int .i64 n54) ∧ (
 ∃ f55 : Nat, hcell H46 b44 ((((((((0 + 1) + 1) + 1) + 1) + 1) + 1) + 1) + 1) = some (.float .f64 f55) ∧ (
 ∃ n56 : Int, hcell H46 b44 (((((((((0 + 1) + 1) + 1) + 1) + 1) + 1) + 1) + 1) + 1) = some (.int .i64 n56) ∧ (
 ∃ n57 : Int, hcell H46 b44 ((((((((((0 + 1) + 1) + 1) + 1) + 1) + 1) + 1) + 1) + 1) + 1) = some (.int .i64 n57) ∧ (
 ∃ a58 : Option Addr, ∃ l59 : Nat, ∃ c60 : Nat, hcell H46 b44 (((((((((((0 + 1) + 1) + 1) + 1) + 1) + 1) + 1) + 1) + 1) + 1) + 1) = some (.slice a58 l59 c60) ∧ (
 ∃ n61 : Int, hcell H46 b44 ((((((((((((0 + 1) + 1) + 1) + 1) + 1) + 1) + 1) + 1) + 1) + 1) + 1) + 1) = some (.int .i64 n61) ∧ (
 ∃ a62 : Option Addr, ∃ l63 : Nat, ∃ c64 : Nat, hcell H46 b44 (((((((((((((0 + 1) + 1) + 1) + 1) + 1) + 1) + 1) + 1) + 1) + 1) + 1) + 1) + 1) = some (.slice a62 l63 c64) ∧ (
 Does Tryz.prog 13 [(.agg #[(.int .i64 n47), (.string s48), (.string s49), (.string s50), (.int .i64 n51), (.string s52), (.string s53), (.int .i64 n54), (.float .f64 f55), (.int .i64 n56), (.int .i64 n57), (.slice a58 l59 c60), (.int .i64 n61), (.slice a62 l63 c64)])] H46 fun v65 H66 => ∃ s67 : ByteArray, ∃ t68 : Bool, v65 = (.tuple #[(.string s67), (.bool t68)]) ∧ (
 Does Tryz.prog 11 [] H66 fun v69 H70 => ∃ t71 : Bool, v69 = (.bool t71) ∧ (
 (((t71 = false) → (
 Does Tryz.prog 11 [] H70 fun v72 H73 => ∃ t74 : Bool, v72 = (.bool t74) ∧ (
 R (.bool t74) H73))) ∧ (¬ (t71 = false) → (
 (((t68 = false) → (
 Does Tryz.prog 11 [] H70 fun v75 H76 => ∃ t77 : Bool, v75 = (.bool t77) ∧ (
 R (.bool t77) H76))) ∧ (¬ (t68 = false) → (
 Does Tryz.prog 9 [(.string s67)] H70 fun v78 H79 => ∃ n80 : Int, ∃ s81 : ByteArray, ∃ s82 : ByteArray, ∃ s83 : ByteArray, ∃ n84 : Int, ∃ s85 : ByteArray, ∃ s86 : ByteArray, ∃ n87 : Int, ∃ f88 : Nat, ∃ n89 : Int, ∃ n90 : Int, ∃ a91 : Option Addr, ∃ l92 : Nat, ∃ c93 : Nat, ∃ n94 : Int, ∃ a95 : Option Addr, ∃ l96 : Nat, ∃ c97 : Nat, ∃ t98 : Bool, v78 = (.tuple #[(.agg #[(.int .i64 n80), (.string s81), (.string s82), (.string s83), (.int .i64 n84), (.string s85), (.string s86), (.int .i64 n87), (.float .f64 f88), (.int .i64 n89), (.int .i64 n90), (.slice a91 l92 c93), (.int .i64 n94), (.slice a95 l96 c97)]), (.bool t98)]) ∧ (
 ∀ b99 : Nat, ∀ H100 : Heap, New H79 b99 [(.int .i64 0), (.string (ByteArray.mk #[])), (.string (ByteArray.mk #[])), (.string (ByteArray.mk #[])), (.int .i64 0), (.string (ByteArray.mk #[])), (.string (ByteArray.mk #[])), (.int .i64 0), (.float .f64 0), (.int .i64 0), (.int .i64 0), (.slice none 0 0), (.int .i64 0), (.slice none 0 0)] 33 H100 → (
 Cells H100 b99 0 14 ∧ ∀ H101 : Heap, Puts H100 b99 0 [(.int .i64 n80), (.string s81), (.string s82), (.string s83), (.int .i64 n84), (.string s85), (.string s86), (.int .i64 n87), (.float .f64 f88), (.int .i64 n89), (.int .i64 n90), (.slice a91 l92 c93), (.int .i64 n94), (.slice a95 l96 c97)] H101 → (
 ∃ n102 : Int, hcell H101 b99 0 = some (.int .i64 n102) ∧ (
 ∃ s103 : ByteArray, hcell H101 b99 (0 + 1) = some (.string s103) ∧ (
 ∃ s104 : ByteArray, hcell H101 b99 ((0 + 1) + 1) = some (.string s104) ∧ (
 ∃ s105 : ByteArray, hcell H101 b99 (((0 + 1) + 1) + 1) = some (.string s105) ∧ (
 ∃ n106 : Int, hcell H101 b99 ((((0 + 1) + 1) + 1) + 1) = some (.int .i64 n106) ∧ (
 ∃ s107 : ByteArray, hcell H101 b99 (((((0 + 1) + 1) + 1) + 1) + 1) = some (.string s107) ∧ (
 ∃ s108 : ByteArray, hcell H101 b99 ((((((0 + 1) + 1) + 1) + 1) + 1) + 1) = some (.string s108) ∧ (
 ∃ n109 : Int, hcell H101 b99 (((((((0 + 1) + 1) + 1) + 1) + 1) + 1) + 1) = some (.int .i64 n109) ∧ (
 ∃ f110 : Nat, hcell H101 b99 ((((((((0 + 1) + 1) + 1) + 1) + 1) + 1) + 1) + 1) = some (.float .f64 f110) ∧ (
 ∃ n111 : Int, hcell H101 b99 (((((((((0 + 1) + 1) + 1) + 1) + 1) + 1) + 1) + 1) + 1) = some (.int .i64 n111) ∧ (
 ∃ n112 : Int, hcell H101 b99 ((((((((((0 + 1) + 1) + 1) + 1) + 1) + 1) + 1) + 1) + 1) + 1) = some (.int .i64 n112) ∧ (
 ∃ a113 : Option Addr, ∃ l114 : Nat, ∃ c115 : Nat, hcell H101 b99 (((((((((((0 + 1) + 1) + 1) + 1) + 1) + 1) + 1) + 1) + 1) + 1) + 1) = some (.slice a113 l114 c115) ∧ (
 ∃ n116 : Int, hcell H101 b99 ((((((((((((0 + 1) + 1) + 1) + 1) + 1) + 1) + 1) + 1) + 1) + 1) + 1) + 1) = some (.int .i64 n116) ∧ (
 ∃ a117 : Option Addr, ∃ l118 : Nat, ∃ c119 : Nat, hcell H101 b99 (((((((((((((0 + 1) + 1) + 1) + 1) + 1) + 1) + 1) + 1) + 1) + 1) + 1) + 1) + 1) = some (.slice a117 l118 c119) ∧ (
 Does Tryz.prog 13 [(.agg #[(.int .i64 n102), (.string s103), (.string s104), (.string s105), (.int .i64 n106), (.string s107), (.string s108), (.int .i64 n109), (.float .f64 f110), (.int .i64 n111), (.int .i64 n112), (.slice a113 l114 c115), (.int .i64 n116), (.slice a117 l118 c119)])] H101 fun v120 H121 => ∃ s122 : ByteArray, ∃ t123 : Bool, v120 = (.tuple #[(.string s122), (.bool t123)]) ∧ (
 ∃ n124 : Int, hcell H121 b44 0 = some (.int .i64 n124) ∧ (
 ((((n124 : Int) ≠ 9) → (
 ∃ n125 : Int, hcell H121 b44 0 = some (.int .i64 n125) ∧ (
 ((((n125 : Int) ≠ 10) → (
 ∃ n126 : Int, hcell H121 b44 0 = some (.int .i64 n126) ∧ (
 ((t98 = true → (
 ((t123 = true → (
 ((((s67 : ByteArray) = s122) → (
 ∃ n127 : Int, hcell H121 b99 0 = some (.int .i64 n127) ∧ (
 ∃ n128 : Int, hcell H121 b44 0 = some (.int .i64 n128) ∧ (
 ((((n127 : Int) = n128) → (
 (((¬ ((n126 : Int) ≠ 11)) → (
 R (.bool true) H121)) ∧ (¬ (¬ ((n126 : Int) ≠ 11)) → (
 ∃ s129 : ByteArray, hcell H121 b99 (0 + 1) = some (.string s129) ∧ (
 ∃ s130 : ByteArray, hcell H121 b44 (0 + 1) = some (.string s130) ∧ (
 R (.bool (@decide ((s129 : ByteArray) = s130) (Classical.propDecidable _))) H121))))))) ∧ (¬ ((n127 : Int) = n128) → (
 R (.bool false) H121))))))) ∧ (¬ ((s67 : ByteArray) = s122) → (
 R (.bool false) H121))))) ∧ (t123 = false → (
 R (.bool false) H121))))) ∧ (t98 = false → (
 R (.bool false) H121)))))) ∧ (¬ ((n125 : Int) ≠ 10) → (
 ((t98 = true → (
 ((t123 = true → (
 ((((s67 : ByteArray) = s122) → (
 ∃ n131 : Int, hcell H121 b99 0 = some (.int .i64 n131) ∧ (
 ∃ n132 : Int, hcell H121 b44 0 = some (.int .i64 n132) ∧ (
 ((((n131 : Int) = n132) → (
 R (.bool true) H121)) ∧ (¬ ((n131 : Int) = n132) → (
 R (.bool false) H121))))))) ∧ (¬ ((s67 : ByteArray) = s122) → (
 R (.bool false) H121))))) ∧ (t123 = false → (
 R (.bool false) H121))))) ∧ (t98 = false → (
 R (.bool false) H121))))))))) ∧ (¬ ((n124 : Int) ≠ 9) → (
 ((t98 = true → (
 ((t123 = true → (
 ((((s67 : ByteArray) = s122) → (
 ∃ n133 : Int, hcell H121 b99 0 = some (.int .i64 n133) ∧ (
 ∃ n134 : Int, hcell H121 b44 0 = some (.int .i64 n134) ∧ (
 ((((n133 : Int) = n134) → (
 R (.bool true) H121)) ∧ (¬ ((n133 : Int) = n134) → (
 R (.bool false) H121))))))) ∧ (¬ ((s67 : ByteArray) = s122) → (
 R (.bool false) H121))))) ∧ (t123 = false → (
 R (.bool false) H121))))) ∧ (t98 = false → (
 R (.bool false) H121))))))))))))))))))))))))))))))))))))))))))))))))))))))))))))))))))))) := by kernel_rfl


end Go.Proofs
end

section
open Go Go.Vc
namespace Go.Proofs
theorem fldW_small {e : Ev} (he : EvOk e) {f : Fld} (hb : (fldW e f).2 = false) : (fldW e f).1.size ≤ 7000 := by
  have hi := fun n h => @intS_size n h
  have ht := fun s => @textW_size s
  obtain ⟨a1, a2, a3, a4, a5, a6, a7, a8, a9, a10, a11, a12, a13, a14⟩ := he
  cases f with
  | name => have := ht e.name; have := of_decide_eq_false hb; simp only [fldW, textF]; omega
  | to => have := ht e.to; have := of_decide_eq_false hb; simp only [fldW, textF]; omega
  | more => have := ht e.more; have := of_decide_eq_false hb; simp only [fldW, textF]; omega
  | path => have := ht e.call.path; have := of_decide_eq_false hb; simp only [fldW, textF]; omega
  | cto => have := ht e.call.to; have := of_decide_eq_false hb; simp only [fldW, textF]; omega
  | n => have := hi e.n a9; simp only [fldW, numF]; omega
  | mode => have := hi e.call.mode a11; simp only [fldW, numF]; omega
  | pos => have := hi e.call.pos a12; simp only [fldW, numF]; omega
  | cn => have := hi e.call.n a13; simp only [fldW, numF]; omega
  | mask => have := of_decide_eq_false hb; simp only [fldW, bytesF, hexB_size]; omega
  | data => have := of_decide_eq_false hb; simp only [fldW, bytesF, hexB_size]; omega
  | time => simp only [fldW, timeF, hexS_size]; omega
theorem print_size {e : Ev} (he : EvOk e) {s : ByteArray} (h : printE e = (s, true)) : s.size ≤ 1000000000 := by
  obtain ⟨hb, rfl⟩ := print_some h
  have h1 := formK_len e.kind
  have h2 := formC_len e.call.kind
  have hm := bad_mem hb
  have key : ∀ (x : ByteArray × List Fld), x.1.size ≤ 1000 → ∀ w ∈ formF e x, w.2 = false → w.1.size ≤ 7000 := by
    intro x hx w hw hf
    unfold formF at hw
    rcases List.mem_cons.1 hw with rfl | hw
    · show x.1.size ≤ _; omega
    · obtain ⟨f, _, rfl⟩ := List.mem_map.1 hw
      exact fldW_small he hf
  have hall : ∀ w ∈ (lineF e).map (·.1), w.size ≤ 7000 := by
    intro w hw
    obtain ⟨x, hx, rfl⟩ := List.mem_map.1 hw
    have hf := hm x hx
    unfold lineF at hx
    rw [List.mem_append] at hx
    rcases hx with hx | hx
    · exact key _ h1.2 x hx hf
    · split at hx
      · exact key _ h2.2 x hx hf
      · simp at hx
  have := joinW_len hall
  have hl := (lineF_size he).1
  rw [List.length_map] at this
  have hq : (lineF e).length * (7000 + 1) ≤ 2002 * 7001 := Nat.mul_le_mul hl (by omega)
  show (joinW _).size ≤ _
  omega
theorem kind_in {e : Ev} {s : ByteArray} (h : printE e = (s, true)) : 1 ≤ e.kind ∧ e.kind ≤ 11 := by
  obtain ⟨hb, _⟩ := print_some h
  have := bad_mem hb ((formK e.kind).1, decide ((formK e.kind).1.size = 0)) (by simp [lineF, formF])
  exact formK_lt (of_decide_eq_false this)
theorem formK_name : ∀ i : Fin 11, (i.val + 1 ≠ 9 ∧ i.val + 1 ≠ 10 ∧ i.val + 1 ≠ 11) → Fld.name ∈ (formK ((i.val : Int) + 1)).2 := by decide
theorem back_law {H : Heap} (g : Glob H) (x0 x1 x2 x3 x4 y0 y1 y2 y3 y4 y5 y6 y7 : Int) {w : Nat} (h0 : In64 y0) (hw : w < 18446744073709551616) {a : Option Addr} {l c : Nat} (hr : ∃ bs, SRow H 1 l (.slice a l c) (bytesV bs) ∧ l ≤ c) {s : ByteArray} (hs : s.size ≤ 10000000) {ma : Option Addr} {ml mc : Nat} (hr2 : ∃ bs, SRow H 1 ml (.slice ma ml mc) (bytesV bs) ∧ ml ≤ mc) {how : Int} (hh : In64 how) :
    Does Tryz.prog 4 [.agg #[.int .i64 x0, .int .i64 x1, .int .i64 x2, .int .i64 x3, .int .i64 x4, .int .i64 y0, .int .i64 y1, .int .i64 y2, .int .i64 y3, .int .i64 y4, .int .i64 y5, .int .i64 y6, .int .i64 y7, .float .f64 w, .slice a l c, .string s, .slice ma ml mc], .int .i64 how] H fun v H' => v = .bool true ∧ Ext [] H H' := by
  refine Fn_of_vc Tryz.mixed (BackV _ _ _ _ _ _ _ _ _ _ _ _ _ _ _ _ _ _ _ _ _ _ _ _) ?_
  intro b1 H2 hn1
  have hx2 : Ext [] H H2 := hn1.ext
  have hb1 := hn1.blk
  refine ⟨_, hb1.cell _, _, hb1.cell _, _, hb1.cell _, _, hb1.cell _, _, hb1.cell _, _, hb1.cell _, _, hb1.cell _, _, hb1.cell _, _, hb1.cell _, _, hb1.cell _, _, hb1.cell _, _, hb1.cell _, _, hb1.cell _, _, hb1.cell _, _, _, _, hb1.cell _, _, hb1.cell _, _, _, _, hb1.cell _, ?_⟩
  obtain ⟨rb, hr', hrl⟩ := hr
  obtain ⟨rb2, hr2', hrl2⟩ := hr2
  refine (event_ok (g.ext hx2) _ _ _ _ _ _ _ _ _ _ _ _ _ h0 hw ⟨rb, srow_ext hr' hx2, hrl⟩ hs ⟨rb2, srow_ext hr2' hx2, hrl2⟩ hh).mono ?_
  rintro _ H25 ⟨e, da, dl, dc, ma', ml', mc', rfl, he, hrw, hx25⟩
  refine ⟨_, _, _, _, _, _, _, _, _, _, _, _, _, _, _, _, _, _, rfl, ?_⟩
  intro b44 H45 hn44
  refine EvX.put14 hrw he (Ext.refl _ _) hn44 (by rfl) fun H46 hev hx46 => ?_
  have hxa := (hx2.trans hx25).trans hx46
  obtain ⟨da, dl, dc, ma', ml', mc', hb, hr, _, _, _⟩ := hev
  refine ⟨_, hb.cell _, _, hb.cell _, _, hb.cell _, _, hb.cell _, _, hb.cell _, _, hb.cell _, _, hb.cell _, _, hb.cell _, _, hb.cell _, _, hb.cell _, _, hb.cell _, _, _, _, hb.cell _, _, hb.cell _, _, _, _, hb.cell _, ?_⟩
  refine (print_ok hr he (g.ext hxa)).mono ?_
  rintro _ H66 ⟨rfl, hx66⟩
  have hxb := hxa.trans hx66
  refine ⟨_, _, rfl, (known_ok (g.ext hxb)).mono ?_⟩
  rintro _ H70 ⟨rfl, hx70⟩
  have hxc := hxb.trans hx70
  refine ⟨_, rfl, (fun h => by cases h), fun _ => ⟨fun hf => ?_, fun ht => ?_⟩⟩
  · refine (known_ok (g.ext hxc)).mono ?_
    rintro _ H76 ⟨rfl, hx76⟩
    exact ⟨_, rfl, rfl, hxc.trans hx76⟩
  have ht : (printE e).2 = true := by cases h : (printE e).2 with
    | true => rfl
    | false => exact absurd h ht
  obtain ⟨s0, hs0⟩ : ∃ s0, printE e = (s0, true) := ⟨(printE e).1, Prod.ext rfl ht⟩
  rw [hs0]
  have hsz : s0.size ≤ 1000000000 := print_size he hs0
  refine (parseS_ok s0 hsz (g.ext hxc)).mono ?_
  rintro _ H79 ⟨hp, hx79⟩
  have hxd := hxc.trans hx79
  obtain ⟨f, fa, fl, fc, na, nl, nc, t, rfl, hrw2, hf, h1, h2⟩ := hp.any
  have htt : t = true := by
    cases t with
    | true => rfl
    | false => exact absurd hs0 (h2 rfl e he.time)
  obtain ⟨hg, hpf⟩ := h1 htt
  obtain ⟨hsame, _⟩ := good_print hg he.time hs0
  refine ⟨_, _, _, _, _, _, _, _, _, _, _, _, _, _, _, _, _, _, _, rfl, ?_⟩
  intro b99 H100 hn99
  refine EvX.put14 hrw2 hf (Ext.refl _ _) hn99 (by rfl) fun H101 hev2 hx101 => ?_
  have hxe := hxd.trans hx101
  obtain ⟨fa, fl, fc, na, nl, nc, hc, hrf, _, _, _⟩ := hev2
  refine ⟨_, hc.cell _, _, hc.cell _, _, hc.cell _, _, hc.cell _, _, hc.cell _, _, hc.cell _, _, hc.cell _, _, hc.cell _, _, hc.cell _, _, hc.cell _, _, hc.cell _, _, _, _, hc.cell _, _, hc.cell _, _, _, _, hc.cell _, ?_⟩
  refine (print_ok hrf hf (g.ext hxe)).mono ?_
  rintro _ H121 ⟨rfl, hx121⟩
  rw [hpf]
  have hxf := hxe.trans hx121
  have hb := hb.ext (((hx66.trans hx70).trans hx79).trans (hx101.trans hx121)) (by simp)
  have hc := hc.ext hx121 (by simp)
  have k1 : f.kind = e.kind := hsame.kind
  have k2 : e.kind ≠ 9 → e.kind ≠ 10 → e.kind ≠ 11 → f.name = e.name := fun q1 q2 q3 => by
    have hk : 1 ≤ e.kind ∧ e.kind ≤ 11 := kind_in hs0
    obtain ⟨i, hi⟩ := fin_int (n := 11) hk
    refine name_of (hsame.flds .name ?_)
    rw [hi]
    exact formK_name i ⟨by omega, by omega, by omega⟩
  refine ⟨_, _, rfl, ?_⟩
  refine ⟨_, hb.cell _, fun q9 => ⟨_, hb.cell _, fun q10 => ⟨_, hb.cell _, fun _ => ⟨fun _ => ⟨fun _ => ⟨_, hc.cell _, _, hb.cell _, fun _ => ⟨fun _ => ⟨rfl, hxf⟩, fun q11 => ⟨_, hc.cell _, _, hb.cell _, ?_, hxf⟩⟩, fun h => absurd k1 h⟩, fun h => absurd rfl h⟩, (fun h => by cases h)⟩, (fun h => by rw [htt] at h; cases h)⟩, fun _ => ⟨fun _ => ⟨fun _ => ⟨fun _ => ⟨_, hc.cell _, _, hb.cell _, fun _ => ⟨rfl, hxf⟩, fun h => absurd k1 h⟩, fun h => absurd rfl h⟩, (fun h => by cases h)⟩, (fun h => by rw [htt] at h; cases h)⟩⟩, fun _ => ⟨fun _ => ⟨fun _ => ⟨fun _ => ⟨_, hc.cell _, _, hb.cell _, fun _ => ⟨rfl, hxf⟩, fun h => absurd k1 h⟩, fun h => absurd rfl h⟩, (fun h => by cases h)⟩, (fun h => by rw [htt] at h; cases h)⟩⟩
  exact congrArg Value.bool (@decide_eq_true _ (Classical.propDecidable _) (k2 q9 q10 (Classical.not_not.1 q11)))
end Go.Proofs
end

section
open Go Go.Vc
namespace Go.Proofs
set_option maxRecDepth 100000
/-- pentimento/pentimentolaw25.ScriptParses -/
theorem ParsesV (x0_0 : Int) (x0_1 : Int) (x0_2 : Int) (x0_3 : Int) (x0_4 : Int) (x0_5 : Int) (x0_6 : Int) (x0_7 : Int) (x0_8 : Int) (x0_9 : Int) (x0_10 : Int) (x0_11 : Int) (x0_12 : Int) (x0_13 : Nat) (x0_14 : Option Addr) (x0_14l : Nat) (x0_14c : Nat) (x0_15 : ByteArray) (x0_16 : Option Addr) (x0_16l : Nat) (x0_16c : Nat) (x1 : Int) (x2 : ByteArray) (x3 : Bool) (x4 : Int) (x5 : Int) (H : Heap) (R : Value → Heap → Prop) : Walk Tryz.prog 3 [(7, [(13, (.string (ByteArray.mk #[])))])] [(.agg #[(.int .i64 x0_0), (.int .i64 x0_1), (.int .i64 x0_2), (.int .i64 x0_3), (.int .i64 x0_4), (.int .i64 x0_5), (.int .i64 x0_6), (.int .i64 x0_7), (.int .i64 x0_8), (.int .i64 x0_9), (.int .i64 x0_10), (.int .i64 x0_11), (.int .i64 x0_12), (.float .f64 x0_13), (.slice x0_14 x0_14l x0_14c), (.string x0_15), (.slice x0_16 x0_16l x0_16c)]), (.int .i64 x1), (.string x2), (.bool x3), (.int .i64 x4), (.int .i64 x5)] H R = (
 ∀ b1 : Nat, ∀ H2 : Heap, New H b1 [(.int .i64 x0_0), (.int .i64 x0_1), (.int .i64 x0_2), (.int .i64 x0_3), (.int .i64 x0_4), (.int .i64 x0_5), (.int .i64 x0_6), (.int .i64 x0_7), (.int .i64 x0_8), (.int .i64 x0_9), (.int .i64 x0_10), (.int .i64 x0_11), (.int .i64 x0_12), (.float .f64 x0_13), (.slice x0_14 x0_14l x0_14c), (.string x0_15), (.slice x0_16 x0_16l x0_16c)] 27 H2 → (
 ∃ n3 : Int, hcell H2 b1 0 = some (.int .i64 n3) ∧ (
 ∃ n4 : Int, hcell H2 b1 (0 + 1) = some (.int .i64 n4) ∧ (
 ∃ n5 : Int, hcell H2 b1 ((0 + 1) + 1) = some (.int .i64 n5) ∧ (
 ∃ n6 : Int, hcell H2 b1 (((0 + 1) + 1) + 1) = some (.int .i64 n6) ∧ (
 ∃ n7 : Int, hcell H2 b1 ((((0 + 1) + 1) + 1) + 1) = some (.int .i64 n7) ∧ (
 ∃ n8 : Int, hcell H2 b1 (((((0 + 1) + 1) + 1) + 1) + 1) = some (.int .i64 n8) ∧ (
 ∃ n9 : Int, hcell H2 b1 ((((((0 + 1) + 1) + 1) + 1) + 1) + 1) = some (.int .i64 n9) ∧ (
 ∃ n10 : Int, hcell H2 b1 (((((((0 + 1) + 1) + 1) + 1) + 1) + 1) + 1) = some (.int .i64 n10) ∧ (
 ∃ n11 : Int, hcell H2 b1 ((((((((0 + 1) + 1) + 1) + 1) + 1) + 1) + 1) + 1) = some (.int .i64 n11) ∧ (
 ∃ n12 : Int, hcell H2 b1 (((((((((0 + 1) + 1) + 1) + 1) + 1) + 1) + 1) + 1) + 1) = some (.int .i64 n12) ∧ (
 ∃ n13 : Int, hcell H2 b1 ((((((((((0 + 1) + 1) + 1) + 1) + 1) + 1) + 1) + 1) + 1) + 1) = some (.int .i64 n13) ∧ (
 ∃ n14 : Int, hcell H2 b1 (((((((((((0 + 1) + 1) + 1) + 1) + 1) + 1) + 1) + 1) + 1) + 1) + 1) = some (.int .i64 n14) ∧ (
 ∃ n15 : Int, hcell H2 b1 ((((((((((((0 + 1) + 1) + 1) + 1) + 1) + 1) + 1) + 1) + 1) + 1) + 1) + 1) = some (.int .i64 n15) ∧ (
 ∃ f16 : Nat, hcell H2 b1 (((((((((((((0 + 1) + 1) + 1) + 1) + 1) + 1) + 1) + 1) + 1) + 1) + 1) + 1) + 1) = some (.float .f64 f16) ∧ (
 ∃ a17 : Option Addr, ∃ l18 : Nat, ∃ c19 : Nat, hcell H2 b1 ((((((((((((((0 + 1) + 1) + 1) + 1) + 1) + 1) + 1) + 1) + 1) + 1) + 1) + 1) + 1) + 1) = some (.slice a17 l18 c19) ∧ (
 ∃ s20 : ByteArray, hcell H2 b1 (((((((((((((((0 + 1) + 1) + 1) + 1) + 1) + 1) + 1) + 1) + 1) + 1) + 1) + 1) + 1) + 1) + 1) = some (.string s20) ∧ (
 ∃ a21 : Option Addr, ∃ l22 : Nat, ∃ c23 : Nat, hcell H2 b1 ((((((((((((((((0 + 1) + 1) + 1) + 1) + 1) + 1) + 1) + 1) + 1) + 1) + 1) + 1) + 1) + 1) + 1) + 1) = some (.slice a21 l22 c23) ∧ (
 Does Tryz.prog 7 [(.agg #[(.int .i64 n3), (.int .i64 n4), (.int .i64 n5), (.int .i64 n6), (.int .i64 n7), (.int .i64 n8), (.int .i64 n9), (.int .i64 n10), (.int .i64 n11), (.int .i64 n12), (.int .i64 n13), (.int .i64 n14), (.int .i64 n15), (.float .f64 f16), (.slice a17 l18 c19), (.string s20), (.slice a21 l22 c23)]), (.int .i64 x1)] H2 fun v24 H25 => ∃ n26 : Int, ∃ s27 : ByteArray, ∃ s28 : ByteArray, ∃ s29 : ByteArray, ∃ n30 : Int, ∃ s31 : ByteArray, ∃ s32 : ByteArray, ∃ n33 : Int, ∃ f34 : Nat, ∃ n35 : Int, ∃ n36 : Int, ∃ a37 : Option Addr, ∃ l38 : Nat, ∃ c39 : Nat, ∃ n40 : Int, ∃ a41 : Option Addr, ∃ l42 : Nat, ∃ c43 : Nat, v24 = (.agg #[(.int .i64 n26), (.string s27), (.string s28), (.string s29), (.int .i64 n30), (.string s31), (.string s32), (.int .i64 n33), (.float .f64 f34), (.int .i64 n35), (.int .i64 n36), (.slice a37 l38 c39), (.int .i64 n40), (.slice a41 l42 c43)]) ∧ (
 Does Tryz.prog 6 [(.agg #[(.int .i64 n26), (.string s27), (.string s28), (.string s29), (.int .i64 n30), (.string s31), (.string s32), (.int .i64 n33), (.float .f64 f34), (.int .i64 n35), (.int .i64 n36), (.slice a37 l38 c39), (.int .i64 n40), (.slice a41 l42 c43)])] H25 fun v44 H45 => ∃ s46 : ByteArray, ∃ t47 : Bool, v44 = (.tuple #[(.string s46), (.bool t47)]) ∧ (
 ∃ I48 : ByteArray → Heap → Prop, (
 ((x3 = true → (
 I48 x2 H45)) ∧ (x3 = false → (
 (((t47 = false) → (
 I48 x2 H45)) ∧ (¬ (t47 = false) → (
 ((3 : Int) ≠ 0) ∧
 ∀ q49 : Int, q49 = Int.tmod x5 3 → (
 ((((0 : Int) < q49) → (
 ((((0 : Int) < (ByteArray.size s46 : Int)) → (
 Does Tryz.prog 8 [(.int .i64 x4), (.int .i64 (ByteArray.size s46 : Int))] H45 fun v50 H51 => ∃ n52 : Int, v50 = (.int .i64 n52) ∧ (
 (0 : Int) ≤ n52 ∧ (n52 : Int) ≤ ((ByteArray.size s46) : Int) ∧ (
 ((9 : Int) ≠ 0) ∧
 ∀ q53 : Int, q53 = IntKind.wrap .i64 (Int.tdiv x5 9) → (
 Does Tryz.prog 8 [(.int .i64 x5), (.int .i64 9)] H51 fun v54 H55 => ∃ n56 : Int, v54 = (.int .i64 n56) ∧ (
 ((0 : Int) ≤ n56 ∧ (n56 : Int) < (9 : Nat) ∧ (n56 : Int) < (9 : Nat) ∧ ∀ s57 : ByteArray, s57 = (List.getD [(ByteArray.mk #[32]), (ByteArray.mk #[48]), (ByteArray.mk #[45]), (ByteArray.mk #[37]), (ByteArray.mk #[]), (ByteArray.mk #[65]), (ByteArray.mk #[103]), (ByteArray.mk #[57]), (ByteArray.mk #[97])] (Int.toNat n56) ByteArray.empty) → (
 (In64 (((ByteArray.size (ByteArray.extract s46 0 (Int.toNat n52))) + (ByteArray.size s57) : Nat) : Int)) ∧
 Does Tryz.prog 8 [(.int .i64 q53), (.int .i64 2)] H55 fun v58 H59 => ∃ n60 : Int, v58 = (.int .i64 n60) ∧ (
 ((In64 (n52 + n60)) ∧
 (0 : Int) ≤ (n52 + n60) ∧ ((n52 + n60) : Int) ≤ ((ByteArray.size s46) : Int) ∧ (
 (In64 (((ByteArray.size ((ByteArray.extract s46 0 (Int.toNat n52)) ++ s57)) + (ByteArray.size (ByteArray.extract s46 (Int.toNat (n52 + n60)) (ByteArray.size s46))) : Nat) : Int)) ∧
 I48 (((ByteArray.extract s46 0 (Int.toNat n52)) ++ s57) ++ (ByteArray.extract s46 (Int.toNat (n52 + n60)) (ByteArray.size s46))) H59))))))))))) ∧ (¬ ((0 : Int) < (ByteArray.size s46 : Int)) → (
 I48 s46 H45))))) ∧ (¬ ((0 : Int) < q49) → (
 I48 s46 H45))))))))))) ∧
 ∀ s61 : ByteArray, ∀ H62 : Heap, I48 s61 H62 → (
 Does Tryz.prog 9 [(.string s61)] H62 fun v63 H64 => ∃ n65 : Int, ∃ s66 : ByteArray, ∃ s67 : ByteArray, ∃ s68 : ByteArray, ∃ n69 : Int, ∃ s70 : ByteArray, ∃ s71 : ByteArray, ∃ n72 : Int, ∃ f73 : Nat, ∃ n74 : Int, ∃ n75 : Int, ∃ a76 : Option Addr, ∃ l77 : Nat, ∃ c78 : Nat, ∃ n79 : Int, ∃ a80 : Option Addr, ∃ l81 : Nat, ∃ c82 : Nat, ∃ t83 : Bool, v63 = (.tuple #[(.agg #[(.int .i64 n65), (.string s66), (.string s67), (.string s68), (.int .i64 n69), (.string s70), (.string s71), (.int .i64 n72), (.float .f64 f73), (.int .i64 n74), (.int .i64 n75), (.slice a76 l77 c78), (.int .i64 n79), (.slice a80 l81 c82)]), (.bool t83)]) ∧ (
 ∀ b84 : Nat, ∀ H85 : Heap, New H64 b84 [(.int .i64 0), (.string (ByteArray.mk #[])), (.string (ByteArray.mk #[])), (.string (ByteArray.mk #[])), (.int .i64 0), (.string (ByteArray.mk #[])), (.string (ByteArray.mk #[])), (.int .i64 0), (.float .f64 0), (.int .i64 0), (.int .i64 0), (.slice none 0 0), (.int .i64 0), (.slice none 0 0)] 33 H85 → (
 Cells H85 b84 0 14 ∧ ∀ H86 : Heap, Puts H85 b84 0 [(.int .i64 n65), (.string s66), (.string s67), (.string s68), (.int .i64 n69), (.string s70), (.string s71), (.int .i64 n72), (.float .f64 f73), (.int .i64 n74), (.int .i64 n75), (.slice a76 l77 c78), (.int .i64 n79), (.slice a80 l81 c82)] H86 → (
 Does Tryz.prog 10 [(.string s61)] H86 fun v87 H88 => ∃ n89 : Int, ∃ s90 : ByteArray, ∃ s91 : ByteArray, ∃ s92 : ByteArray, ∃ n93 : Int, ∃ s94 : ByteArray, ∃ s95 : ByteArray, ∃ n96 : Int, ∃ f97 : Nat, ∃ n98 : Int, ∃ n99 : Int, ∃ a100 : Option Addr, ∃ l101 : Nat, ∃ c102 : Nat, ∃ n103 : Int, ∃ a104 : Option Addr, ∃ l105 : Nat, ∃ c106 : Nat, ∃ t107 : Bool, v87 = (.tuple #[(.agg #[(.int .i64 n89), (.string s90), (.string s91), (.string s92), (.int .i64 n93), (.string s94), (.string s95), (.int .i64 n96), (.float .f64 f97), (.int .i64 n98), (.int .i64 n99), (.slice a100 l101 c102), (.int .i64 n103), (.slice a104 l105 c106)]), (.bool t107)]) ∧ (
 ∀ b108 : Nat, ∀ H109 : Heap, New H88 b108 [(.int .i64 0), (.string (ByteArray.mk #[])), (.string (ByteArray.mk #[])), (.string (ByteArray.mk #[])), (.int .i64 0), (.string (ByteArray.mk #[])), (.string (ByteArray.mk #[])), (.int .i64 0), (.float .f64 0), (.int .i64 0), (.int .i64 0), (.slice none 0 0), (.int .i64 0), (.slice none 0 0)] 33 H109 → (
 Cells H109 b108 0 14 ∧ ∀ H110 : Heap, Puts H109 b108 0 [(.int .i64 n89), (.string s90), (.string s91), (.string s92), (.int .i64 n93), (.string s94), (.string s95), (.int .i64 n96), (.float .f64 f97), (.int .i64 n98), (.int .i64 n99), (.slice a100 l101 c102), (.int .i64 n103), (.slice a104 l105 c106)] H110 → (
 Does Tryz.prog 11 [] H110 fun v111 H112 => ∃ t113 : Bool, v111 = (.bool t113) ∧ (
 ((t113 = true → (
 ((((t83 = true) ↔ (t107 = true)) → (
 (((t107 = false) → (
 R (.bool true) H112)) ∧ (¬ (t107 = false) → (
 ∃ n114 : Int, hcell H112 b84 0 = some (.int .i64 n114) ∧ (
 ∃ s115 : ByteArray, hcell H112 b84 (0 + 1) = some (.string s115) ∧ (
 ∃ s116 : ByteArray, hcell H112 b84 ((0 + 1) + 1) = some (.string s116) ∧ (
 ∃ s117 : ByteArray, hcell H112 b84 (((0 + 1) + 1) + 1) = some (.string s117) ∧ (
 ∃ n118 : Int, hcell H112 b84 ((((0 + 1) + 1) + 1) + 1) = some (.int .i64 n118) ∧ (
 ∃ s119 : ByteArray, hcell H112 b84 (((((0 + 1) + 1) + 1) + 1) + 1) = some (.string s119) ∧ (
 ∃ s120 : ByteArray, hcell H112 b84 ((((((0 + 1) + 1) + 1) + 1) + 1) + 1) = some (.string s120) ∧ (
 ∃ n121 : Int, hcell H112 b84 (((((((0 + 1) + 1) + 1) + 1) + 1) + 1) + 1) = some (.int .i64 n121) ∧ (
 ∃ f122 : Nat, hcell H112 b84 ((((((((0 + 1) + 1) + 1) + 1) + 1) + 1) + 1) + 1) = some (.float .f64 f122) ∧ (
 ∃ n123 : Int, hcell H112 b84 (((((((((0 + 1) + 1) + 1) + 1) + 1) + 1) + 1) + 1) + 1) = some (.int .i64 n123) ∧ (
 ∃ n124 : Int, hcell H112 b84 ((((((((((0 + 1) + 1) + 1) + 1) + 1) + 1) + 1) + 1) + 1) + 1) = some (.int .i64 n124) ∧ (
 ∃ a125 : Option Addr, ∃ l126 : Nat, ∃ c127 : Nat, hcell H112 b84 (((((((((((0 + 1) + 1) + 1) + 1) + 1) + 1) + 1) + 1) + 1) + 1) + 1) = some (.slice a125 l126 c127) ∧ (
 ∃ n128 : Int, hcell H112 b84 ((((((((((((0 + 1) + 1) + 1) + 1) + 1) + 1) + 1) + 1) + 1) + 1) + 1) + 1) = some (.int .i64 n128) ∧ (
 ∃ a129 : Option Addr, ∃ l130 : Nat, ∃ c131 : Nat, hcell H112 b84 (((((((((((((0 + 1) + 1) + 1) + 1) + 1) + 1) + 1) + 1) + 1) + 1) + 1) + 1) + 1) = some (.slice a129 l130 c131) ∧ (
 ∃ n132 : Int, hcell H112 b108 0 = some (.int .i64 n132) ∧ (
 ∃ s133 : ByteArray, hcell H112 b108 (0 + 1) = some (.string s133) ∧ (
 ∃ s134 : ByteArray, hcell H112 b108 ((0 + 1) + 1) = some (.string s134) ∧ (
 ∃ s135 : ByteArray, hcell H112 b108 (((0 + 1) + 1) + 1) = some (.string s135) ∧ (
 ∃ n136 : Int, hcell H112 b108 ((((0 + 1) + 1) + 1) + 1) = some (.int .i64 n136) ∧ (
 ∃ s137 : ByteArray, hcell H112 b108 (((((0 + 1) + 1) + 1) + 1) + 1) = some (.string s137) ∧ (
 ∃ s138 : ByteArray, hcell H112 b108 ((((((0 + 1) + 1) + 1) + 1) + 1) + 1) = some (.string s138) ∧ (
 ∃ n139 : Int, hcell H112 b108 (((((((0 + 1) + 1) + 1) + 1) + 1) + 1) + 1) = some (.int .i64 n139) ∧ (
 ∃ f140 : Nat, hcell H112 b108 ((((((((0 + 1) + 1) + 1) + 1) + 1) + 1) + 1) + 1) = some (.float .f64 f140) ∧ (
 ∃ n141 : Int, hcell H112 b108 (((((((((0 + 1) + 1) + 1) + 1) + 1) + 1) + 1) + 1) + 1) = some (.int .i64 n141) ∧ (
 ∃ n142 : Int, hcell H112 b108 ((((((((((0 + 1) + 1) + 1) + 1) + 1) + 1) + 1) + 1) + 1) + 1) = some (.int .i64 n142) ∧ (
 ∃ a143 : Option Addr, ∃ l144 : Nat, ∃ c145 : Nat, hcell H112 b108 (((((((((((0 + 1) + 1) + 1) + 1) + 1) + 1) + 1) + 1) + 1) + 1) + 1) = some (.slice a143 l144 c145) ∧ (
 ∃ n146 : Int, hcell H112 b108 ((((((((((((0 + 1) + 1) + 1) + 1) + 1) + 1) + 1) + 1) + 1) + 1) + 1) + 1) = some (.int .i64 n146) ∧ (
 ∃ a147 : Option Addr, ∃ l148 : Nat, ∃ c149 : Nat, hcell H112 b108 (((((((((((((0 + 1) + 1) + 1) + 1) + 1) + 1) + 1) + 1) + 1) + 1) + 1) + 1) + 1) = some (.slice a147 l148 c149) ∧ (
 Does Tryz.prog 12 [(.agg #[(.int .i64 n114), (.string s115), (.string s116), (.string s117), (.int .i64 n118), (.string s119), (.string s120), (.int .i64 n121), (.float .f64 f122), (.int .i64 n123), (.int .i64 n124), (.slice a125 l126 c127), (.int .i64 n128), (.slice a129 l130 c131)]), (.agg #[(.int .i64 n132), (.string s133), (.string s134), (.string s135), (.int .i64 n136), (.string s137), (.string s138), (.int .i64 n139), (.float .f64 f140), (.int .i64 n141), (.int .i64 n142), (.slice a143 l144 c145), (.int .i64 n146), (.slice a147 l148 c149)])] H112 fun v150 H151 => ∃ t152 : Bool, v150 = (.bool t152) ∧ (
 R (.bool t152) H151)))))))))))))))))))))))))))))))))) ∧ (¬ ((t83 = true) ↔ (t107 = true)) → (
 R (.bool false) H112))))) ∧ (t113 = false → (
 R (.bool false) H112)))))))))))))))))))))))))))))))) := by kernel_rfl


end Go.Proofs
end

section
open Go Go.Vc
namespace Go.Proofs
theorem print_small {e : Ev} (he : EvOk e) {s : ByteArray} (h : printE e = (s, true)) : s.size ≤ 100000000 := by
  obtain ⟨hb, rfl⟩ := print_some h
  have h1 := formK_len e.kind
  have h2 := formC_len e.call.kind
  have hm := bad_mem hb
  have key : ∀ (x : ByteArray × List Fld), x.1.size ≤ 1000 → ∀ w ∈ formF e x, w.2 = false → w.1.size ≤ 7000 := by
    intro x hx w hw hf
    unfold formF at hw
    rcases List.mem_cons.1 hw with rfl | hw
    · show x.1.size ≤ _; omega
    · obtain ⟨f, _, rfl⟩ := List.mem_map.1 hw
      exact fldW_small he hf
  have hall : ∀ w ∈ (lineF e).map (·.1), w.size ≤ 7000 := by
    intro w hw
    obtain ⟨x, hx, rfl⟩ := List.mem_map.1 hw
    have hf := hm x hx
    unfold lineF at hx
    rw [List.mem_append] at hx
    rcases hx with hx | hx
    · exact key _ h1.2 x hx hf
    · split at hx
      · exact key _ h2.2 x hx hf
      · simp at hx
  have := joinW_len hall
  have hl := (lineF_size he).1
  rw [List.length_map] at this
  have hq : (lineF e).length * (7000 + 1) ≤ 2002 * 7001 := Nat.mul_le_mul hl (by omega)
  show (joinW _).size ≤ _
  omega
theorem ex_size (s : ByteArray) (i j : Nat) : (s.extract i j).size ≤ s.size := by
  rw [ByteArray.size_extract]; omega
theorem nine_size : ∀ k, k < 9 → (List.getD [(ByteArray.mk #[32]), (ByteArray.mk #[48]), (ByteArray.mk #[45]), (ByteArray.mk #[37]), (ByteArray.mk #[]), (ByteArray.mk #[65]), (ByteArray.mk #[103]), (ByteArray.mk #[57]), (ByteArray.mk #[97])] k ByteArray.empty).size ≤ 10 := by decide
theorem parses_law {H : Heap} (g : Glob H) (x0 x1 x2 x3 x4 y0 y1 y2 y3 y4 y5 y6 y7 : Int) {w : Nat} (h0 : In64 y0) (hw : w < 18446744073709551616) {a : Option Addr} {l c : Nat} (hr : ∃ bs, SRow H 1 l (.slice a l c) (bytesV bs) ∧ l ≤ c) {s : ByteArray} (hs : s.size ≤ 10000000) {ma : Option Addr} {ml mc : Nat} (hr2 : ∃ bs, SRow H 1 ml (.slice ma ml mc) (bytesV bs) ∧ ml ≤ mc) {how : Int} (hh : In64 how) {rs : ByteArray} (hrs : rs.size ≤ 100000000) (any : Bool) (at_ wi : Int) :
    Does Tryz.prog 3 [.agg #[.int .i64 x0, .int .i64 x1, .int .i64 x2, .int .i64 x3, .int .i64 x4, .int .i64 y0, .int .i64 y1, .int .i64 y2, .int .i64 y3, .int .i64 y4, .int .i64 y5, .int .i64 y6, .int .i64 y7, .float .f64 w, .slice a l c, .string s, .slice ma ml mc], .int .i64 how, .string rs, .bool any, .int .i64 at_, .int .i64 wi] H fun v H' => v = .bool true ∧ Ext [] H H' := by
  refine Fn_of_vc Tryz.mixed (ParsesV _ _ _ _ _ _ _ _ _ _ _ _ _ _ _ _ _ _ _ _ _ _ _ _ _ _ _ _) ?_
  intro b1 H2 hn1
  have hx2 : Ext [] H H2 := hn1.ext
  have hb1 := hn1.blk
  refine ⟨_, hb1.cell _, _, hb1.cell _, _, hb1.cell _, _, hb1.cell _, _, hb1.cell _, _, hb1.cell _, _, hb1.cell _, _, hb1.cell _, _, hb1.cell _, _, hb1.cell _, _, hb1.cell _, _, hb1.cell _, _, hb1.cell _, _, hb1.cell _, _, _, _, hb1.cell _, _, hb1.cell _, _, _, _, hb1.cell _, ?_⟩
  obtain ⟨rb, hr', hrl⟩ := hr
  obtain ⟨rb2, hr2', hrl2⟩ := hr2
  refine (event_ok (g.ext hx2) _ _ _ _ _ _ _ _ _ _ _ _ _ h0 hw ⟨rb, srow_ext hr' hx2, hrl⟩ hs ⟨rb2, srow_ext hr2' hx2, hrl2⟩ hh).mono ?_
  rintro _ H25 ⟨e, da, dl, dc, ma', ml', mc', rfl, he, hrw, hx25⟩
  refine ⟨_, _, _, _, _, _, _, _, _, _, _, _, _, _, _, _, _, _, rfl, ?_⟩
  refine (rprint_ok hrw he).mono ?_
  rintro _ H45 ⟨rfl, hx45⟩
  have hxa := (hx2.trans hx25).trans hx45
  refine ⟨_, _, rfl, fun s H' => s.size ≤ 1000000000 ∧ Ext [] H H', ?_, ?_⟩
  · refine ⟨fun _ => ⟨by omega, hxa⟩, fun _ => ⟨fun _ => ⟨by omega, hxa⟩, fun ht => ?_⟩⟩
    have hsz : (printE e).1.size ≤ 100000000 := by
      refine print_small he (s := (printE e).1) (Prod.ext rfl ?_)
      cases h : (printE e).2 with
      | true => rfl
      | false => exact absurd h ht
    refine ⟨by decide, fun q _ => ⟨fun _ => ⟨fun hpos => ?_, fun _ => ⟨by omega, hxa⟩⟩, fun _ => ⟨by omega, hxa⟩⟩⟩
    refine (pick_ok at_ _ H45 hpos (by omega)).mono ?_
    rintro _ _ ⟨rfl, rfl⟩
    have m0 : 0 ≤ at_ % ((printE e).1.size : Int) := Int.emod_nonneg _ (by omega)
    have m1 : at_ % ((printE e).1.size : Int) < ((printE e).1.size : Int) := Int.emod_lt_of_pos _ hpos
    refine ⟨_, rfl, m0, by omega, by decide, fun q2 _ => ?_⟩
    refine (pick_ok wi 9 _ (by decide) (by decide)).mono ?_
    rintro _ _ ⟨rfl, rfl⟩
    have n0 : 0 ≤ wi % 9 := by omega
    have n1 : wi % 9 < 9 := by omega
    refine ⟨_, rfl, n0, n1, n1, fun s57 e57 => ?_⟩
    have z57 : s57.size ≤ 10 := by rw [e57]; exact nine_size _ (by omega)
    have x1 := ex_size (printE e).1 0 (at_ % ((printE e).1.size : Int)).toNat
    refine ⟨⟨by omega, by omega⟩, ?_⟩
    refine (pick_ok q2 2 _ (by decide) (by decide)).mono ?_
    rintro _ _ ⟨rfl, rfl⟩
    have x2 := ex_size (printE e).1 (at_ % ((printE e).1.size : Int) + q2 % 2).toNat (printE e).1.size
    have x3 := ByteArray.size_append (a := (printE e).1.extract 0 (at_ % ((printE e).1.size : Int)).toNat) (b := s57)
    refine ⟨_, rfl, ⟨by omega, by omega⟩, by omega, by omega, ⟨by omega, by omega⟩, ?_, hxa⟩
    rw [ByteArray.size_append]
    omega
  · rintro s H62 ⟨hsz, hx62⟩
    refine (parseS_ok s hsz (g.ext hx62)).mono ?_
    rintro _ H64 ⟨hp, hx64⟩
    obtain ⟨e1, da, dl, dc, ma, ml, mc, t1, rfl, hrw1, he1, h1, h2⟩ := hp.any
    refine ⟨_, _, _, _, _, _, _, _, _, _, _, _, _, _, _, _, _, _, _, rfl, ?_⟩
    intro b84 H85 hn84
    refine EvX.put14 hrw1 he1 (Ext.refl _ _) hn84 (by rfl) fun H86 hev1 hx86 => ?_
    have hxb := (hx62.trans hx64).trans hx86
    refine (rparseS_ok s hsz H86).mono ?_
    rintro _ H88 ⟨hq, hx88⟩
    obtain ⟨e2, fa, fl, fc, na, nl, nc, t2, rfl, hrw2, he2, k1, k2⟩ := hq.any
    refine ⟨_, _, _, _, _, _, _, _, _, _, _, _, _, _, _, _, _, _, _, rfl, ?_⟩
    intro b108 H109 hn108
    refine EvX.put14 hrw2 he2 (Ext.refl _ _) hn108 (by rfl) fun H110 hev2 hx110 => ?_
    have hxc := (hxb.trans hx88).trans hx110
    refine (known_ok (g.ext hxc)).mono ?_
    rintro _ H112 ⟨rfl, hx112⟩
    have hxd := hxc.trans hx112
    have htt : t1 = t2 := by
      cases t1 with
      | true =>
        cases t2 with
        | true => rfl
        | false => exact absurd (h1 rfl).2 (k2 rfl e1 he1.time)
      | false =>
        cases t2 with
        | true => exact absurd (k1 rfl).2 (h2 rfl e2 he2.time)
        | false => rfl
    subst htt
    refine ⟨_, rfl, fun _ => ⟨fun _ => ⟨fun _ => ⟨rfl, hxd⟩, fun ht => ?_⟩, fun hn => absurd Iff.rfl hn⟩, fun h => by cases h⟩
    have ht : t1 = true := by cases t1 with
      | true => rfl
      | false => exact absurd rfl ht
    obtain ⟨da, dl, dc, ma, ml, mc, hb, hrb, _, _, _⟩ := hev1.more ((hx88.trans hx110).trans hx112)
    obtain ⟨fa, fl, fc, na, nl, nc, hc, hrc, _, _, _⟩ := hev2.more hx112
    refine ⟨_, hb.cell _, _, hb.cell _, _, hb.cell _, _, hb.cell _, _, hb.cell _, _, hb.cell _, _, hb.cell _, _, hb.cell _, _, hb.cell _, _, hb.cell _, _, hb.cell _, _, _, _, hb.cell _, _, hb.cell _, _, _, _, hb.cell _, _, hc.cell _, _, hc.cell _, _, hc.cell _, _, hc.cell _, _, hc.cell _, _, hc.cell _, _, hc.cell _, _, hc.cell _, _, hc.cell _, _, hc.cell _, _, hc.cell _, _, _, _, hc.cell _, _, hc.cell _, _, _, _, hc.cell _, ?_⟩
    refine (same_ok hrb hrc he1 he2 (h1 ht).2 (k1 ht).2).mono ?_
    rintro _ H' ⟨rfl, hx'⟩
    exact ⟨_, rfl, rfl, hxd.trans hx'⟩
end Go.Proofs
end

section
open Go Go.Vc
namespace Go.Proofs
theorem kall1 {R : Rd} {r : List (Nat × Rd)} {H : Heap} {cs : List Value} (h : KAll ((1, R) :: r) H cs) : ∃ v t, cs = v :: t ∧ R H [v] ∧ KAll r H t := by
  obtain ⟨h1, h2, h3⟩ := h
  cases cs with
  | nil => simp at h1
  | cons v t => exact ⟨v, t, rfl, by simpa using h2, by simpa using h3⟩
theorem kalln {c : Nat} {R : Rd} {r : List (Nat × Rd)} {H : Heap} {cs : List Value} (h : KAll ((c, R) :: r) H cs) : ∃ u t, cs = u ++ t ∧ R H u ∧ KAll r H t := by
  obtain ⟨h1, h2, h3⟩ := h
  exact ⟨cs.take c, cs.drop c, (List.take_append_drop c cs).symm, h2, h3⟩
theorem kall_int {k : IntKind} {r : List (Nat × Rd)} {H : Heap} {cs : List Value} (h : KAll ((1, KInt k) :: r) H cs) : ∃ n t, cs = .int k n :: t ∧ (Lit.int k n).wf = true ∧ KAll r H t := by
  obtain ⟨v, t, rfl, ⟨n, h2, h3⟩, h4⟩ := kall1 h
  exact ⟨n, t, by rw [List.cons.inj h2 |>.1], h3, h4⟩
theorem kall_flo {k : FloatKind} {r : List (Nat × Rd)} {H : Heap} {cs : List Value} (h : KAll ((1, KFlo k) :: r) H cs) : ∃ n t, cs = .float k n :: t ∧ (Lit.float k n).wf = true ∧ KAll r H t := by
  obtain ⟨v, t, rfl, ⟨n, h2, h3⟩, h4⟩ := kall1 h
  exact ⟨n, t, by rw [List.cons.inj h2 |>.1], h3, h4⟩
theorem kall_str {B : Nat} {r : List (Nat × Rd)} {H : Heap} {cs : List Value} (h : KAll ((1, KStrB B) :: r) H cs) : ∃ n t, cs = .string n :: t ∧ n.size ≤ B ∧ KAll r H t := by
  obtain ⟨v, t, rfl, ⟨n, h2, h3⟩, h4⟩ := kall1 h
  exact ⟨n, t, by rw [List.cons.inj h2 |>.1], h3, h4⟩
theorem kall_bytes {B : Nat} {r : List (Nat × Rd)} {H : Heap} {cs : List Value} (h : KAll ((1, KBytesB B) :: r) H cs) : ∃ a l c xs t, cs = .slice a l c :: t ∧ (l ≤ B ∧ l ≤ c ∧ SRow H 1 l (.slice a l c) (bytesV xs)) ∧ KAll r H t := by
  obtain ⟨v, t, rfl, ⟨a, l, c, xs, h2, h3, h4, h5, h6⟩, h7⟩ := kall1 h
  exact ⟨a, l, c, xs, t, by rw [List.cons.inj h2 |>.1], ⟨h4, h5, h6⟩, h7⟩
theorem kall_nil {H : Heap} {cs : List Value} (h : KAll [] H cs) : cs = [] := h
theorem wf64 {n : Int} (h : (Lit.int .i64 n).wf = true) : In64 n := by
  simp only [Lit.wf, IntKind.min, IntKind.max, IntKind.signed, IntKind.bits] at h
  simp at h
  exact ⟨by omega, by omega⟩
theorem wff {n : Nat} (h : (Lit.float .f64 n).wf = true) : n < 18446744073709551616 := by
  simp only [Lit.wf] at h
  have := of_decide_eq_true h
  simpa [FloatKind.format, Ieee.double] using this
abbrev callRd (B : Nat) : Rd := KAll [(1, KInt .i64), (1, KInt .i64), (1, KInt .i64), (1, KInt .i64), (1, KInt .i64), (1, KInt .i64), (1, KInt .i64), (1, KInt .i64), (1, KFlo .f64), (1, KBytesB B), (1, KStrB B)]
abbrev rawRd (B : Nat) : Rd := KAll [(1, KInt .i64), (1, KInt .i64), (1, KInt .i64), (1, KInt .i64), (1, KInt .i64), (11, callRd B), (1, KBytesB B)]
theorem raw_open {B : Nat} (hB : B ≤ 10000000) {H : Heap} {cs : Array Value} (h : rawRd B H cs.toList) : ∃ (x0 x1 x2 x3 x4 y0 y1 y2 y3 y4 y5 y6 y7 : Int) (w : Nat) (a : Option Addr) (l c : Nat) (s : ByteArray) (ma : Option Addr) (ml mc : Nat),
    cs = #[.int .i64 x0, .int .i64 x1, .int .i64 x2, .int .i64 x3, .int .i64 x4, .int .i64 y0, .int .i64 y1, .int .i64 y2, .int .i64 y3, .int .i64 y4, .int .i64 y5, .int .i64 y6, .int .i64 y7, .float .f64 w, .slice a l c, .string s, .slice ma ml mc] ∧ In64 y0 ∧ w < 18446744073709551616 ∧ (∃ bs, SRow H 1 l (.slice a l c) (bytesV bs) ∧ l ≤ c) ∧ s.size ≤ 10000000 ∧ (∃ bs, SRow H 1 ml (.slice ma ml mc) (bytesV bs) ∧ ml ≤ mc) := by
  obtain ⟨cs⟩ := cs
  obtain ⟨x0, t0, rfl, _, h⟩ := kall_int h
  obtain ⟨x1, t1, rfl, _, h⟩ := kall_int h
  obtain ⟨x2, t2, rfl, _, h⟩ := kall_int h
  obtain ⟨x3, t3, rfl, _, h⟩ := kall_int h
  obtain ⟨x4, t4, rfl, _, h⟩ := kall_int h
  obtain ⟨u, t5, rfl, hu, h⟩ := kalln h
  obtain ⟨ma, ml, mc, mb, t6, rfl, hm, h⟩ := kall_bytes h
  have h := kall_nil h
  subst h
  obtain ⟨y0, u0, rfl, w0, hu⟩ := kall_int hu
  obtain ⟨y1, u1, rfl, _, hu⟩ := kall_int hu
  obtain ⟨y2, u2, rfl, _, hu⟩ := kall_int hu
  obtain ⟨y3, u3, rfl, _, hu⟩ := kall_int hu
  obtain ⟨y4, u4, rfl, _, hu⟩ := kall_int hu
  obtain ⟨y5, u5, rfl, _, hu⟩ := kall_int hu
  obtain ⟨y6, u6, rfl, _, hu⟩ := kall_int hu
  obtain ⟨y7, u7, rfl, _, hu⟩ := kall_int hu
  obtain ⟨w, u8, rfl, hw, hu⟩ := kall_flo hu
  obtain ⟨a, l, c, bs, u9, rfl, hd, hu⟩ := kall_bytes hu
  obtain ⟨s, u10, rfl, hs, hu⟩ := kall_str hu
  have hu := kall_nil hu
  subst hu
  exact ⟨x0, x1, x2, x3, x4, y0, y1, y2, y3, y4, y5, y6, y7, w, a, l, c, s, ma, ml, mc, rfl, wf64 w0, wff hw, ⟨bs, hd.2.2, hd.2.1⟩, by omega, ⟨mb, hm.2.2, hm.2.1⟩⟩
theorem back_row (H : Heap) (g : Glob H) (cs : Array Value) (s : rawRd 1048576 H cs.toList) (a : Int) (w : (Lit.int .i64 a).wf = true) : Does Tryz.prog 4 [.agg cs, .int .i64 a] H fun v H' => v = .bool true ∧ Ext [] H H' := by
  obtain ⟨x0, x1, x2, x3, x4, y0, y1, y2, y3, y4, y5, y6, y7, wt, d, l, c, st, ma, ml, mc, rfl, h0, hw, hr, hs, hr2⟩ := raw_open (by decide) s
  exact back_law g _ _ _ _ _ _ _ _ _ _ _ _ _ h0 hw hr hs hr2 (wf64 w)
theorem parses_row (H : Heap) (g : Glob H) (cs : Array Value) (s : rawRd 1048576 H cs.toList) (a : Int) (w : (Lit.int .i64 a).wf = true) (b : ByteArray) (hb : b.size ≤ 1048576) (c : Bool) (d : Int) (_ : (Lit.int .i64 d).wf = true) (e : Int) (_ : (Lit.int .i64 e).wf = true) : Does Tryz.prog 3 [.agg cs, .int .i64 a, .string b, .bool c, .int .i64 d, .int .i64 e] H fun v H' => v = .bool true ∧ Ext [] H H' := by
  obtain ⟨x0, x1, x2, x3, x4, y0, y1, y2, y3, y4, y5, y6, y7, wt, dd, l, cc, st, ma, ml, mc, rfl, h0, hw, hr, hs, hr2⟩ := raw_open (by decide) s
  exact parses_law g _ _ _ _ _ _ _ _ _ _ _ _ _ h0 hw hr hs hr2 (wf64 w) (by omega) _ _ _
end Go.Proofs
end

