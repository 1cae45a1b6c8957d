/-
  Rows of layers: their order, their ancestors, their chains, and the contracts of the functions of the package graph. No condition.
-/
import Derived.Shelf.Sort.Plain
import Derived.Shelf.Slices.Reverse
import Derived.Shelf.Slices.In.SortNone
import Derived.Test.YtppjhnepmolboaaProg
import Derived.Test.YtppjhnepmolboaaVd

section
open Go Go.Vc
namespace Go.Proofs
open Go.Shelf Go.Sort
def Try.lays189_ren : Go.Shelf.Ren := ⟨fun | 189 => 63 | 125 => 93 | 257 => 92 | 128 => 109 | 129 => 110 | 294 => 100 | 295 => 101 | 296 => 102 | 297 => 103 | 298 => 104 | 299 => 105 | 216 => 106 | 300 => 107 | 301 => 108 | 328 => 115 | 329 => 116 | 330 => 117 | 331 => 118 | 332 => 119 | 215 => 87 | 343 => 122 | n => n, fun | 28 => 22 | 3 => 3 | 46 => 99 | 0 => 0 | 51 => 121 | 53 => 31 | 4 => 4 | 183 => 114 | 182 => 113 | 131 => 37 | 5 => 5 | 9 => 9 | 218 => 124 | 222 => 128 | 228 => 130 | 229 => 70 | n => n, fun | n => n⟩
theorem Try.lays189 : Go.Proofs.Lays.n189 Try.prog Try.lays189_ren := {
  mixed := by kernel_rfl
  f125 := Try.func93.trans (congrArg some (by kernel_rfl))
  f128 := Try.func109.trans (congrArg some (by kernel_rfl))
  f129 := Try.func110.trans (congrArg some (by kernel_rfl))
  f189 := Try.func63.trans (congrArg some (by kernel_rfl))
  f215 := Try.func87.trans (congrArg some (by kernel_rfl))
  f216 := Try.func106.trans (congrArg some (by kernel_rfl))
  f257 := Try.func92.trans (congrArg some (by kernel_rfl))
  f294 := Try.func100.trans (congrArg some (by kernel_rfl))
  f295 := Try.func101.trans (congrArg some (by kernel_rfl))
  f296 := Try.func102.trans (congrArg some (by kernel_rfl))
  f297 := Try.func103.trans (congrArg some (by kernel_rfl))
  f298 := Try.func104.trans (congrArg some (by kernel_rfl))
  f299 := Try.func105.trans (congrArg some (by kernel_rfl))
  f300 := Try.func107.trans (congrArg some (by kernel_rfl))
  f301 := Try.func108.trans (congrArg some (by kernel_rfl))
  f328 := Try.func115.trans (congrArg some (by kernel_rfl))
  f329 := Try.func116.trans (congrArg some (by kernel_rfl))
  f330 := Try.func117.trans (congrArg some (by kernel_rfl))
  f331 := Try.func118.trans (congrArg some (by kernel_rfl))
  f332 := Try.func119.trans (congrArg some (by kernel_rfl))
  f343 := Try.func122.trans (congrArg some (by kernel_rfl))
  t0 := Try.underlying0
  a0 := Try.isAgg0
  z0 := Try.sizeOf0
  v0 := Try.zeroValue0
  t3 := Try.underlying3
  a3 := Try.isAgg3
  z3 := Try.sizeOf3
  v3 := Try.zeroValue3
  t4 := Try.underlying4
  a4 := Try.isAgg4
  z4 := Try.sizeOf4
  v4 := Try.zeroValue4
  t5 := Try.underlying5
  a5 := Try.isAgg5
  z5 := Try.sizeOf5
  v5 := Try.zeroValue5
  t9 := Try.underlying9
  a9 := Try.isAgg9
  z9 := Try.sizeOf9
  v9 := Try.zeroValue9
  t28 := Try.underlying22
  a28 := Try.isAgg22
  z28 := Try.sizeOf22
  v28 := Try.zeroValue22
  t46 := Try.underlying99
  a46 := Try.isAgg99
  z46 := Try.sizeOf99
  v46 := Try.zeroValue99
  t51 := Try.underlying121
  a51 := Try.isAgg121
  z51 := Try.sizeOf121
  v51 := Try.zeroValue121
  t53 := Try.underlying31
  a53 := Try.isAgg31
  z53 := Try.sizeOf31
  v53 := Try.zeroValue31
  t131 := Try.underlying37
  a131 := Try.isAgg37
  z131 := Try.sizeOf37
  v131 := Try.zeroValue37
  t182 := Try.underlying113
  a182 := Try.isAgg113
  z182 := Try.sizeOf113
  v182 := Try.zeroValue113
  t183 := Try.underlying114
  a183 := Try.isAgg114
  z183 := Try.sizeOf114
  v183 := Try.zeroValue114
  t218 := Try.underlying124
  a218 := Try.isAgg124
  z218 := Try.sizeOf124
  v218 := Try.zeroValue124
  t222 := Try.underlying128
  a222 := Try.isAgg128
  z222 := Try.sizeOf128
  v222 := Try.zeroValue128
  t228 := Try.underlying130
  a228 := Try.isAgg130
  z228 := Try.sizeOf130
  v228 := Try.zeroValue130
  t229 := Try.underlying70
  a229 := Try.isAgg70
  z229 := Try.sizeOf70
  v229 := Try.zeroValue70 }
open Go.Sort Go.RowKit in
theorem Try.slices_Sort_int (blk off cap : Nat) (zs : List Int) (w : World) (hH : Holds (Value.int .i64) w blk off zs.toArray) (hblk : blk < w.heap.size) (hsz : zs.length < 4611686018427387904) :
    Calls Try.prog 63 #[.slice (some ⟨blk, off, none⟩) zs.length cap] w fun e w' =>
      e = .returned (.tuple #[]) ∧ ∃ n os, w' = grow (putRow (Value.int .i64) (Sort.ahead w n) blk off (zs.mergeSort fun x y => decide (x ≤ y)).toArray) os := Any.slices_Sort_int Try.lays189 blk off cap zs w hH hblk hsz
theorem Try.slices_Sort_int_none (p : Option Addr) (cap : Nat) (w : World) :
    Calls Try.prog 63 #[.slice p 0 cap] w fun e w' => e = .returned (.tuple #[]) ∧ w' = w := Any.slices_Sort_int_none Try.lays189 p cap w
def Try.lays112_ren : Go.Shelf.Ren := ⟨fun | 112 => 67 | n => n, fun | 28 => 22 | 3 => 3 | 4 => 4 | 0 => 0 | n => n, fun | n => n⟩
theorem Try.lays112 : Go.Proofs.Lays.n112 Try.prog Try.lays112_ren := {
  mixed := by kernel_rfl
  f112 := Try.func67.trans (congrArg some (by kernel_rfl))
  t0 := Try.underlying0
  a0 := Try.isAgg0
  z0 := Try.sizeOf0
  v0 := Try.zeroValue0
  t3 := Try.underlying3
  a3 := Try.isAgg3
  z3 := Try.sizeOf3
  v3 := Try.zeroValue3
  t4 := Try.underlying4
  a4 := Try.isAgg4
  z4 := Try.sizeOf4
  v4 := Try.zeroValue4
  t28 := Try.underlying22
  a28 := Try.isAgg22
  z28 := Try.sizeOf22
  v28 := Try.zeroValue22 }
section
open Go.RowKit Go.Lib
theorem Try.slices_Reverse_int (blk off cap : Nat) (zs : List Int) (w : World) (hH : Holds (Value.int .i64) w blk off zs.toArray) (hsz : zs.length ≤ 9223372036854775807) :
    Calls Try.prog 67 #[.slice (some ⟨blk, off, none⟩) zs.length cap] w fun e w' => e = .returned (.tuple #[]) ∧ ∃ n, w' = putRow (Value.int .i64) (Sort.ahead w n) blk off zs.reverse.toArray := Any.slices_Reverse_int Try.lays112 blk off cap zs w hH hsz
theorem Try.slices_Reverse_int_empty (a : Option Addr) (cap : Nat) (w : World) :
    Calls Try.prog 67 #[.slice a 0 cap] w fun e w' => e = .returned (.tuple #[]) ∧ w' = w := Any.slices_Reverse_int_empty Try.lays112 a cap w
end


theorem put_cells {enc : Int → Value} (d : Array Int) (xs tail : List Value) (h : xs.length = d.size) : (putCells enc 0 d (xs ++ tail).toArray) = (d.toList.map enc ++ tail).toArray := by
  apply Array.ext_getElem?
  intro k
  simp only [putCells, Array.getElem?_mapIdx, List.getElem?_toArray, Nat.zero_le, true_and, Nat.zero_add, Nat.sub_zero]
  by_cases hk : k < d.size
  · rw [List.getElem?_append_left (by omega), List.getElem?_append_left (by simpa using hk), List.getElem?_eq_getElem (by omega)]
    simp [hk]
  · rw [List.getElem?_append_right (by omega), List.getElem?_append_right (by simpa using hk)]
    simp only [if_neg hk, List.length_map, Array.length_toList, h]
    cases tail[k - d.size]? <;> rfl

def ints (zs : List Int) : List Value := zs.map fun z => .int .i64 z
def sorted (zs : List Int) : List Int := zs.mergeSort fun x y => decide (x ≤ y)

/-- slices.Sort of ints, of a slice of one's own. -/
theorem sort_ok {H : Heap} {a : Option Addr} {n c : Nat} {zs : List Int} (ho : Own H 1 a n c (ints zs)) (hN : n ≤ 1000000) : Does Try.prog 63 [.slice a n c] H fun v H' => v = .tuple #[] ∧ Own H' 1 a n c (ints (sorted zs)) ∧ Ext (blkOf a) H H' := by
  obtain ⟨h1, h2, h3, h4⟩ := ho
  have hn : zs.length = n := by simpa [ints] using h1
  intro w hw
  subst hw
  rcases h4 with ⟨rfl, rfl⟩ | ⟨b, tail, rfl, hb, hl⟩
  · obtain rfl : n = 0 := by omega
    obtain rfl : zs = [] := by simpa using hn
    refine (Try.slices_Sort_int_none none 0 w).mono ?_
    rintro e w' ⟨rfl, rfl⟩
    refine ⟨_, rfl, ⟨rfl, rfl, rfl⟩, rfl, ?_, Ext.refl _ _⟩
    have : sorted [] = [] := by simp [sorted]
    rw [this]
    exact Own.nil _ _
  · subst hn
    have hsz : (ints zs ++ tail).length = c := by simpa using hl
    refine (Try.slices_Sort_int b 0 c zs w ?_ hb.lt ?_).mono ?_
    · intro j hj
      have hj' : j < zs.length := by simpa using hj
      have hc := hb.cell j
      rw [List.getElem?_append_left (by simpa [ints] using hj')] at hc
      constructor
      · show w.cell? ⟨b, 0 + j, none⟩ = _
        rw [Nat.zero_add, cell_eq, hc]
        simp [ints, hj']
      · rw [Nat.zero_add, frozen_eq]
        exact hb.free j
    · omega
    · rintro e w' ⟨rfl, k, os, rfl⟩
      refine ⟨_, rfl, ⟨rfl, rfl, rfl⟩, rfl, ?_, ?_⟩
      · obtain ⟨e, hb⟩ := hb
        have hlt := (Array.getElem?_eq_some_iff.1 hb).1
        have hs : (sorted zs).length = zs.length := by simp [sorted]
        refine ⟨by simp [ints, hs], h2, h3, .inr ⟨b, tail, rfl, ⟨e, ?_⟩, ?_⟩⟩
        · show (w.heap.modify b (onCells (putCells (Value.int .i64) 0 (sorted zs).toArray)) ++ os)[b]? = _
          rw [Array.getElem?_append_left (by simpa using hlt)]
          simp only [Array.getElem?_modify, if_true, hb, Option.map_some, onCells]
          rw [put_cells _ _ _ (by simp [ints, hs])]
          rfl
        · rw [Nat.mul_one, ← hsz]; simp [ints, hs]
      · refine ⟨?_, fun i hi hm => ?_⟩
        · show w.heap.size ≤ (w.heap.modify b _ ++ os).size
          simp
        · show (w.heap.modify b (onCells _) ++ os)[i]? = _
          rw [Array.getElem?_append_left (by simpa using hi)]
          simp only [Array.getElem?_modify]
          rw [if_neg (fun e => hm (by simp [blkOf, e]))]

/-- slices.Reverse of ints, of a slice of one's own. -/
theorem reverse_ok {H : Heap} {a : Option Addr} {n c : Nat} {zs : List Int} (ho : Own H 1 a n c (ints zs)) (hN : n ≤ 1000000) : Does Try.prog 67 [.slice a n c] H fun v H' => v = .tuple #[] ∧ Own H' 1 a n c (ints zs.reverse) ∧ Ext (blkOf a) H H' := by
  obtain ⟨h1, h2, h3, h4⟩ := ho
  have hn : zs.length = n := by simpa [ints] using h1
  intro w hw
  subst hw
  rcases h4 with ⟨rfl, rfl⟩ | ⟨b, tail, rfl, hb, hl⟩
  · obtain rfl : n = 0 := by omega
    obtain rfl : zs = [] := by simpa using hn
    refine (Try.slices_Reverse_int_empty none 0 w).mono ?_
    rintro e w' ⟨rfl, rfl⟩
    exact ⟨_, rfl, ⟨rfl, rfl, rfl⟩, rfl, Own.nil _ _, Ext.refl _ _⟩
  · subst hn
    have hsz : (ints zs ++ tail).length = c := by simpa using hl
    refine (Try.slices_Reverse_int b 0 c zs w ?_ (by omega)).mono ?_
    · intro j hj
      have hj' : j < zs.length := by simpa using hj
      have hc := hb.cell j
      rw [List.getElem?_append_left (by simpa [ints] using hj')] at hc
      constructor
      · show w.cell? ⟨b, 0 + j, none⟩ = _
        rw [Nat.zero_add, cell_eq, hc]
        simp [ints, hj']
      · rw [Nat.zero_add, frozen_eq]
        exact hb.free j
    · rintro e w' ⟨rfl, k, rfl⟩
      refine ⟨_, rfl, ⟨rfl, rfl, rfl⟩, rfl, ?_, ?_⟩
      · obtain ⟨e, hb⟩ := hb
        refine ⟨by simp [ints], h2, h3, .inr ⟨b, tail, rfl, ⟨e, ?_⟩, ?_⟩⟩
        · show (w.heap.modify b (onCells (putCells (Value.int .i64) 0 zs.reverse.toArray)))[b]? = _
          simp only [Array.getElem?_modify, if_true, hb, Option.map_some, onCells]
          rw [put_cells _ _ _ (by simp [ints])]
          rfl
        · rw [Nat.mul_one, ← hsz]; simp [ints]
      · refine ⟨?_, fun i hi hm => ?_⟩
        · show w.heap.size ≤ (w.heap.modify b _).size
          simp
        · show (w.heap.modify b (onCells _))[i]? = _
          simp only [Array.getElem?_modify]
          rw [if_neg (fun e => hm (by simp [blkOf, e]))]
end Go.Proofs
end

section
open Go Go.Vc
namespace Go.Proofs
set_option maxRecDepth 100000
/-- pentimento/graph.Find$1 -/
theorem vc_findcl (x0_0 : Int) (x0_1 : Int) (x0_2 : Int) (x0_3 : Bool) (pb1 : Nat) (H : Heap) (R : Value → Heap → Prop) : Walk Try.prog 69 [] [(.agg #[(.int .i64 x0_0), (.int .i64 x0_1), (.int .i64 x0_2), (.bool x0_3)]), (.pointer (some (⟨pb1, 0, none⟩ : Addr)))] H R = (
  ∀ b1 : Nat, ∀ H2 : Heap, New H b1 [(.int .i64 x0_0), (.int .i64 x0_1), (.int .i64 x0_2), (.bool x0_3)] 46 H2 → (
    ∃ n3 : Int, hcell H2 b1 0 = some (.int .i64 n3) ∧ (
      ∃ n4 : Int, hcell H2 pb1 0 = some (.int .i64 n4) ∧ (
        R (.bool (@decide ((n3 : Int) = n4) (Classical.propDecidable _))) H2)))) := by kernel_rfl


/-- pentimento/graph.Find -/
theorem vc_find (x0 : Option Addr) (x0l : Nat) (x0c : Nat) (x1 : Int) (H : Heap) (R : Value → Heap → Prop) : Walk Try.prog 34 [] [(.slice x0 x0l x0c), (.int .i64 x1)] H R = (
  ∀ b1 : Nat, ∀ H2 : Heap, New H b1 [(.int .i64 x1)] 3 H2 → (
    ∀ b3 : Nat, ∀ H4 : Heap, New H2 b3 [(.int .i64 0), (.int .i64 0), (.int .i64 0), (.bool false)] 46 H4 → (
      Does Try.prog 68 [(.slice x0 x0l x0c), (.func (.func 69) #[] #[(.pointer (some (⟨b1, 0, none⟩ : Addr)))])] H4 fun v5 H6 => ∃ n7 : Int, v5 = (.int .i64 n7) ∧ (
        ((((n7 : Int) < 0) → (
              Cells H6 b3 0 4 ∧ ∀ H8 : Heap, Puts H6 b3 0 [(.int .i64 0), (.int .i64 0), (.int .i64 0), (.bool false)] H8 → (
                ∃ n9 : Int, hcell H8 b3 0 = some (.int .i64 n9) ∧ (
                  ∃ n10 : Int, hcell H8 b3 (0 + 1) = some (.int .i64 n10) ∧ (
                    ∃ n11 : Int, hcell H8 b3 ((0 + 1) + 1) = some (.int .i64 n11) ∧ (
                      ∃ t12 : Bool, hcell H8 b3 (((0 + 1) + 1) + 1) = some (.bool t12) ∧ (
                        R (.tuple #[(.agg #[(.int .i64 n9), (.int .i64 n10), (.int .i64 n11), (.bool t12)]), (.bool false)]) H8))))))) ∧ (¬ ((n7 : Int) < 0) → (
              (0 : Int) ≤ n7 ∧ (n7 : Int) < (x0l : Int) ∧ ∃ b13 o14 : Nat, x0 = some (⟨b13, o14, none⟩ : Addr) ∧ (
                ∃ n15 : Int, hcell H6 b13 (o14 + (Int.toNat n7) * 4) = some (.int .i64 n15) ∧ (
                  ∃ n16 : Int, hcell H6 b13 ((o14 + (Int.toNat n7) * 4) + 1) = some (.int .i64 n16) ∧ (
                    ∃ n17 : Int, hcell H6 b13 (((o14 + (Int.toNat n7) * 4) + 1) + 1) = some (.int .i64 n17) ∧ (
                      ∃ t18 : Bool, hcell H6 b13 ((((o14 + (Int.toNat n7) * 4) + 1) + 1) + 1) = some (.bool t18) ∧ (
                        Cells H6 b3 0 4 ∧ ∀ H19 : Heap, Puts H6 b3 0 [(.int .i64 n15), (.int .i64 n16), (.int .i64 n17), (.bool t18)] H19 → (
                          ∃ n20 : Int, hcell H19 b3 0 = some (.int .i64 n20) ∧ (
                            ∃ n21 : Int, hcell H19 b3 (0 + 1) = some (.int .i64 n21) ∧ (
                              ∃ n22 : Int, hcell H19 b3 ((0 + 1) + 1) = some (.int .i64 n22) ∧ (
                                ∃ t23 : Bool, hcell H19 b3 (((0 + 1) + 1) + 1) = some (.bool t23) ∧ (
                                  R (.tuple #[(.agg #[(.int .i64 n20), (.int .i64 n21), (.int .i64 n22), (.bool t23)]), (.bool true)]) H19))))))))))))))))) := by kernel_rfl


/-- slices.IndexFunc[[]pentimento/graph.Layer,pentimento/graph.Layer] -/
theorem vc_indexfunc (x0 : Option Addr) (x0l : Nat) (x0c : Nat) (x1_0 : Option Addr) (H : Heap) (R : Value → Heap → Prop) : Walk Try.prog 68 [] [(.slice x0 x0l x0c), (.func (.func 69) #[] #[(.pointer x1_0)])] H R = (
  ∃ I1 : Int → Heap → Prop, ∃ μ2 : Int → Heap → Nat, (I1 0 H) ∧
  ∀ n3 : Int, ∀ H4 : Heap, I1 n3 H4 → (
    ((((n3 : Int) < (x0l : Int)) → (
          (0 : Int) ≤ n3 ∧ (n3 : Int) < (x0l : Int) ∧ ∃ b5 o6 : Nat, x0 = some (⟨b5, o6, none⟩ : Addr) ∧ (
            ∃ n7 : Int, hcell H4 b5 (o6 + (Int.toNat n3) * 4) = some (.int .i64 n7) ∧ (
              ∃ n8 : Int, hcell H4 b5 ((o6 + (Int.toNat n3) * 4) + 1) = some (.int .i64 n8) ∧ (
                ∃ n9 : Int, hcell H4 b5 (((o6 + (Int.toNat n3) * 4) + 1) + 1) = some (.int .i64 n9) ∧ (
                  ∃ t10 : Bool, hcell H4 b5 ((((o6 + (Int.toNat n3) * 4) + 1) + 1) + 1) = some (.bool t10) ∧ (
                    Does Try.prog 69 [(.agg #[(.int .i64 n7), (.int .i64 n8), (.int .i64 n9), (.bool t10)]), (.pointer x1_0)] H4 fun v11 H12 => ∃ t13 : Bool, v11 = (.bool t13) ∧ (
                      ((t13 = true → (
                            R (.int .i64 n3) H12)) ∧ (t13 = false → (
                            (In64 (n3 + 1)) ∧
                            (I1 (n3 + 1) H12) ∧ μ2 (n3 + 1) H12 < μ2 n3 H4))))))))))) ∧ (¬ ((n3 : Int) < (x0l : Int)) → (
          R (.int .i64 (-1)) H4))))) := by kernel_rfl


/-- pentimento/graph.mayStand -/
theorem vc_maystand (x0 : Option Addr) (x0l : Nat) (x0c : Nat) (x1 : Int) (H : Heap) (R : Value → Heap → Prop) : Walk Try.prog 61 [] [(.slice x0 x0l x0c), (.int .i64 x1)] H R = (
  Does Try.prog 34 [(.slice x0 x0l x0c), (.int .i64 x1)] H fun v1 H2 => ∃ n3 : Int, ∃ n4 : Int, ∃ n5 : Int, ∃ t6 : Bool, ∃ t7 : Bool, v1 = (.tuple #[(.agg #[(.int .i64 n3), (.int .i64 n4), (.int .i64 n5), (.bool t6)]), (.bool t7)]) ∧ (
    ∀ b8 : Nat, ∀ H9 : Heap, New H2 b8 [(.int .i64 0), (.int .i64 0), (.int .i64 0), (.bool false)] 46 H9 → (
      Cells H9 b8 0 4 ∧ ∀ H10 : Heap, Puts H9 b8 0 [(.int .i64 n3), (.int .i64 n4), (.int .i64 n5), (.bool t6)] H10 → (
        ((((x1 : Int) = 0) → (
              R (.bool true) H10)) ∧ (¬ ((x1 : Int) = 0) → (
              ((t7 = true → (
                    ∃ t11 : Bool, hcell H10 b8 (0 + 3) = some (.bool t11) ∧ (
                      R (.bool t11) H10))) ∧ (t7 = false → (
                    R (.bool false) H10)))))))))) := by kernel_rfl


/-- pentimento/graph.Chain -/
theorem vc_chain (x0 : Option Addr) (x0l : Nat) (x0c : Nat) (x1 : Int) (H : Heap) (R : Value → Heap → Prop) : Walk Try.prog 33 [] [(.slice x0 x0l x0c), (.int .i64 x1)] H R = (
  Does Try.prog 34 [(.slice x0 x0l x0c), (.int .i64 x1)] H fun v1 H2 => ∃ n3 : Int, ∃ n4 : Int, ∃ n5 : Int, ∃ t6 : Bool, ∃ t7 : Bool, v1 = (.tuple #[(.agg #[(.int .i64 n3), (.int .i64 n4), (.int .i64 n5), (.bool t6)]), (.bool t7)]) ∧ (
    ∀ b8 : Nat, ∀ H9 : Heap, New H2 b8 [(.int .i64 0), (.int .i64 0), (.int .i64 0), (.bool false)] 46 H9 → (
      Cells H9 b8 0 4 ∧ ∀ H10 : Heap, Puts H9 b8 0 [(.int .i64 n3), (.int .i64 n4), (.int .i64 n5), (.bool t6)] H10 → (
        ∃ I11 : Option Addr → Nat → Nat → Option Addr → Bool → Heap → Prop, ∃ μ12 : Option Addr → Nat → Nat → Option Addr → Bool → Heap → Nat, (I11 none 0 0 (some (⟨b8, 0, none⟩ : Addr)) t7 H10) ∧
        ∀ a13 : Option Addr, ∀ l14 : Nat, ∀ c15 : Nat, ∀ p16 : Option Addr, ∀ t17 : Bool, ∀ H18 : Heap, I11 a13 l14 c15 p16 t17 H18 → (
          ((t17 = true → (
                (((((l14 : Int) : Int) ≤ (x0l : Int)) → (
                      withA p16 (fun (b19 : Nat) (o20 : Nat) => (
                          ∃ n21 : Int, hcell H18 b19 o20 = some (.int .i64 n21) ∧ (
                            ∀ b22 : Nat, ∀ H23 : Heap, New H18 b22 [(.int .i64 n21)] 3 H23 → (
                              ∃ old24 new25 : List Value, SRow H23 1 l14 (.slice a13 l14 c15) old24 ∧ SRow H23 1 1 (.slice (some (⟨b22, 0, none⟩ : Addr)) 1 1) new25 ∧ (∀ u ∈ new25, Value.oneCell' u = true) ∧ (l14 + 1) * 8 ≤ 140737488355328 ∧ (l14 + 1 ≤ c15 → roomOf H23 a13 (l14 * 1) (1 * 1)) ∧ ∀ a26 : Option Addr, ∀ c27 : Nat, ∀ H28 : Heap, App H23 1 3 [(.int .i64 0)] a13 l14 c15 old24 new25 1 a26 c27 H28 → (
                                withA p16 (fun (b29 : Nat) (o30 : Nat) => (
                                    ∃ n31 : Int, hcell H28 b29 o30 = some (.int .i64 n31) ∧ (
                                      ∃ n32 : Int, hcell H28 b29 (o30 + 1) = some (.int .i64 n32) ∧ (
                                        ∃ n33 : Int, hcell H28 b29 ((o30 + 1) + 1) = some (.int .i64 n33) ∧ (
                                          ∃ t34 : Bool, hcell H28 b29 (((o30 + 1) + 1) + 1) = some (.bool t34) ∧ (
                                            ∀ b35 : Nat, ∀ H36 : Heap, New H28 b35 [(.int .i64 0), (.int .i64 0), (.int .i64 0), (.bool false)] 46 H36 → (
                                              Cells H36 b35 0 4 ∧ ∀ H37 : Heap, Puts H36 b35 0 [(.int .i64 n31), (.int .i64 n32), (.int .i64 n33), (.bool t34)] H37 → (
                                                ∃ n38 : Int, hcell H37 b35 (0 + 1) = some (.int .i64 n38) ∧ (
                                                  Does Try.prog 34 [(.slice x0 x0l x0c), (.int .i64 n38)] H37 fun v39 H40 => ∃ n41 : Int, ∃ n42 : Int, ∃ n43 : Int, ∃ t44 : Bool, ∃ t45 : Bool, v39 = (.tuple #[(.agg #[(.int .i64 n41), (.int .i64 n42), (.int .i64 n43), (.bool t44)]), (.bool t45)]) ∧ (
                                                    Cells H40 b35 0 4 ∧ ∀ H46 : Heap, Puts H40 b35 0 [(.int .i64 n41), (.int .i64 n42), (.int .i64 n43), (.bool t44)] H46 → (
                                                      (I11 a26 (l14 + 1) c27 (some (⟨b35, 0, none⟩ : Addr)) t45 H46) ∧ μ12 a26 (l14 + 1) c27 (some (⟨b35, 0, none⟩ : Addr)) t45 H46 < μ12 a13 l14 c15 p16 t17 H18)))))))))))))))))) ∧ (¬ (((l14 : Int) : Int) ≤ (x0l : Int)) → (
                      Does Try.prog 67 [(.slice a13 l14 c15)] H18 fun v47 H48 => v47 = (.tuple #[]) ∧ (
                        R (.slice a13 l14 c15) H48)))))) ∧ (t17 = false → (
                Does Try.prog 67 [(.slice a13 l14 c15)] H18 fun v49 H50 => v49 = (.tuple #[]) ∧ (
                  R (.slice a13 l14 c15) H50))))))))) := by kernel_rfl


/-- slices.Reverse[[]int,int] -/
theorem vc_reverse (x0 : Option Addr) (x0l : Nat) (x0c : Nat) (H : Heap) (R : Value → Heap → Prop) : Walk Try.prog 67 [] [(.slice x0 x0l x0c)] H R = (
  (In64 ((x0l : Int) - 1)) ∧
  ∃ I1 : Int → Int → Heap → Prop, ∃ μ2 : Int → Int → Heap → Nat, (I1 0 ((x0l : Int) - 1) H) ∧
  ∀ n3 : Int, ∀ n4 : Int, ∀ H5 : Heap, I1 n3 n4 H5 → (
    ((((n3 : Int) < n4) → (
          (0 : Int) ≤ n4 ∧ (n4 : Int) < (x0l : Int) ∧ ∃ b6 o7 : Nat, x0 = some (⟨b6, o7, none⟩ : Addr) ∧ (
            ∃ n8 : Int, hcell H5 b6 (o7 + (Int.toNat n4)) = some (.int .i64 n8) ∧ (
              (0 : Int) ≤ n3 ∧ (n3 : Int) < (x0l : Int) ∧ ∃ b9 o10 : Nat, x0 = some (⟨b9, o10, none⟩ : Addr) ∧ (
                ∃ n11 : Int, hcell H5 b9 (o10 + (Int.toNat n3)) = some (.int .i64 n11) ∧ (
                  (0 : Int) ≤ n3 ∧ (n3 : Int) < (x0l : Int) ∧ ∃ b12 o13 : Nat, x0 = some (⟨b12, o13, none⟩ : Addr) ∧ (
                    Cells H5 b12 (o13 + (Int.toNat n3)) 1 ∧ ∀ H14 : Heap, Puts H5 b12 (o13 + (Int.toNat n3)) [(.int .i64 n8)] H14 → (
                      ((0 : Int) ≤ n4 ∧ (n4 : Int) < (x0l : Int) ∧ ∃ b15 o16 : Nat, x0 = some (⟨b15, o16, none⟩ : Addr) ∧ (
                          Cells H14 b15 (o16 + (Int.toNat n4)) 1 ∧ ∀ H17 : Heap, Puts H14 b15 (o16 + (Int.toNat n4)) [(.int .i64 n11)] H17 → (
                            ((In64 (n3 + 1)) ∧
                              (In64 (n4 - 1)) ∧
                              (I1 (n3 + 1) (n4 - 1) H17) ∧ μ2 (n3 + 1) (n4 - 1) H17 < μ2 n3 n4 H5)))))))))))) ∧ (¬ ((n3 : Int) < n4) → (
          R (.tuple #[]) H5))))) := by kernel_rfl


/-- pentimento/graph.Ancestors -/
theorem vc_ancestors (x0 : Option Addr) (x0l : Nat) (x0c : Nat) (x1 : Int) (H : Heap) (R : Value → Heap → Prop) : Walk Try.prog 30 [] [(.slice x0 x0l x0c), (.int .i64 x1)] H R = (
  ∀ r1 : Nat, ∀ H2 : Heap, NewMap H r1 H2 → (
    ∀ b3 : Nat, ∀ H4 : Heap, New H2 b3 [(.int .i64 x1)] 3 H4 → (
      ∃ I5 : Option Addr → Nat → Nat → Option Addr → Nat → Nat → Heap → Prop, ∃ μ6 : Option Addr → Nat → Nat → Option Addr → Nat → Nat → Heap → Nat, (I5 none 0 0 (some (⟨b3, 0, none⟩ : Addr)) 1 1 H4) ∧
      ∀ a7 : Option Addr, ∀ l8 : Nat, ∀ c9 : Nat, ∀ a10 : Option Addr, ∀ l11 : Nat, ∀ c12 : Nat, ∀ H13 : Heap, I5 a7 l8 c9 a10 l11 c12 H13 → (
        ((((0 : Int) < (l11 : Int)) → (
              (0 : Int) ≤ 0 ∧ (0 : Int) < (l11 : Int) ∧ ∃ b14 o15 : Nat, a10 = some (⟨b14, o15, none⟩ : Addr) ∧ (
                ∃ n16 : Int, hcell H13 b14 (o15 + (Int.toNat 0)) = some (.int .i64 n16) ∧ (
                  Does Try.prog 34 [(.slice x0 x0l x0c), (.int .i64 n16)] H13 fun v17 H18 => ∃ n19 : Int, ∃ n20 : Int, ∃ n21 : Int, ∃ t22 : Bool, ∃ t23 : Bool, v17 = (.tuple #[(.agg #[(.int .i64 n19), (.int .i64 n20), (.int .i64 n21), (.bool t22)]), (.bool t23)]) ∧ (
                    ∀ b24 : Nat, ∀ H25 : Heap, New H18 b24 [(.int .i64 0), (.int .i64 0), (.int .i64 0), (.bool false)] 46 H25 → (
                      Cells H25 b24 0 4 ∧ ∀ H26 : Heap, Puts H25 b24 0 [(.int .i64 n19), (.int .i64 n20), (.int .i64 n21), (.bool t22)] H26 → (
                        (0 : Int) ≤ 1 ∧ (1 : Int) ≤ (l11 : Int) ∧ ∀ a27 : Option Addr, a27 = (if c12 = (Int.toNat 1) then a10 else Option.map (fun x => Addr.add x ((Int.toNat 1) * 1)) a10) → (
                          ((t23 = true → (
                                ∃ n28 : Int, hcell H26 b24 0 = some (.int .i64 n28) ∧ (
                                  ∃ r29 : Nat, ∃ l30 : List (Int × Value), (some r1) = some r29 ∧ MapIs H26 r29 l30 ∧ ∃ t31 : Bool, (.bool t31) = mapGet l30 n28 (.bool false) ∧ (
                                    (((t31 = false) → (
                                          ∃ n32 : Int, hcell H26 b24 0 = some (.int .i64 n32) ∧ (
                                            ∃ r33 : Nat, ∃ l34 : List (Int × Value), (some r1) = some r33 ∧ MapIs H26 r33 l34 ∧ ∀ H35 : Heap, MapPut H26 r33 (mapSet l34 n32 (.bool true)) H35 → (
                                              ∃ n36 : Int, hcell H35 b24 0 = some (.int .i64 n36) ∧ (
                                                ∀ b37 : Nat, ∀ H38 : Heap, New H35 b37 [(.int .i64 n36)] 3 H38 → (
                                                  ∃ old39 new40 : List Value, SRow H38 1 l8 (.slice a7 l8 c9) old39 ∧ SRow H38 1 1 (.slice (some (⟨b37, 0, none⟩ : Addr)) 1 1) new40 ∧ (∀ u ∈ new40, Value.oneCell' u = true) ∧ (l8 + 1) * 8 ≤ 140737488355328 ∧ (l8 + 1 ≤ c9 → roomOf H38 a7 (l8 * 1) (1 * 1)) ∧ ∀ a41 : Option Addr, ∀ c42 : Nat, ∀ H43 : Heap, App H38 1 3 [(.int .i64 0)] a7 l8 c9 old39 new40 1 a41 c42 H43 → (
                                                    ∃ n44 : Int, hcell H43 b24 (0 + 1) = some (.int .i64 n44) ∧ (
                                                      ∃ n45 : Int, hcell H43 b24 (0 + 2) = some (.int .i64 n45) ∧ (
                                                        ∀ b46 : Nat, ∀ H47 : Heap, New H43 b46 [(.int .i64 n44), (.int .i64 n45)] 3 H47 → (
                                                          ∃ old48 new49 : List Value, SRow H47 1 (l11 - (Int.toNat 1)) (.slice a27 (l11 - (Int.toNat 1)) (c12 - (Int.toNat 1))) old48 ∧ SRow H47 1 2 (.slice (some (⟨b46, 0, none⟩ : Addr)) 2 2) new49 ∧ (∀ u ∈ new49, Value.oneCell' u = true) ∧ ((l11 - (Int.toNat 1)) + 2) * 8 ≤ 140737488355328 ∧ ((l11 - (Int.toNat 1)) + 2 ≤ (c12 - (Int.toNat 1)) → roomOf H47 a27 ((l11 - (Int.toNat 1)) * 1) (2 * 1)) ∧ ∀ a50 : Option Addr, ∀ c51 : Nat, ∀ H52 : Heap, App H47 1 3 [(.int .i64 0)] a27 (l11 - (Int.toNat 1)) (c12 - (Int.toNat 1)) old48 new49 2 a50 c51 H52 → (
                                                            (I5 a41 (l8 + 1) c42 a50 ((l11 - (Int.toNat 1)) + 2) c51 H52) ∧ μ6 a41 (l8 + 1) c42 a50 ((l11 - (Int.toNat 1)) + 2) c51 H52 < μ6 a7 l8 c9 a10 l11 c12 H13))))))))))) ∧ (¬ (t31 = false) → (
                                          (I5 a7 l8 c9 a27 (l11 - (Int.toNat 1)) (c12 - (Int.toNat 1)) H26) ∧ μ6 a7 l8 c9 a27 (l11 - (Int.toNat 1)) (c12 - (Int.toNat 1)) H26 < μ6 a7 l8 c9 a10 l11 c12 H13))))))) ∧ (t23 = false → (
                                (I5 a7 l8 c9 a27 (l11 - (Int.toNat 1)) (c12 - (Int.toNat 1)) H26) ∧ μ6 a7 l8 c9 a27 (l11 - (Int.toNat 1)) (c12 - (Int.toNat 1)) H26 < μ6 a7 l8 c9 a10 l11 c12 H13))))))))))) ∧ (¬ ((0 : Int) < (l11 : Int)) → (
              Does Try.prog 63 [(.slice a7 l8 c9)] H13 fun v53 H54 => v53 = (.tuple #[]) ∧ (
                R (.slice a7 l8 c9) H54)))))))) := by kernel_rfl


/-- slices.Index[[]int,int] -/
theorem vc_index (x0 : Option Addr) (x0l : Nat) (x0c : Nat) (x1 : Int) (H : Heap) (R : Value → Heap → Prop) : Walk Try.prog 91 [] [(.slice x0 x0l x0c), (.int .i64 x1)] H R = (
  ∃ I1 : Int → Heap → Prop, ∃ μ2 : Int → Heap → Nat, (I1 0 H) ∧
  ∀ n3 : Int, ∀ H4 : Heap, I1 n3 H4 → (
    ((((n3 : Int) < (x0l : Int)) → (
          (0 : Int) ≤ n3 ∧ (n3 : Int) < (x0l : Int) ∧ ∃ b5 o6 : Nat, x0 = some (⟨b5, o6, none⟩ : Addr) ∧ (
            ∃ n7 : Int, hcell H4 b5 (o6 + (Int.toNat n3)) = some (.int .i64 n7) ∧ (
              ((((x1 : Int) = n7) → (
                    R (.int .i64 n3) H4)) ∧ (¬ ((x1 : Int) = n7) → (
                    (In64 (n3 + 1)) ∧
                    (I1 (n3 + 1) H4) ∧ μ2 (n3 + 1) H4 < μ2 n3 H4))))))) ∧ (¬ ((n3 : Int) < (x0l : Int)) → (
          R (.int .i64 (-1)) H4))))) := by kernel_rfl


/-- slices.Contains[[]int,int] -/
theorem vc_contains (x0 : Option Addr) (x0l : Nat) (x0c : Nat) (x1 : Int) (H : Heap) (R : Value → Heap → Prop) : Walk Try.prog 62 [] [(.slice x0 x0l x0c), (.int .i64 x1)] H R = (
  Does Try.prog 91 [(.slice x0 x0l x0c), (.int .i64 x1)] H fun v1 H2 => ∃ n3 : Int, v1 = (.int .i64 n3) ∧ (
    R (.bool (@decide ((0 : Int) ≤ n3) (Classical.propDecidable _))) H2)) := by kernel_rfl


/-- pentimento/graph.Base -/
theorem vc_base (x0 : Option Addr) (x0l : Nat) (x0c : Nat) (x1 : Int) (x2 : Int) (H : Heap) (R : Value → Heap → Prop) : Walk Try.prog 29 [] [(.slice x0 x0l x0c), (.int .i64 x1), (.int .i64 x2)] H R = (
  Does Try.prog 30 [(.slice x0 x0l x0c), (.int .i64 x2)] H fun v1 H2 => ∃ a3 : Option Addr, ∃ l4 : Nat, ∃ c5 : Nat, v1 = (.slice a3 l4 c5) ∧ (
    Does Try.prog 30 [(.slice x0 x0l x0c), (.int .i64 x1)] H2 fun v6 H7 => ∃ a8 : Option Addr, ∃ l9 : Nat, ∃ c10 : Nat, v6 = (.slice a8 l9 c10) ∧ (
      ∃ I11 : Int → Int → Heap → Prop, ∃ μ12 : Int → Int → Heap → Nat, (I11 0 0 H7) ∧
      ∀ n13 : Int, ∀ n14 : Int, ∀ H15 : Heap, I11 n13 n14 H15 → (
        ((((n14 : Int) < (l9 : Int)) → (
              (0 : Int) ≤ n14 ∧ (n14 : Int) < (l9 : Int) ∧ ∃ b16 o17 : Nat, a8 = some (⟨b16, o17, none⟩ : Addr) ∧ (
                ∃ n18 : Int, hcell H15 b16 (o17 + (Int.toNat n14)) = some (.int .i64 n18) ∧ (
                  Does Try.prog 62 [(.slice a3 l4 c5), (.int .i64 n18)] H15 fun v19 H20 => ∃ t21 : Bool, v19 = (.bool t21) ∧ (
                    ((t21 = true → (
                          (In64 (n14 + 1)) ∧
                          (I11 n18 (n14 + 1) H20) ∧ μ12 n18 (n14 + 1) H20 < μ12 n13 n14 H15)) ∧ (t21 = false → (
                          (In64 (n14 + 1)) ∧
                          (I11 n13 (n14 + 1) H20) ∧ μ12 n13 (n14 + 1) H20 < μ12 n13 n14 H15)))))))) ∧ (¬ ((n14 : Int) < (l9 : Int)) → (
              R (.int .i64 n13) H15))))))) := by kernel_rfl


/-- pentimento/pentimentolaw13.in -/
theorem vc_in (x0 : Option Addr) (x0l : Nat) (x0c : Nat) (x1 : Int) (H : Heap) (R : Value → Heap → Prop) : Walk Try.prog 31 [] [(.slice x0 x0l x0c), (.int .i64 x1)] H R = (
  ∃ I1 : Int → Heap → Prop, ∃ μ2 : Int → Heap → Nat, (I1 0 H) ∧
  ∀ n3 : Int, ∀ H4 : Heap, I1 n3 H4 → (
    ((((n3 : Int) < (x0l : Int)) → (
          (0 : Int) ≤ n3 ∧ (n3 : Int) < (x0l : Int) ∧ ∃ b5 o6 : Nat, x0 = some (⟨b5, o6, none⟩ : Addr) ∧ (
            ∃ n7 : Int, hcell H4 b5 (o6 + (Int.toNat n3)) = some (.int .i64 n7) ∧ (
              ((((n7 : Int) = x1) → (
                    R (.bool true) H4)) ∧ (¬ ((n7 : Int) = x1) → (
                    (In64 (n3 + 1)) ∧
                    (I1 (n3 + 1) H4) ∧ μ2 (n3 + 1) H4 < μ2 n3 H4))))))) ∧ (¬ ((n3 : Int) < (x0l : Int)) → (
          R (.bool false) H4))))) := by kernel_rfl


end Go.Proofs
end

section
open Go Go.Vc
namespace Go.Proofs

theorem Try.mixed : Try.prog.follows .mixedOrders = true := by kernel_rfl

/-- A layer of a graph. -/
structure Ly where
  id : Int
  par : Int
  sec : Int
  fr : Bool

def Ly.cells (x : Ly) : List Value := [.int .i64 x.id, .int .i64 x.par, .int .i64 x.sec, .bool x.fr]
def Ly.v (x : Ly) : Value := .agg #[.int .i64 x.id, .int .i64 x.par, .int .i64 x.sec, .bool x.fr]
def Ly.zero : Ly := ⟨0, 0, 0, false⟩
def rowsOf (L : List Ly) : List Value := (L.map Ly.cells).flatten

def find (L : List Ly) (id : Int) : Option Ly := match L with
  | [] => none
  | x :: r => if x.id = id then some x else find r id

theorem find_some {L : List Ly} {id : Int} {x : Ly} (h : find L id = some x) : x.id = id ∧ x ∈ L := by
  induction L with
  | nil => cases h
  | cons y r ih =>
    simp only [find] at h
    split at h
    · simp only [Option.some.injEq] at h; subst h; exact ⟨‹_›, by simp⟩
    · obtain ⟨h1, h2⟩ := ih h; exact ⟨h1, by simp [h2]⟩

theorem find_at {L : List Ly} {id : Int} : ∀ {i : Nat} {x : Ly}, L[i]? = some x → x.id = id → (∀ j y, j < i → L[j]? = some y → y.id ≠ id) → find L id = some x := by
  induction L with
  | nil => intro i x h; simp at h
  | cons y r ih =>
    intro i x h hx hn
    cases i with
    | zero => simp at h; subst h; simp [find, hx]
    | succ i =>
      have h0 := hn 0 y (by omega) rfl
      simp only [find, if_neg h0]
      exact ih (by simpa using h) hx (fun j z hj hz => hn (j + 1) z (by omega) (by simpa using hz))

theorem find_none {L : List Ly} {id : Int} : find L id = none ↔ ∀ x ∈ L, x.id ≠ id := by
  induction L with
  | nil => simp [find]
  | cons y r ih =>
    simp only [find]
    split
    · simp; exact fun h => absurd ‹y.id = id› h
    · rw [ih]; simp [*]

/-- A row of layers. -/
def LRow (H : Heap) (a : Option Addr) (L : List Ly) : Prop := SRow H 4 L.length (.slice a L.length L.length) (rowsOf L)

theorem cells_len (L : List Ly) : ∀ r ∈ L.map Ly.cells, r.length = 4 := by
  intro r hr
  obtain ⟨x, _, rfl⟩ := List.mem_map.1 hr
  rfl

theorem rowsOf_length (L : List Ly) : (rowsOf L).length = L.length * 4 := by
  unfold rowsOf
  rw [flatten_len (cells_len L)]; simp

theorem rowsOf_at {L : List Ly} {i : Nat} {x : Ly} (h : L[i]? = some x) {j : Nat} (hj : j < 4) : (rowsOf L)[i * 4 + j]? = x.cells[j]? :=
  flatten_at (cells_len L) (by simp [h]) hj

theorem LRow.at {H : Heap} {a : Option Addr} {L : List Ly} (h : LRow H a L) {i : Nat} {x : Ly} (hi : L[i]? = some x) :
    ∃ b o, a = some ⟨b, o, none⟩ ∧ hcell H b (o + i * 4) = some (.int .i64 x.id) ∧ hcell H b (o + i * 4 + 1) = some (.int .i64 x.par) ∧ hcell H b (o + i * 4 + 1 + 1) = some (.int .i64 x.sec) ∧ hcell H b (o + i * 4 + 1 + 1 + 1) = some (.bool x.fr) := by
  obtain ⟨b, o, rfl, h0⟩ := SRow.at h (j := i * 4 + 0) (u := .int .i64 x.id) (by rw [rowsOf_at hi (by decide)]; rfl)
  have get : ∀ j u, j < 4 → x.cells[j]? = some u → hcell H b (o + (i * 4 + j)) = some u := by
    intro j u hj hu
    obtain ⟨b', o', e, h1⟩ := SRow.at h (j := i * 4 + j) (u := u) (by rw [rowsOf_at hi hj]; exact hu)
    simp only [Option.some.injEq, Addr.mk.injEq] at e
    obtain ⟨rfl, rfl, _⟩ := e
    exact h1
  refine ⟨b, o, rfl, ?_, ?_, ?_, ?_⟩
  · have := get 0 _ (by decide) rfl; exact this
  · have := get 1 _ (by decide) rfl; exact this
  · have := get 2 _ (by decide) rfl; exact this
  · have := get 3 _ (by decide) rfl; exact this

theorem LRow.ext {M : List Nat} {H H' : Heap} {a : Option Addr} {L : List Ly} (h : LRow H a L) (he : Ext M H H') (hm : ∀ k, k ∈ blkOf a → k ∉ M) : LRow H' a L := SRow.ext h he hm

/-! ### Find -/
theorem findcl_ok (x : Ly) (id : Int) {b : Nat} {H : Heap} (hb : hcell H b 0 = some (.int .i64 id)) : Does Try.prog 69 [x.v, .pointer (some ⟨b, 0, none⟩)] H fun v H' => v = .bool (decide (x.id = id)) ∧ Ext [] H H' := by
  refine Fn_of_vc Try.mixed (vc_findcl _ _ _ _ _ _ _) ?_
  intro b1 H2 hn
  refine ⟨x.id, by rw [hn.blk.cell]; rfl, id, hcell_ext hb hn.ext (by simp), ?_, hn.ext⟩
  exact congrArg _ (dec_eq Iff.rfl)

theorem indexfunc_ok {L : List Ly} {a : Option Addr} {c : Nat} {id : Int} {b : Nat} {H : Heap} (hl : L.length ≤ 1000000) (h : LRow H a L) (hb : hcell H b 0 = some (.int .i64 id)) :
    Does Try.prog 68 [.slice a L.length c, .func (.func 69) #[] #[.pointer (some ⟨b, 0, none⟩)]] H fun v H' =>
      ((∃ (i : Nat) (x : Ly), L[i]? = some x ∧ find L id = some x ∧ x.id = id ∧ v = .int .i64 i) ∨ (find L id = none ∧ v = .int .i64 (-1))) ∧ Ext [] H H' := by
  refine Fn_of_vc Try.mixed (vc_indexfunc _ _ _ _ _ _) ?_
  refine ⟨fun i H' => Ext [] H H' ∧ ∃ j : Nat, i = j ∧ j ≤ L.length ∧ ∀ k y, k < j → L[k]? = some y → y.id ≠ id, fun i _ => L.length - i.toNat, ⟨Ext.refl _ _, 0, rfl, by omega, by omega⟩, ?_⟩
  rintro _ H4 ⟨hx, j, rfl, hj, hall⟩
  refine ⟨fun hlt => ⟨by omega, hlt, ?_⟩, fun hlt => ⟨.inr ⟨?_, rfl⟩, hx⟩⟩
  · have hi : L[j]? = some L[j] := List.getElem?_eq_getElem (by omega)
    obtain ⟨b', o, rfl, c0, c1, c2, c3⟩ := (h.ext hx (by simp)).at hi
    refine ⟨b', o, rfl, _, by rw [Int.toNat_natCast]; exact c0, _, by rw [Int.toNat_natCast]; exact c1, _, by rw [Int.toNat_natCast]; exact c2, _, by rw [Int.toNat_natCast]; exact c3, (findcl_ok L[j] id (hcell_ext hb hx (by simp))).mono ?_⟩
    rintro _ H12 ⟨rfl, hx12⟩
    refine ⟨_, rfl, fun e => ⟨.inl ⟨j, _, hi, find_at hi (by simpa using e) hall, by simpa using e, rfl⟩, hx.trans hx12⟩, fun e => ⟨⟨by omega, by omega⟩, ⟨hx.trans hx12, j + 1, by omega, by omega, ?_⟩, by simp only []; omega⟩⟩
    intro k y hk hy
    rcases Nat.lt_or_ge k j with h' | h'
    · exact hall k y h' hy
    · have : k = j := by omega
      subst this
      rw [hi] at hy
      simp only [Option.some.injEq] at hy
      subst hy
      simpa using e
  · rw [find_none]
    intro y hy
    obtain ⟨k, hk, rfl⟩ := List.mem_iff_getElem.1 hy
    exact hall k _ (by omega) (List.getElem?_eq_getElem hk)

def getL (L : List Ly) (id : Int) : Ly := (find L id).getD Ly.zero

theorem find_ok {L : List Ly} {a : Option Addr} {c : Nat} (id : Int) {H : Heap} (hl : L.length ≤ 1000000) (h : LRow H a L) :
    Does Try.prog 34 [.slice a L.length c, .int .i64 id] H fun v H' => v = .tuple #[(getL L id).v, .bool (find L id).isSome] ∧ Ext [] H H' := by
  refine Fn_of_vc Try.mixed (vc_find _ _ _ _ _ _) ?_
  intro b1 H2 hn1 b3 H4 hn3
  have hx4 := hn1.ext.trans hn3.ext
  refine (indexfunc_ok (id := id) (b := b1) hl (h.ext hx4 (by simp)) (by rw [(hn1.blk.ext hn3.ext (by simp)).cell]; rfl)).mono ?_
  rintro _ H6 ⟨hv, hx6⟩
  have hb3 := hn3.blk.ext hx6 (by simp)
  have last : ∀ H', Ext [b3] H6 H' → Ext [] H H' := fun H' he => (hx4.trans hx6).trans' he (by
    intro i hi; simp only [List.mem_singleton] at hi; have := hn3.eq; have := hn1.size; omega)
  rcases hv with ⟨i, x, hi, hf, _, rfl⟩ | ⟨hf, rfl⟩
  · have hlt : i < L.length := (List.getElem?_eq_some_iff.1 hi).1
    refine ⟨_, rfl, fun e => absurd e (by omega), fun _ => ⟨by omega, by omega, ?_⟩⟩
    obtain ⟨b, o, rfl, c0, c1, c2, c3⟩ := (h.ext (hx4.trans hx6) (by simp)).at hi
    refine ⟨b, o, rfl, _, by rw [Int.toNat_natCast]; exact c0, _, by rw [Int.toNat_natCast]; exact c1, _, by rw [Int.toNat_natCast]; exact c2, _, by rw [Int.toNat_natCast]; exact c3, hb3.cells _ _ (by simp), fun H19 hp => ?_⟩
    have hb := hp.blk hb3 (by simp)
    refine ⟨x.id, by rw [hb.cell]; rfl, x.par, by rw [hb.cell]; rfl, x.sec, by rw [hb.cell]; rfl, x.fr, by rw [hb.cell]; rfl, ?_, last _ hp.ext⟩
    simp [getL, hf, Ly.v]
  · refine ⟨_, rfl, fun _ => ⟨hb3.cells _ _ (by simp), fun H8 hp => ?_⟩, fun e => absurd (by omega) e⟩
    have hb := hp.blk hb3 (by simp)
    refine ⟨0, by rw [hb.cell]; rfl, 0, by rw [hb.cell]; rfl, 0, by rw [hb.cell]; rfl, false, by rw [hb.cell]; rfl, ?_, last _ hp.ext⟩
    simp [getL, hf, Ly.v, Ly.zero]

def mayStand (L : List Ly) (id : Int) : Bool := decide (id = 0) || ((find L id).isSome && (getL L id).fr)

theorem maystand_ok {L : List Ly} {a : Option Addr} {c : Nat} (id : Int) {H : Heap} (hl : L.length ≤ 1000000) (h : LRow H a L) :
    Does Try.prog 61 [.slice a L.length c, .int .i64 id] H fun v H' => v = .bool (mayStand L id) ∧ Ext [] H H' := by
  refine Fn_of_vc Try.mixed (vc_maystand _ _ _ _ _ _) ?_
  refine (find_ok id hl h).mono ?_
  rintro _ H2 ⟨rfl, hx2⟩
  refine ⟨_, _, _, _, _, rfl, fun b8 H9 hn => ⟨hn.blk.cells _ _ (by simp), fun H10 hp => ?_⟩⟩
  have hb := hp.blk hn.blk (by simp)
  have hx : Ext [] H H10 := (hx2.trans hn.ext).trans' hp.ext (by
    intro i hi; simp only [List.mem_singleton] at hi; have := hn.eq; have := hx2.size; omega)
  refine ⟨fun e => ⟨by simp [mayStand, e], hx⟩, fun e => ⟨fun hs => ⟨(getL L id).fr, by rw [hb.cell]; rfl, by simp [mayStand, e, hs], hx⟩, fun hs => ⟨by simp [mayStand, e, hs], hx⟩⟩⟩
end Go.Proofs
end

section
open Go Go.Vc
namespace Go.Proofs

theorem ints_length (zs : List Int) : (ints zs).length = zs.length := by simp [ints]
theorem ints_one (zs : List Int) : ∀ u ∈ ints zs, Value.oneCell' u = true := by
  intro u hu
  obtain ⟨z, _, rfl⟩ := List.mem_map.1 hu
  rfl
theorem ints_at {zs : List Int} {j : Nat} {z : Int} (h : zs[j]? = some z) : (ints zs)[j]? = some (.int .i64 z) := by simp [ints, h]

/-- A row of ints that is only read. -/
def IRow (H : Heap) (a : Option Addr) (zs : List Int) : Prop := SRow H 1 zs.length (.slice a zs.length zs.length) (ints zs)
theorem IRow.ext {M : List Nat} {H H' : Heap} {a : Option Addr} {zs : List Int} (h : IRow H a zs) (he : Ext M H H') (hm : ∀ k, k ∈ blkOf a → k ∉ M) : IRow H' a zs := SRow.ext h he hm
theorem IRow.at {H : Heap} {a : Option Addr} {zs : List Int} (h : IRow H a zs) {i : Nat} {z : Int} (hi : zs[i]? = some z) : ∃ b o, a = some ⟨b, o, none⟩ ∧ hcell H b (o + i) = some (.int .i64 z) := SRow.at h (ints_at hi)
theorem Own.irow {H : Heap} {a : Option Addr} {n c : Nat} {zs : List Int} (h : Own H 1 a n c (ints zs)) : IRow H a zs ∧ zs.length = n := by
  have h1 : zs.length = n := by have := h.1; rw [ints_length] at this; omega
  refine ⟨?_, h1⟩
  have := h.row zs.length zs.length
  rw [← h1] at this
  exact this

theorem index_ok {zs : List Int} {a : Option Addr} {c : Nat} (z : Int) {H : Heap} (hl : zs.length ≤ 1000000) (h : IRow H a zs) :
    Does Try.prog 91 [.slice a zs.length c, .int .i64 z] H fun v H' => ((z ∈ zs ∧ ∃ i : Nat, v = .int .i64 i) ∨ (z ∉ zs ∧ v = .int .i64 (-1))) ∧ H' = H := by
  refine Fn_of_vc Try.mixed (vc_index _ _ _ _ _ _) ?_
  refine ⟨fun i H' => H' = H ∧ ∃ j : Nat, i = j ∧ j ≤ zs.length ∧ ∀ (k : Nat) (y : Int), k < j → zs[k]? = some y → y ≠ z, fun i _ => zs.length - i.toNat, ⟨rfl, 0, rfl, by omega, by omega⟩, ?_⟩
  rintro _ H4 ⟨e, j, rfl, hj, hall⟩
  obtain rfl : H = H4 := e.symm
  refine ⟨fun hlt => ⟨by omega, hlt, ?_⟩, fun hlt => ⟨.inr ⟨?_, rfl⟩, rfl⟩⟩
  · have hi : zs[j]? = some zs[j] := List.getElem?_eq_getElem (by omega)
    obtain ⟨b, o, rfl, hc⟩ := h.at hi
    refine ⟨b, o, rfl, _, by rw [Int.toNat_natCast]; exact hc, fun e => ⟨.inl ⟨by rw [e]; exact List.getElem_mem _, j, rfl⟩, rfl⟩, fun e => ⟨⟨by omega, by omega⟩, ⟨rfl, j + 1, by omega, by omega, ?_⟩, by simp only []; omega⟩⟩
    intro k y hk hy
    rcases Nat.lt_or_ge k j with h' | h'
    · exact hall k y h' hy
    · have : k = j := by omega
      subst this
      rw [hi] at hy
      simp only [Option.some.injEq] at hy
      subst hy
      exact fun h => e h.symm
  · intro hm
    obtain ⟨k, hk, rfl⟩ := List.mem_iff_getElem.1 hm
    exact hall k _ (by omega) (List.getElem?_eq_getElem hk) rfl

theorem contains_ok {zs : List Int} {a : Option Addr} {c : Nat} (z : Int) {H : Heap} (hl : zs.length ≤ 1000000) (h : IRow H a zs) :
    Does Try.prog 62 [.slice a zs.length c, .int .i64 z] H fun v H' => v = .bool (decide (z ∈ zs)) ∧ H' = H := by
  refine Fn_of_vc Try.mixed (vc_contains _ _ _ _ _ _) ?_
  refine (index_ok z hl h).mono ?_
  rintro v H' ⟨hv, rfl⟩
  rcases hv with ⟨hm, i, rfl⟩ | ⟨hm, rfl⟩
  · exact ⟨_, rfl, congrArg _ (by rw [Bool.eq_iff_iff]; simp [hm]), rfl⟩
  · exact ⟨_, rfl, congrArg _ (by rw [Bool.eq_iff_iff]; simp [hm]), rfl⟩

theorem in_ok {zs : List Int} {a : Option Addr} {c : Nat} (z : Int) {H : Heap} (hl : zs.length ≤ 1000000) (h : IRow H a zs) :
    Does Try.prog 31 [.slice a zs.length c, .int .i64 z] H fun v H' => v = .bool (decide (z ∈ zs)) ∧ H = H' := by
  refine Fn_of_vc Try.mixed (vc_in _ _ _ _ _ _) ?_
  refine ⟨fun i H' => H' = H ∧ ∃ j : Nat, i = j ∧ j ≤ zs.length ∧ ∀ (k : Nat) (y : Int), k < j → zs[k]? = some y → y ≠ z, fun i _ => zs.length - i.toNat, ⟨rfl, 0, rfl, by omega, by omega⟩, ?_⟩
  rintro _ H4 ⟨e, j, rfl, hj, hall⟩
  obtain rfl : H = H4 := e.symm
  refine ⟨fun hlt => ⟨by omega, hlt, ?_⟩, fun hlt => ⟨?_, rfl⟩⟩
  · have hi : zs[j]? = some zs[j] := List.getElem?_eq_getElem (by omega)
    obtain ⟨b, o, rfl, hc⟩ := h.at hi
    refine ⟨b, o, rfl, _, by rw [Int.toNat_natCast]; exact hc, fun e => ⟨?_, rfl⟩, fun e => ⟨⟨by omega, by omega⟩, ⟨rfl, j + 1, by omega, by omega, ?_⟩, by simp only []; omega⟩⟩
    · have : z ∈ zs := by rw [← e]; exact List.getElem_mem _
      simp [this]
    intro k y hk hy
    rcases Nat.lt_or_ge k j with h' | h'
    · exact hall k y h' hy
    · have : k = j := by omega
      subst this
      rw [hi] at hy
      simp only [Option.some.injEq] at hy
      subst hy
      exact e
  · have : z ∉ zs := by
      intro hm
      obtain ⟨k, hk, rfl⟩ := List.mem_iff_getElem.1 hm
      exact hall k _ (by omega) (List.getElem?_eq_getElem hk) rfl
    simp [this]

/-! ### Chain -/
def chainR (L : List Ly) : Nat → Int → List Int
  | 0, _ => []
  | k + 1, id => match find L id with
    | none => []
    | some x => x.id :: chainR L k x.par
def chain (L : List Ly) (id : Int) : List Int := (chainR L (L.length + 1) id).reverse

theorem chainR_length (L : List Ly) : ∀ (k : Nat) (id : Int), (chainR L k id).length ≤ k
  | 0, _ => by simp [chainR]
  | k + 1, id => by
    simp only [chainR]
    split
    · simp
    · simp only [List.length_cons]; have := chainR_length L k ‹Ly›.par; omega

theorem chain_ok {L : List Ly} {a : Option Addr} {c : Nat} (id : Int) {H : Heap} (hl : L.length ≤ 100000) (h : LRow H a L) :
    Does Try.prog 33 [.slice a L.length c, .int .i64 id] H fun v H' => ∃ a' c', v = .slice a' (chain L id).length c' ∧ Own H' 1 a' (chain L id).length c' (ints (chain L id)) ∧ Ext [] H H' ∧ ∀ k ∈ blkOf a', H.size ≤ k := by
  have hl' : L.length ≤ 1000000 := by omega
  refine Fn_of_vc Try.mixed (vc_chain _ _ _ _ _ _) ?_
  refine (find_ok id hl' h).mono ?_
  rintro _ H2 ⟨rfl, hx2⟩
  refine ⟨_, _, _, _, _, rfl, fun b8 H9 hn => ⟨hn.blk.cells _ _ (by simp), fun H10 hp => ?_⟩⟩
  have hb := hp.blk hn.blk (by simp)
  have hx : Ext [] H H10 := (hx2.trans hn.ext).trans' hp.ext (by
    intro i hi; simp only [List.mem_singleton] at hi; have := hn.eq; have := hx2.size; omega)
  have h8 : H.size ≤ b8 := by have := hn.eq; have := hx2.size; omega
  refine ⟨fun a1 n1 c1 p is H' => ∃ (b : Nat) (zs : List Int) (k : Nat) (id' : Int), p = some ⟨b, 0, none⟩ ∧ H.size ≤ b ∧ Blk H' b (getL L id').cells ∧ is = (find L id').isSome ∧ chainR L (L.length + 1) id = zs ++ chainR L k id' ∧ zs.length + k = L.length + 1 ∧
      Own H' 1 a1 n1 c1 (ints zs) ∧ b ∉ blkOf a1 ∧ Ext [] H H' ∧ ∀ k ∈ blkOf a1, H.size ≤ k, fun _ n1 _ _ _ _ => L.length + 1 - n1, ?_, ?_⟩
  · exact ⟨b8, [], L.length + 1, id, rfl, h8, hb, rfl, rfl, by simp, Own.nil _ _, by simp [blkOf], hx, by simp [blkOf]⟩
  · rintro a1 n1 c1 _ _ H18 ⟨b, zs, k, id', rfl, hb8, hbk, rfl, hch, hk, ho, hnb, hx18, hfr⟩
    have hzn : zs.length = n1 := (Own.irow ho).2
    have fin : chainR L (L.length + 1) id = zs → Does Try.prog 67 [(.slice a1 n1 c1)] H18 fun v19 H20 => v19 = (.tuple #[]) ∧ ∃ a' c', Value.slice a1 n1 c1 = .slice a' (chain L id).length c' ∧ Own H20 1 a' (chain L id).length c' (ints (chain L id)) ∧ Ext [] H H20 ∧ ∀ k ∈ blkOf a', H.size ≤ k := by
      intro e
      refine (reverse_ok ho (by omega)).mono ?_
      rintro _ H20 ⟨rfl, ho20, hx20⟩
      have e2 : chain L id = zs.reverse := by unfold chain; rw [e]
      have e3 : (chain L id).length = n1 := by rw [e2]; simpa using hzn
      refine ⟨rfl, a1, c1, by rw [e3], by rw [e3, e2]; exact ho20, hx18.trans' hx20 (fun i hi => .inl (hfr i hi)), hfr⟩
    refine ⟨fun hs => ⟨fun hle => ?_, fun hle => fin ?_⟩, fun hs => fin ?_⟩
    · obtain ⟨x, hf⟩ := Option.isSome_iff_exists.1 hs
      have hg : getL L id' = x := by simp [getL, hf]
      rw [hg] at hbk
      obtain ⟨k, rfl⟩ : ∃ k', k = k' + 1 := ⟨k - 1, by omega⟩
      refine ⟨x.id, by rw [hbk.cell]; rfl, fun b22 H23 hn22 => ?_⟩
      have ho23 := ho.ext hn22.ext (by simp)
      refine ⟨ints zs, ints [x.id], ho23.row _ _, ⟨rfl, .inr rfl, fun j u hj => ?_⟩, ints_one _, by omega, fun hle => by simpa using ho23.room (n := 1) hle, ?_⟩
      · have hj' := hn22.blk.cell j
        show hcell H23 b22 (0 + j) = some u
        rw [Nat.zero_add, hj']
        exact hj
      intro a26 c27 H28 happ
      obtain ⟨ho28, hx28, hfr28⟩ := happ.own ho23 (ho23.row _ _) (by rw [ints_length]; rfl) rfl
      have hbk28 : Blk H28 b x.cells := (hbk.ext hn22.ext (by simp)).ext hx28 hnb
      refine ⟨x.id, by rw [hbk28.cell]; rfl, x.par, by rw [hbk28.cell]; rfl, x.sec, by rw [hbk28.cell]; rfl, x.fr, by rw [hbk28.cell]; rfl, fun b35 H36 hn35 => ⟨hn35.blk.cells _ _ (by simp), fun H37 hp37 => ?_⟩⟩
      have hb37 := hp37.blk hn35.blk (by simp)
      refine ⟨x.par, by rw [hb37.cell]; rfl, ?_⟩
      have hfr22 := hn22.size
      have hx28' : Ext [] H H28 := (hx18.trans hn22.ext).trans' hx28 (fun i hi => .inl (hfr i hi))
      have hs28 := hx28.size
      have hs18 := hx18.size
      have hx37 : Ext [] H H37 := (hx28'.trans hn35.ext).trans' hp37.ext (by
        intro i hi; simp only [List.mem_singleton] at hi; have := hn35.eq; have := hx28'.size; omega)
      have h35 : H.size ≤ b35 := by have := hn35.eq; have := hx28'.size; omega
      have hn35a : b35 ∉ blkOf a26 := by
        intro hm
        have := ho28.lt b35 hm
        have := hn35.eq
        omega
      refine (find_ok x.par hl' (h.ext hx37 (by simp))).mono ?_
      rintro _ H40 ⟨rfl, hx40⟩
      have hb40 := hb37.ext hx40 (by simp)
      have ho37 : Own H37 1 a26 (n1 + 1) c27 (ints zs ++ ints [x.id]) := (ho28.ext hn35.ext (by simp)).ext hp37.ext (fun k hk hm => by simp only [List.mem_singleton] at hm; subst hm; exact hn35a hk)
      have ho40 := ho37.ext hx40 (by simp)
      refine ⟨_, _, _, _, _, rfl, hb40.cells _ _ (by simp [splice]), fun H46 hp46 => ?_⟩
      have hb46 := hp46.blk hb40 (by simp [splice])
      refine ⟨⟨b35, zs ++ [x.id], k, x.par, rfl, h35, ?_, rfl, ?_, by simp; omega, ?_, hn35a, ?_, ?_⟩, by simp only []; omega⟩
      · exact hb46
      · rw [hch]
        simp only [chainR, hf, List.append_assoc, List.singleton_append]
      · have : ints (zs ++ [x.id]) = ints zs ++ ints [x.id] := by simp [ints]
        rw [this]
        exact ho40.ext hp46.ext (fun k hk hm => by simp only [List.mem_singleton] at hm; subst hm; exact hn35a hk)
      · exact (hx37.trans hx40).trans' hp46.ext (by intro i hi; simp only [List.mem_singleton] at hi; omega)
      · intro j hj
        rcases hfr28 j hj with h' | h'
        · exact hfr j h'
        · omega
    · have : k = 0 := by omega
      subst this
      rw [hch]; simp [chainR]
    · have hf : find L id' = none := by cases hf : find L id' <;> simp_all
      rw [hch]
      cases k <;> simp [chainR, hf]
end Go.Proofs
end

section
open Go Go.Vc
namespace Go.Proofs

/-! ### A slice of one's own that stands wherever it does in its block -/
def OwnO (H : Heap) (a : Option Addr) (n c : Nat) (xs : List Value) : Prop :=
  xs.length = n ∧ n ≤ c ∧ ((a = none ∧ c = 0) ∨ ∃ b o cs, a = some ⟨b, o, none⟩ ∧ Blk H b cs ∧ o + c ≤ cs.length ∧ (cs.drop o).take n = xs)

theorem OwnO.lt {H : Heap} {a : Option Addr} {n c : Nat} {xs : List Value} (h : OwnO H a n c xs) : ∀ k ∈ blkOf a, k < H.size := by
  obtain ⟨_, _, h | ⟨b, o, cs, rfl, hb, _⟩⟩ := h
  · rw [h.1]; intro k hk; cases hk
  · intro k hk
    simp only [blkOf, List.mem_singleton] at hk
    subst hk; exact hb.lt

theorem OwnO.ext {M : List Nat} {H H' : Heap} {a : Option Addr} {n c : Nat} {xs : List Value} (h : OwnO H a n c xs) (he : Ext M H H') (hm : ∀ k ∈ blkOf a, k ∉ M) : OwnO H' a n c xs := by
  obtain ⟨h1, h2, h | ⟨b, o, cs, rfl, hb, h3, h4⟩⟩ := h
  · exact ⟨h1, h2, .inl h⟩
  · exact ⟨h1, h2, .inr ⟨b, o, cs, rfl, hb.ext he (hm b (by simp [blkOf])), h3, h4⟩⟩

theorem window {cs xs : List Value} {o n j : Nat} (h : (cs.drop o).take n = xs) (hj : j < xs.length) : cs[o + j]? = xs[j]? := by
  subst h
  have hj' : j < n := by simp at hj; omega
  rw [List.getElem?_take_of_lt hj', List.getElem?_drop]

theorem OwnO.row {H : Heap} {a : Option Addr} {n c : Nat} {xs : List Value} (h : OwnO H a n c xs) (l m : Nat) : SRow H 1 n (.slice a l m) xs := by
  obtain ⟨h1, h2, ⟨rfl, rfl⟩ | ⟨b, o, cs, rfl, hb, h3, h4⟩⟩ := h
  · refine ⟨by omega, ?_⟩
    have : n = 0 := by omega
    subst this
    simpa using h1
  · refine ⟨by omega, .inr rfl, fun j u hj => ?_⟩
    show hcell H b (o + j) = some u
    rw [hb.cell, window h4 (List.getElem?_eq_some_iff.1 hj).1]
    exact hj

theorem OwnO.room {H : Heap} {a : Option Addr} {n c k : Nat} {xs : List Value} (h : OwnO H a n c xs) (hle : n + k ≤ c) : roomOf H a (n * 1) (k * 1) := by
  obtain ⟨h1, h2, ⟨rfl, _⟩ | ⟨b, o, cs, rfl, hb, h3, h4⟩⟩ := h
  · trivial
  · refine ⟨rfl, ?_⟩
    show Cells H b (o + n * 1) (k * 1)
    exact hb.cells _ _ (by omega)

theorem OwnO.tail {H : Heap} {a : Option Addr} {n c : Nat} {x : Value} {xs : List Value} (h : OwnO H a n c (x :: xs)) : OwnO H (if c = 1 then a else Option.map (fun x => Addr.add x (1 * 1)) a) (n - 1) (c - 1) xs := by
  obtain ⟨h1, h2, ⟨rfl, rfl⟩ | ⟨b, o, cs, rfl, hb, h3, h4⟩⟩ := h
  · simp at h1; omega
  · simp only [List.length_cons] at h1
    have hlen : ((cs.drop o).take n).length = n := by rw [h4]; simpa using h1
    refine ⟨by omega, by omega, .inr ?_⟩
    by_cases hc : c = 1
    · rw [if_pos hc]
      refine ⟨b, o, cs, rfl, hb, by omega, ?_⟩
      have : n = 1 := by omega
      subst this
      have : xs = [] := by simpa using h1
      rw [this]; rfl
    · rw [if_neg hc]
      refine ⟨b, o + 1, cs, rfl, hb, by omega, ?_⟩
      have : (cs.drop o).take n = x :: xs := h4
      have hd : cs.drop (o + 1) = (cs.drop o).drop 1 := by rw [List.drop_drop]
      rw [hd]
      obtain ⟨m, rfl⟩ : ∃ m, n = m + 1 := ⟨n - 1, by omega⟩
      cases hcs : cs.drop o with
      | nil => rw [hcs] at this; simp at this
      | cons y ys =>
        rw [hcs] at this
        simp only [List.take_succ_cons, List.cons.injEq] at this
        simpa using this.2

theorem App.ownO {H H' : Heap} {e : TypeId} {z : List Value} {a : Option Addr} {n c : Nat} {old news xs : List Value} {k : Nat} {a' : Option Addr} {c' : Nat} (h : App H 1 e z a n c old news k a' c' H') (ho : OwnO H a n c xs)
    (hro : SRow H 1 n (.slice a n c) old) (hn : news.length = k) (hz : z.length = 1) : OwnO H' a' (n + k) c' (xs ++ news) ∧ Ext (blkOf a) H H' ∧ (∀ j ∈ blkOf a', j ∈ blkOf a ∨ H.size ≤ j) := by
  have hxs : old = xs := by
    have h2 := ho.row n c
    apply List.ext_getElem?
    intro j
    have e1 : old.length = xs.length := by rw [hro.1, h2.1]
    by_cases hj : j < xs.length
    · obtain ⟨_, h3⟩ := hro
      obtain ⟨_, h4⟩ := h2
      cases a with
      | none => simp only at h3 h4; rw [h3, h4]
      | some ad =>
        have h5 := h3.2 j _ (List.getElem?_eq_getElem (by omega))
        have h6 := h4.2 j _ (List.getElem?_eq_getElem hj)
        rw [h6] at h5
        rw [List.getElem?_eq_getElem (by omega), List.getElem?_eq_getElem hj]
        exact h5.symm
    · rw [List.getElem?_eq_none (by omega), List.getElem?_eq_none (by omega)]
  subst hxs
  obtain ⟨o1, o2, o4⟩ := ho
  rcases h with ⟨hle, rfl, rfl, hH⟩ | ⟨hlt, rfl, hge, hm, rfl⟩
  · rcases o4 with ⟨rfl, rfl⟩ | ⟨b, o, cs, rfl, hb, h3, h4⟩
    · simp only at hH
      subst hH
      have e2 : news = [] := by have : k = 0 := by omega
                                subst this; simpa using hn
      subst e2
      have e0 : n = 0 := by omega
      have e1 : k = 0 := by simpa using hn.symm
      subst e0; subst e1
      have e3 : old = [] := by simpa using o1
      subst e3
      exact ⟨⟨rfl, by omega, .inl ⟨rfl, rfl⟩⟩, Ext.refl _ _, fun j hj => .inl hj⟩
    · simp only at hH
      subst hH
      have hb' := hsets_blk news (o + n * 1) H _ hb (by omega)
      refine ⟨⟨by simp [o1, hn], hle, .inr ⟨b, o, _, rfl, hb', ?_, ?_⟩⟩, (hsets_ext news _).1, fun j hj => .inl hj⟩
      · rw [splice_length _ _ _ (by omega)]; exact h3
      · unfold splice
        rw [Nat.mul_one, List.append_assoc, List.drop_append_of_le_length (by rw [List.length_take]; omega), List.drop_take, show o + n - o = n by omega, h4, ← List.append_assoc, List.take_append_of_le_length (by simp; omega), List.take_of_length_le (by simp; omega)]
  · have hblk : Blk (H.push (.cells (old ++ news ++ (List.replicate (c' - (n + k)) z).flatten).toArray e)) H.size (old ++ news ++ (List.replicate (c' - (n + k)) z).flatten) := ⟨e, by simp⟩
    refine ⟨⟨by simp [o1, hn], hge, .inr ⟨H.size, 0, _, rfl, hblk, ?_, ?_⟩⟩, ⟨by simp, fun j hj _ => by rw [Array.getElem?_push, if_neg (by omega)]⟩, fun j hj => .inr (by
      simp only [blkOf, List.mem_singleton] at hj; omega)⟩
    · have : (List.replicate (c' - (n + k)) z).flatten.length = c' - (n + k) := by simp [hz]
      rw [List.length_append, List.length_append, this, o1, hn]; omega
    · rw [List.drop_zero, List.take_append_of_le_length (by simp; omega), List.take_of_length_le (by simp; omega)]

/-! ### Ancestors -/
def bfs (L : List Ly) : Nat → List Int → List Int → List Int
  | 0, _, out => out
  | _ + 1, [], out => out
  | k + 1, t :: r, out => match find L t with
    | none => bfs L k r out
    | some x => if x.id ∈ out then bfs L k r out else bfs L k (r ++ [x.par, x.sec]) (out ++ [x.id])
def ancU (L : List Ly) (id : Int) : List Int := bfs L (2 * L.length + 1) [id] []
def anc (L : List Ly) (id : Int) : List Int := sorted (ancU L id)

theorem bfs_nil (L : List Ly) (k : Nat) (out : List Int) : bfs L k [] out = out := by cases k <;> rfl

theorem nodup_le : ∀ (ids out : List Int), out.Nodup → (∀ k ∈ out, k ∈ ids) → out.length ≤ ids.length
  | [], out, _, h => by
    cases out with
    | nil => simp
    | cons x r => exact absurd (h x (by simp)) (by simp)
  | x :: ids, out, hn, h => by
    by_cases hx : x ∈ out
    · have h1 := nodup_le ids (out.erase x) (hn.erase x) (fun k hk => by
        rw [hn.mem_erase_iff] at hk
        rcases List.mem_cons.1 (h k hk.2) with e | e
        · exact absurd e hk.1
        · exact e)
      rw [List.length_erase_of_mem hx] at h1
      have : 0 < out.length := List.length_pos_of_mem hx
      simp only [List.length_cons]; omega
    · have h1 := nodup_le ids out hn (fun k hk => by
        rcases List.mem_cons.1 (h k hk) with e | e
        · subst e; exact absurd hk hx
        · exact e)
      simp only [List.length_cons]; omega

def Marks (H : Heap) (r : Nat) (out : List Int) : Prop := ∃ l, MapIs H r l ∧ ∀ k, mapGet l k (.bool false) = .bool (decide (k ∈ out))

theorem MapIs.ext {M : List Nat} {H H' : Heap} {r : Nat} {l : List (Int × Value)} (h : MapIs H r l) (he : Ext M H H') (hm : r ∉ M) : MapIs H' r l := by
  obtain ⟨es, c, h1, h2⟩ := h
  exact ⟨es, c, by rw [he.keep r (Array.getElem?_eq_some_iff.1 h1).1 hm]; exact h1, h2⟩
theorem Marks.ext {M : List Nat} {H H' : Heap} {r : Nat} {out : List Int} (h : Marks H r out) (he : Ext M H H') (hm : r ∉ M) : Marks H' r out := by
  obtain ⟨l, h1, h2⟩ := h
  exact ⟨l, MapIs.ext h1 he hm, h2⟩

theorem mapGet_set (l : List (Int × Value)) (k j : Int) (v z : Value) : mapGet (mapSet l k v) j z = if j = k then v else mapGet l j z := by
  induction l with
  | nil =>
    simp only [mapSet, mapGet]
    by_cases h : j = k
    · rw [if_pos h, if_pos h.symm]
    · rw [if_neg h, if_neg (fun e => h e.symm)]
  | cons p r ih =>
    simp only [mapSet]
    by_cases hp : p.1 = k
    · rw [if_pos hp]
      simp only [mapGet]
      by_cases h : j = k
      · rw [if_pos h, if_pos h.symm]
      · rw [if_neg h, if_neg (fun e => h e.symm), if_neg (fun e => h (by rw [← e, hp]))]
    · rw [if_neg hp]
      simp only [mapGet, ih]
      by_cases h : j = k
      · rw [if_pos h, if_neg (fun e => hp (by rw [e, h])), if_pos h]
      · rw [if_neg h, if_neg h]

theorem MapPut.is {H H' : Heap} {r : Nat} {l : List (Int × Value)} (h : MapPut H r l H') (hr : r < H.size) : MapIs H' r l ∧ Ext [r] H H' := by
  obtain ⟨es, c, h1, rfl⟩ := h
  refine ⟨⟨es, c, by rw [Array.getElem?_setIfInBounds, if_pos rfl, if_pos hr], h1⟩, by rw [Array.size_setIfInBounds]; exact Nat.le_refl _, fun k hk hm => ?_⟩
  rw [Array.getElem?_setIfInBounds, if_neg (fun e => hm (by simp [e]))]

theorem not_blk_map {H : Heap} {b r : Nat} {cs : List Value} {out : List Int} (hb : Blk H b cs) (hm : Marks H r out) : b ≠ r := by
  rintro rfl
  obtain ⟨e, h1⟩ := hb
  obtain ⟨l, ⟨es, c, h2, _⟩, _⟩ := hm
  rw [h1] at h2
  cases h2
end Go.Proofs
end

section
open Go Go.Vc
namespace Go.Proofs

theorem _root_.Go.Vc.NewMap.ext {H H' : Heap} {r : Nat} (h : NewMap H r H') : Ext [] H H' := by
  obtain ⟨rfl, rfl⟩ := h
  exact ⟨by simp, fun k hk _ => by rw [Array.getElem?_push, if_neg (by omega)]⟩

theorem marks_new {H H' : Heap} {r : Nat} (h : NewMap H r H') : Marks H' r [] := by
  obtain ⟨rfl, rfl⟩ := h
  exact ⟨[], ⟨#[], 0, by simp, rfl⟩, fun k => by simp [mapGet]⟩

/-- What is put off within what was not there at the start. -/
theorem ext_new {A B C : Heap} {M : List Nat} (h : Ext [] A B) (k : Ext M B C) (hm : ∀ i ∈ M, A.size ≤ i) : Ext [] A C := h.trans' k (fun i hi => .inl (hm i hi))

theorem none_of {o : Option Ly} (h : o.isSome = false) : o = none := by
  cases o with
  | none => rfl
  | some x => cases h

set_option maxHeartbeats 1000000 in
theorem ancestors_ok {L : List Ly} {a : Option Addr} {c : Nat} (id : Int) {H : Heap} (hl : L.length ≤ 100000) (h : LRow H a L) :
    Does Try.prog 30 [.slice a L.length c, .int .i64 id] H fun v H' => ∃ a' c', v = .slice a' (anc L id).length c' ∧ Own H' 1 a' (anc L id).length c' (ints (anc L id)) ∧ (anc L id).length ≤ L.length ∧ Ext [] H H' ∧ ∀ k ∈ blkOf a', H.size ≤ k := by
  have hl' : L.length ≤ 1000000 := by omega
  refine Fn_of_vc Try.mixed (vc_ancestors _ _ _ _ _ _) ?_
  intro r1 H2 hm b3 H4 hn3
  have hr1 : r1 = H.size := hm.1
  have hs2 : H2.size = H.size + 1 := by rw [hm.2]; simp
  have hb3 : b3 = H2.size := hn3.eq
  refine ⟨fun a7 n7 c7 a10 n10 c10 H' => ∃ out todo, Own H' 1 a7 n7 c7 (ints out) ∧ OwnO H' a10 n10 c10 (ints todo) ∧ Marks H' r1 out ∧ out.Nodup ∧ (∀ k ∈ out, k ∈ L.map Ly.id) ∧
      ancU L id = bfs L (2 * L.length + n10 - 2 * n7) todo out ∧ n10 ≤ 2 * n7 + 1 ∧ (∀ k ∈ blkOf a7, H.size ≤ k ∧ k ∉ blkOf a10) ∧ (∀ k ∈ blkOf a10, H.size ≤ k) ∧ Ext [] H H', fun _ n7 _ _ n10 _ _ => 2 * L.length + n10 - 2 * n7, ?_, ?_⟩
  · refine ⟨[], [id], Own.nil _ _, ⟨rfl, by decide, .inr ⟨b3, 0, _, rfl, hn3.blk, by simp, rfl⟩⟩, (marks_new hm).ext hn3.ext (by simp), by simp, by simp, rfl, by decide, by simp [blkOf], ?_, hm.ext.trans hn3.ext⟩
    intro k hk
    simp only [blkOf, List.mem_singleton] at hk
    omega
  rintro a7 n7 c7 a10 n10 c10 H13 ⟨out, todo, ho, ht, hmk, hnd, hsub, hbfs, hle, hd7, hd10, hx⟩
  have hout : out.length = n7 := (Own.irow ho).2
  have htd : todo.length = n10 := by have := ht.1; rw [ints_length] at this; exact this
  have hol : n7 ≤ L.length := by
    have := nodup_le (L.map Ly.id) out hnd hsub
    rw [List.length_map] at this
    omega
  have hr13 : r1 < H13.size := by
    obtain ⟨l, ⟨es, cl, e1, _⟩, _⟩ := hmk
    exact (Array.getElem?_eq_some_iff.1 e1).1
  refine ⟨fun hpos => ?_, fun hpos => ?_⟩
  · obtain ⟨t, rest, rfl⟩ : ∃ t rest, todo = t :: rest := by
      cases todo with
      | nil => simp at htd; omega
      | cons t rest => exact ⟨t, rest, rfl⟩
    simp only [List.length_cons] at htd
    have hrow := ht.row n10 c10
    obtain ⟨b14, o15, rfl, h16⟩ := SRow.at hrow (j := 0) (u := .int .i64 t) rfl
    refine ⟨by omega, hpos, b14, o15, rfl, t, h16, (find_ok t hl' (h.ext hx (by simp))).mono ?_⟩
    rintro _ H18 ⟨rfl, hx18⟩
    refine ⟨_, _, _, _, _, rfl, fun b24 H25 hn24 => ⟨hn24.blk.cells _ _ (by simp), fun H26 hp26 => ⟨by omega, by omega, ?_⟩⟩⟩
    have hb24 := hp26.blk hn24.blk (by simp)
    have hsz18 := hx18.size
    have e24 := hn24.eq
    have s24 := hn24.size
    have hxs := hx.size
    have p26 : ∀ k, k < H13.size → k ∉ [b24] := fun k hk hm => by simp only [List.mem_singleton] at hm; omega
    have hx26 : Ext [] H13 H26 := (hx18.trans hn24.ext).trans' hp26.ext (fun i hi => by simp only [List.mem_singleton] at hi; left; omega)
    have ho26 := ho.ext hx26 (by simp)
    have ht26 := (OwnO.tail (x := .int .i64 t) (xs := ints rest) (by simpa [ints] using ht)).ext hx26 (by simp)
    have hmk26 := hmk.ext hx26 (by simp)
    have hX26 := hx.trans hx26
    intro a27 ha27
    have hb27 : ∀ k ∈ blkOf a27, k = b14 := by
      intro k hk
      rw [ha27] at hk
      by_cases e : c10 = Int.toNat 1
      · rw [if_pos e] at hk; simpa [blkOf] using hk
      · rw [if_neg e] at hk; simpa [blkOf, Addr.add_lit] using hk
    have ha27' : OwnO H26 a27 (n10 - 1) (c10 - 1) (ints rest) := by
      rw [ha27]; exact ht26
    have hk : 2 * L.length + n10 - 2 * n7 = (2 * L.length + (n10 - 1) - 2 * n7) + 1 := by omega
    have h14 : H.size ≤ b14 := hd10 b14 (by simp [blkOf])
    have d7 : ∀ k ∈ blkOf a7, H.size ≤ k ∧ k ∉ blkOf a27 := fun k hk => ⟨(hd7 k hk).1, fun hm => (hd7 k hk).2 (by rw [hb27 k hm]; simp [blkOf])⟩
    have d10 : ∀ k ∈ blkOf a27, H.size ≤ k := fun k hk => by rw [hb27 k hk]; exact h14
    have skip : (find L t = none ∨ ∃ x, find L t = some x ∧ x.id ∈ out) → ancU L id = bfs L (2 * L.length + (n10 - 1) - 2 * n7) rest out := by
      intro hs
      rw [hbfs, hk]
      simp only [bfs]
      rcases hs with hs | ⟨x, hs, hi⟩
      · rw [hs]
      · simp only [hs]; rw [if_pos hi]
    have stay : (find L t = none ∨ ∃ x, find L t = some x ∧ x.id ∈ out) → (∃ out todo, Own H26 1 a7 n7 c7 (ints out) ∧ OwnO H26 a27 (n10 - Int.toNat 1) (c10 - Int.toNat 1) (ints todo) ∧ Marks H26 r1 out ∧ out.Nodup ∧ (∀ k ∈ out, k ∈ L.map Ly.id) ∧
      ancU L id = bfs L (2 * L.length + (n10 - Int.toNat 1) - 2 * n7) todo out ∧ (n10 - Int.toNat 1) ≤ 2 * n7 + 1 ∧ (∀ k ∈ blkOf a7, H.size ≤ k ∧ k ∉ blkOf a27) ∧ (∀ k ∈ blkOf a27, H.size ≤ k) ∧ Ext [] H H26) ∧ 2 * L.length + (n10 - Int.toNat 1) - 2 * n7 < 2 * L.length + n10 - 2 * n7 := by
      intro hs
      exact ⟨⟨out, rest, ho26, ha27', hmk26, hnd, hsub, skip hs, by show n10 - 1 ≤ _; omega, d7, d10, hX26⟩, by show 2 * L.length + (n10 - 1) - 2 * n7 < _; omega⟩
    refine ⟨fun hs => ?_, fun hs => stay (.inl (none_of hs))⟩
    obtain ⟨x, hf⟩ := Option.isSome_iff_exists.1 hs
    have hg : getL L t = x := by simp [getL, hf]
    rw [hg] at hb24
    obtain ⟨l, hml, hlg⟩ := hmk26
    refine ⟨x.id, by rw [hb24.cell]; rfl, r1, l, rfl, hml, decide (x.id ∈ out), (hlg x.id).symm, fun hnew => ?_, fun hold => stay (.inr ⟨x, hf, by simpa using hold⟩)⟩
    have hnew' : x.id ∉ out := by simpa using hnew
    refine ⟨x.id, by rw [hb24.cell]; rfl, r1, l, rfl, hml, fun H35 hput => ?_⟩
    obtain ⟨hm35, hx35⟩ := MapPut.is hput (by have := hx26.size; omega)
    have nr : ∀ {b : Nat} {cs : List Value}, Blk H26 b cs → b ∉ [r1] := fun hb hm => by
      simp only [List.mem_singleton] at hm
      exact not_blk_map hb ⟨l, hml, hlg⟩ hm
    have nro : ∀ k ∈ blkOf a7, k ∉ [r1] := by
      intro k hk
      obtain ⟨_, _, _, ⟨rfl, _⟩ | ⟨b, tail, rfl, hb, _⟩⟩ := ho26
      · cases hk
      · simp only [blkOf, List.mem_singleton] at hk; subst hk; exact nr hb
    have nrt : ∀ k ∈ blkOf a27, k ∉ [r1] := by
      intro k hk
      obtain ⟨_, _, ⟨rfl, _⟩ | ⟨b, o, cs, rfl, hb, _⟩⟩ := ha27'
      · cases hk
      · simp only [blkOf, List.mem_singleton] at hk; subst hk; exact nr hb
    have hb35 := hb24.ext hx35 (nr hb24)
    have ho35 := ho26.ext hx35 nro
    have ht35 := ha27'.ext hx35 nrt
    have hmk35 : Marks H35 r1 (out ++ [x.id]) := ⟨_, hm35, fun k => by
      rw [mapGet_set, hlg]
      by_cases e : k = x.id
      · rw [if_pos e]; simp [e]
      · rw [if_neg e]; simp [e]⟩
    have hX35 : Ext [] H H35 := ext_new hX26 hx35 (fun i hi => by simp only [List.mem_singleton] at hi; omega)
    have b24lt : b24 < H35.size := hb35.lt
    have r1lt : r1 < H35.size := by have := hx35.size; have := hx26.size; omega
    refine ⟨x.id, by rw [hb35.cell]; rfl, fun b37 H38 hn37 => ?_⟩
    have e37 := hn37.eq
    have s37 := hn37.size
    have ho38 := ho35.ext hn37.ext (by simp)
    refine ⟨ints out, ints [x.id], ho38.row _ _, ⟨rfl, .inr rfl, fun j u hj => ?_⟩, ints_one _, by omega, fun hle => by simpa using ho38.room (n := 1) hle, ?_⟩
    · show hcell H38 b37 (0 + j) = some u
      rw [Nat.zero_add, hn37.blk.cell]
      exact hj
    intro a41 c42 H43 happ
    obtain ⟨ho43, hx43, hfr43⟩ := happ.own ho38 (ho38.row _ _) (by rw [ints_length]; rfl) rfl
    have lt7 := ho35.lt
    have lt27 := ht35.lt
    have hb43 : Blk H43 b24 x.cells := (hb35.ext hn37.ext (by simp)).ext hx43 (fun hm => by
      have h1 := ho.lt _ hm
      omega)
    have hmk43 := (hmk35.ext hn37.ext (by simp)).ext hx43 (fun hm => nro _ hm (by simp))
    have ht43 := (ht35.ext hn37.ext (by simp)).ext hx43 (fun k hk hm => (d7 k hm).2 hk)
    have hX43 : Ext [] H H43 := ext_new (hX35.trans hn37.ext) hx43 (fun i hi => (d7 i hi).1)
    have s43 := hx43.size
    refine ⟨x.par, by rw [hb43.cell]; rfl, x.sec, by rw [hb43.cell]; rfl, fun b46 H47 hn46 => ?_⟩
    have e46 := hn46.eq
    have s46 := hn46.size
    have ht47 := ht43.ext hn46.ext (by simp)
    refine ⟨ints rest, ints [x.par, x.sec], ht47.row _ _, ⟨rfl, .inr rfl, fun j u hj => ?_⟩, ints_one _, by show (n10 - 1 + 2) * 8 ≤ _; omega, fun hle => ht47.room (k := 2) hle, ?_⟩
    · show hcell H47 b46 (0 + j) = some u
      rw [Nat.zero_add, hn46.blk.cell]
      exact hj
    intro a50 c51 H52 happ2
    obtain ⟨ht52, hx52, hfr52⟩ := App.ownO happ2 ht47 (ht47.row _ _) (by rw [ints_length]; rfl) rfl
    have lt41 := ho43.lt
    have n41 : ∀ k ∈ blkOf a41, k ∉ blkOf a27 := by
      intro k hk hm
      rcases hfr43 k hk with h' | h'
      · exact (d7 k h').2 hm
      · have := lt27 k hm; omega
    have hmk52 := (hmk43.ext hn46.ext (by simp)).ext hx52 (fun hm => nrt _ hm (by simp))
    have ho52 := (ho43.ext hn46.ext (by simp)).ext hx52 n41
    have hidx : x.id ∈ L.map Ly.id := List.mem_map_of_mem (find_some hf).2
    have hnd2 : (out ++ [x.id]).Nodup := by
      rw [List.nodup_append]
      exact ⟨hnd, by simp, fun p hp q hq => by simp only [List.mem_singleton] at hq; subst hq; exact fun e => hnew' (e ▸ hp)⟩
    have hsub2 : ∀ k ∈ out ++ [x.id], k ∈ L.map Ly.id := by
      intro k hk
      rcases List.mem_append.1 hk with h' | h'
      · exact hsub k h'
      · simp only [List.mem_singleton] at h'; subst h'; exact hidx
    have hol2 : n7 + 1 ≤ L.length := by
      have := nodup_le (L.map Ly.id) _ hnd2 hsub2
      rw [List.length_map, List.length_append] at this
      simp only [List.length_singleton] at this
      omega
    refine ⟨⟨out ++ [x.id], rest ++ [x.par, x.sec], ?_, ?_, hmk52, hnd2, hsub2, ?_, ?_, ?_, ?_, ?_⟩, ?_⟩
    · have : ints (out ++ [x.id]) = ints out ++ ints [x.id] := by simp [ints]
      rw [this]; exact ho52
    · have : ints (rest ++ [x.par, x.sec]) = ints rest ++ ints [x.par, x.sec] := by simp [ints]
      rw [this]; exact ht52
    · rw [hbfs, hk]
      simp only [bfs, hf]
      rw [if_neg hnew']
      congr 1
      show _ = 2 * L.length + (n10 - 1 + 2) - 2 * (n7 + 1)
      omega
    · show n10 - 1 + 2 ≤ _
      omega
    · intro k hk
      refine ⟨?_, fun hm => ?_⟩
      · rcases hfr43 k hk with h' | h'
        · exact (d7 k h').1
        · have := hX35.size; omega
      · rcases hfr52 k hm with h' | h'
        · exact n41 k hk h'
        · have := lt41 k hk; omega
    · intro k hk
      rcases hfr52 k hk with h' | h'
      · exact d10 k h'
      · have := hX43.size; omega
    · exact ext_new (hX43.trans hn46.ext) hx52 d10
    · show 2 * L.length + (n10 - 1 + 2) - 2 * (n7 + 1) < 2 * L.length + n10 - 2 * n7
      omega
  · have hn0 : n10 = 0 := by omega
    have ht0 : todo = [] := by
      cases todo with
      | nil => rfl
      | cons _ _ => simp at htd; omega
    have hfin : ancU L id = out := by rw [hbfs, ht0, bfs_nil]
    refine (sort_ok ho (by omega)).mono ?_
    rintro _ H54 ⟨rfl, ho54, hx54⟩
    have e1 : anc L id = sorted out := by unfold anc; rw [hfin]
    have e2 : (anc L id).length = n7 := by rw [e1]; simp [sorted, hout]
    refine ⟨rfl, a7, c7, by rw [e2], by rw [e2, e1]; exact ho54, by omega, ext_new hx hx54 (fun i hi => (hd7 i hi).1), fun k hk => (hd7 k hk).1⟩
end Go.Proofs
end

section
open Go Go.Vc
namespace Go.Proofs
set_option maxRecDepth 100000
/-- pentimento/graph.Right -/
theorem vc_right (x0 : Option Addr) (x0l : Nat) (x0c : Nat) (H : Heap) (R : Value → Heap → Prop) : Walk Try.prog 28 [] [(.slice x0 x0l x0c)] H R = (
  ∃ I1 : Int → Heap → Prop, ∃ μ2 : Int → Heap → Nat, (I1 0 H) ∧
  ∀ n3 : Int, ∀ H4 : Heap, I1 n3 H4 → (
    ((((n3 : Int) < (x0l : Int)) → (
          (0 : Int) ≤ n3 ∧ (n3 : Int) < (x0l : Int) ∧ ∃ b5 o6 : Nat, x0 = some (⟨b5, o6, none⟩ : Addr) ∧ (
            ∃ n7 : Int, hcell H4 b5 (o6 + (Int.toNat n3) * 4) = some (.int .i64 n7) ∧ (
              ∃ n8 : Int, hcell H4 b5 ((o6 + (Int.toNat n3) * 4) + 1) = some (.int .i64 n8) ∧ (
                ∃ n9 : Int, hcell H4 b5 (((o6 + (Int.toNat n3) * 4) + 1) + 1) = some (.int .i64 n9) ∧ (
                  ∃ t10 : Bool, hcell H4 b5 ((((o6 + (Int.toNat n3) * 4) + 1) + 1) + 1) = some (.bool t10) ∧ (
                    ∀ b11 : Nat, ∀ H12 : Heap, New H4 b11 [(.int .i64 0), (.int .i64 0), (.int .i64 0), (.bool false)] 46 H12 → (
                      Cells H12 b11 0 4 ∧ ∀ H13 : Heap, Puts H12 b11 0 [(.int .i64 n7), (.int .i64 n8), (.int .i64 n9), (.bool t10)] H13 → (
                        (0 : Int) ≤ n3 ∧ (n3 : Int) ≤ (x0c : Int) ∧ (
                          ∃ n14 : Int, hcell H13 b11 0 = some (.int .i64 n14) ∧ (
                            ((((n14 : Int) < 1) → (
                                  R (.bool false) H13)) ∧ (¬ ((n14 : Int) < 1) → (
                                  ∃ n15 : Int, hcell H13 b11 0 = some (.int .i64 n15) ∧ (
                                    ((((2147483647 : Int) < n15) → (
                                          R (.bool false) H13)) ∧ (¬ ((2147483647 : Int) < n15) → (
                                          ((((0 : Int) < n3) → (
                                                ∃ n16 : Int, hcell H13 b11 0 = some (.int .i64 n16) ∧ (
                                                  (In64 (n3 - 1)) ∧
                                                  (0 : Int) ≤ (n3 - 1) ∧ ((n3 - 1) : Int) < (x0l : Int) ∧ ∃ b17 o18 : Nat, x0 = some (⟨b17, o18, none⟩ : Addr) ∧ (
                                                    ∃ n19 : Int, hcell H13 b17 (o18 + (Int.toNat (n3 - 1)) * 4) = some (.int .i64 n19) ∧ (
                                                      ((((n16 : Int) ≤ n19) → (
                                                            R (.bool false) H13)) ∧ (¬ ((n16 : Int) ≤ n19) → (
                                                            ∃ n20 : Int, hcell H13 b11 (0 + 1) = some (.int .i64 n20) ∧ (
                                                            Does Try.prog 61 [(.slice x0 (Int.toNat n3) x0c), (.int .i64 n20)] H13 fun v21 H22 => ∃ t23 : Bool, v21 = (.bool t23) ∧ (
                                                            (((t23 = false) → (
                                                            R (.bool false) H22)) ∧ (¬ (t23 = false) → (
                                                            ∃ n24 : Int, hcell H22 b11 (0 + 2) = some (.int .i64 n24) ∧ (
                                                            Does Try.prog 61 [(.slice x0 (Int.toNat n3) x0c), (.int .i64 n24)] H22 fun v25 H26 => ∃ t27 : Bool, v25 = (.bool t27) ∧ (
                                                            (((t27 = false) → (
                                                            R (.bool false) H26)) ∧ (¬ (t27 = false) → (
                                                            ∃ n28 : Int, hcell H26 b11 (0 + 2) = some (.int .i64 n28) ∧ (
                                                            ((((n28 : Int) ≠ 0) → (
                                                            ∃ n29 : Int, hcell H26 b11 (0 + 1) = some (.int .i64 n29) ∧ (
                                                            ((((n29 : Int) = 0) → (
                                                            R (.bool false) H26)) ∧ (¬ ((n29 : Int) = 0) → (
                                                            ∃ n30 : Int, hcell H26 b11 (0 + 1) = some (.int .i64 n30) ∧ (
                                                            ∃ n31 : Int, hcell H26 b11 (0 + 2) = some (.int .i64 n31) ∧ (
                                                            ((((n30 : Int) = n31) → (
                                                            R (.bool false) H26)) ∧ (¬ ((n30 : Int) = n31) → (
                                                            (In64 (n3 + 1)) ∧
                                                            (0 : Int) ≤ (n3 + 1) ∧ ((n3 + 1) : Int) ≤ (x0c : Int) ∧ (
                                                            ∃ n32 : Int, hcell H26 b11 0 = some (.int .i64 n32) ∧ (
                                                            Does Try.prog 33 [(.slice x0 (Int.toNat (n3 + 1)) x0c), (.int .i64 n32)] H26 fun v33 H34 => ∃ a35 : Option Addr, ∃ l36 : Nat, ∃ c37 : Nat, v33 = (.slice a35 l36 c37) ∧ (
                                                            (((((12 : Int) < (l36 : Int)) → (
                                                            R (.bool false) H34)) ∧ (¬ ((12 : Int) < (l36 : Int)) → (
                                                            (In64 (n3 + 1)) ∧
                                                            (I1 (n3 + 1) H34) ∧ μ2 (n3 + 1) H34 < μ2 n3 H4)))))))))))))))))) ∧ (¬ ((n28 : Int) ≠ 0) → (
                                                            (In64 (n3 + 1)) ∧
                                                            (0 : Int) ≤ (n3 + 1) ∧ ((n3 + 1) : Int) ≤ (x0c : Int) ∧ (
                                                            ∃ n38 : Int, hcell H26 b11 0 = some (.int .i64 n38) ∧ (
                                                            Does Try.prog 33 [(.slice x0 (Int.toNat (n3 + 1)) x0c), (.int .i64 n38)] H26 fun v39 H40 => ∃ a41 : Option Addr, ∃ l42 : Nat, ∃ c43 : Nat, v39 = (.slice a41 l42 c43) ∧ (
                                                            (((((12 : Int) < (l42 : Int)) → (
                                                            R (.bool false) H40)) ∧ (¬ ((12 : Int) < (l42 : Int)) → (
                                                            (In64 (n3 + 1)) ∧
                                                            (I1 (n3 + 1) H40) ∧ μ2 (n3 + 1) H40 < μ2 n3 H4))))))))))))))))))))))))))))) ∧ (¬ ((0 : Int) < n3) → (
                                                ∃ n44 : Int, hcell H13 b11 (0 + 1) = some (.int .i64 n44) ∧ (
                                                  Does Try.prog 61 [(.slice x0 (Int.toNat n3) x0c), (.int .i64 n44)] H13 fun v45 H46 => ∃ t47 : Bool, v45 = (.bool t47) ∧ (
                                                    (((t47 = false) → (
                                                          R (.bool false) H46)) ∧ (¬ (t47 = false) → (
                                                          ∃ n48 : Int, hcell H46 b11 (0 + 2) = some (.int .i64 n48) ∧ (
                                                            Does Try.prog 61 [(.slice x0 (Int.toNat n3) x0c), (.int .i64 n48)] H46 fun v49 H50 => ∃ t51 : Bool, v49 = (.bool t51) ∧ (
                                                            (((t51 = false) → (
                                                            R (.bool false) H50)) ∧ (¬ (t51 = false) → (
                                                            ∃ n52 : Int, hcell H50 b11 (0 + 2) = some (.int .i64 n52) ∧ (
                                                            ((((n52 : Int) ≠ 0) → (
                                                            ∃ n53 : Int, hcell H50 b11 (0 + 1) = some (.int .i64 n53) ∧ (
                                                            ((((n53 : Int) = 0) → (
                                                            R (.bool false) H50)) ∧ (¬ ((n53 : Int) = 0) → (
                                                            ∃ n54 : Int, hcell H50 b11 (0 + 1) = some (.int .i64 n54) ∧ (
                                                            ∃ n55 : Int, hcell H50 b11 (0 + 2) = some (.int .i64 n55) ∧ (
                                                            ((((n54 : Int) = n55) → (
                                                            R (.bool false) H50)) ∧ (¬ ((n54 : Int) = n55) → (
                                                            (In64 (n3 + 1)) ∧
                                                            (0 : Int) ≤ (n3 + 1) ∧ ((n3 + 1) : Int) ≤ (x0c : Int) ∧ (
                                                            ∃ n56 : Int, hcell H50 b11 0 = some (.int .i64 n56) ∧ (
                                                            Does Try.prog 33 [(.slice x0 (Int.toNat (n3 + 1)) x0c), (.int .i64 n56)] H50 fun v57 H58 => ∃ a59 : Option Addr, ∃ l60 : Nat, ∃ c61 : Nat, v57 = (.slice a59 l60 c61) ∧ (
                                                            (((((12 : Int) < (l60 : Int)) → (
                                                            R (.bool false) H58)) ∧ (¬ ((12 : Int) < (l60 : Int)) → (
                                                            (In64 (n3 + 1)) ∧
                                                            (I1 (n3 + 1) H58) ∧ μ2 (n3 + 1) H58 < μ2 n3 H4)))))))))))))))))) ∧ (¬ ((n52 : Int) ≠ 0) → (
                                                            (In64 (n3 + 1)) ∧
                                                            (0 : Int) ≤ (n3 + 1) ∧ ((n3 + 1) : Int) ≤ (x0c : Int) ∧ (
                                                            ∃ n62 : Int, hcell H50 b11 0 = some (.int .i64 n62) ∧ (
                                                            Does Try.prog 33 [(.slice x0 (Int.toNat (n3 + 1)) x0c), (.int .i64 n62)] H50 fun v63 H64 => ∃ a65 : Option Addr, ∃ l66 : Nat, ∃ c67 : Nat, v63 = (.slice a65 l66 c67) ∧ (
                                                            (((((12 : Int) < (l66 : Int)) → (
                                                            R (.bool false) H64)) ∧ (¬ ((12 : Int) < (l66 : Int)) → (
                                                            (In64 (n3 + 1)) ∧
                                                            (I1 (n3 + 1) H64) ∧ μ2 (n3 + 1) H64 < μ2 n3 H4)))))))))))))))))))))))))))))))))))))))))) ∧ (¬ ((n3 : Int) < (x0l : Int)) → (
          R (.bool (@decide (((x0l : Int) : Int) ≤ 40) (Classical.propDecidable _))) H4))))) := by kernel_rfl


/-- pentimento/graph.Keep -/
theorem vc_keep (x0 : Option Addr) (x0l : Nat) (x0c : Nat) (x1 : Option Addr) (x1l : Nat) (x1c : Nat) (H : Heap) (R : Value → Heap → Prop) : Walk Try.prog 32 [] [(.slice x0 x0l x0c), (.slice x1 x1l x1c)] H R = (
  ∀ b1 : Nat, ∀ H2 : Heap, New H b1 [(.slice none 0 0)] 22 H2 → (
    ∃ I3 : Int → Heap → Prop, ∃ μ4 : Int → Heap → Nat, (I3 0 H2) ∧
    ∀ n5 : Int, ∀ H6 : Heap, I3 n5 H6 → (
      ((((n5 : Int) < (x1l : Int)) → (
            (0 : Int) ≤ n5 ∧ (n5 : Int) < (x1l : Int) ∧ ∃ b7 o8 : Nat, x1 = some (⟨b7, o8, none⟩ : Addr) ∧ (
              ∃ n9 : Int, hcell H6 b7 (o8 + (Int.toNat n5)) = some (.int .i64 n9) ∧ (
                ∃ a10 : Option Addr, ∃ l11 : Nat, ∃ c12 : Nat, hcell H6 b1 0 = some (.slice a10 l11 c12) ∧ (
                  Does Try.prog 30 [(.slice x0 x0l x0c), (.int .i64 n9)] H6 fun v13 H14 => ∃ a15 : Option Addr, ∃ l16 : Nat, ∃ c17 : Nat, v13 = (.slice a15 l16 c17) ∧ (
                    isL H14 b1 0 [(.slice a10 l11 c12)] ∧ (∃ old18 new19 : List Value, SRow H14 1 l11 (.slice a10 l11 c12) old18 ∧ SRow H14 1 l16 (.slice a15 l16 c17) new19 ∧ (∀ u ∈ new19, Value.oneCell' u = true) ∧ (l11 + l16) * 8 ≤ 140737488355328 ∧ (l11 + l16 ≤ c12 → roomOf H14 a10 (l11 * 1) (l16 * 1)) ∧ ∀ a20 : Option Addr, ∀ c21 : Nat, ∀ H22 : Heap, App H14 1 3 [(.int .i64 0)] a10 l11 c12 old18 new19 l16 a20 c21 H22 → (
                        (Cells H22 b1 0 1 ∧ ∀ H23 : Heap, Puts H22 b1 0 [(.slice a20 (l11 + l16) c21)] H23 → (
                            ((In64 (n5 + 1)) ∧
                              (I3 (n5 + 1) H23) ∧ μ4 (n5 + 1) H23 < μ4 n5 H6))))))))))) ∧ (¬ ((n5 : Int) < (x1l : Int)) → (
            Does Try.prog 65 [(.slice x0 x0l x0c)] H6 fun v24 H25 => ∃ a26 : Option Addr, ∃ l27 : Nat, ∃ c28 : Nat, v24 = (.slice a26 l27 c28) ∧ (
              Does Try.prog 64 [(.slice a26 l27 c28), (.func (.func 66) #[] #[(.pointer (some (⟨b1, 0, none⟩ : Addr)))])] H25 fun v29 H30 => ∃ a31 : Option Addr, ∃ l32 : Nat, ∃ c33 : Nat, v29 = (.slice a31 l32 c33) ∧ (
                R (.slice a31 l32 c33) H30)))))))) := by kernel_rfl


/-- pentimento/graph.Keep$1 -/
theorem vc_keepcl (x0_0 : Int) (x0_1 : Int) (x0_2 : Int) (x0_3 : Bool) (x1 : Option Addr) (H : Heap) (R : Value → Heap → Prop) : Walk Try.prog 66 [] [(.agg #[(.int .i64 x0_0), (.int .i64 x0_1), (.int .i64 x0_2), (.bool x0_3)]), (.pointer x1)] H R = (
  ∀ b1 : Nat, ∀ H2 : Heap, New H b1 [(.int .i64 x0_0), (.int .i64 x0_1), (.int .i64 x0_2), (.bool x0_3)] 46 H2 → (
    withA x1 (fun (b3 : Nat) (o4 : Nat) => (
        ∃ a5 : Option Addr, ∃ l6 : Nat, ∃ c7 : Nat, hcell H2 b3 o4 = some (.slice a5 l6 c7) ∧ (
          ∃ n8 : Int, hcell H2 b1 0 = some (.int .i64 n8) ∧ (
            Does Try.prog 62 [(.slice a5 l6 c7), (.int .i64 n8)] H2 fun v9 H10 => ∃ t11 : Bool, v9 = (.bool t11) ∧ (
              R (.bool (@decide (t11 = false) (Classical.propDecidable _))) H10))))))) := by kernel_rfl


/-- slices.DeleteFunc[[]pentimento/graph.Layer,pentimento/graph.Layer] -/
theorem vc_deletefunc (x0 : Option Addr) (x0l : Nat) (x0c : Nat) (x1_0 : Option Addr) (H : Heap) (R : Value → Heap → Prop) : Walk Try.prog 64 [] [(.slice x0 x0l x0c), (.func (.func 66) #[] #[(.pointer x1_0)])] H R = (
  Does Try.prog 68 [(.slice x0 x0l x0c), (.func (.func 66) #[] #[(.pointer x1_0)])] H fun v1 H2 => ∃ n3 : Int, v1 = (.int .i64 n3) ∧ (
    ((((n3 : Int) = (-1)) → (
          R (.slice x0 x0l x0c) H2)) ∧ (¬ ((n3 : Int) = (-1)) → (
          (In64 (n3 + 1)) ∧
          ∃ I4 : Int → Int → Heap → Prop, ∃ μ5 : Int → Int → Heap → Nat, (I4 n3 (n3 + 1) H2) ∧
          ∀ n6 : Int, ∀ n7 : Int, ∀ H8 : Heap, I4 n6 n7 H8 → (
            ((((n7 : Int) < (x0l : Int)) → (
                  (0 : Int) ≤ n7 ∧ (n7 : Int) < (x0l : Int) ∧ ∃ b9 o10 : Nat, x0 = some (⟨b9, o10, none⟩ : Addr) ∧ (
                    ∃ n11 : Int, hcell H8 b9 (o10 + (Int.toNat n7) * 4) = some (.int .i64 n11) ∧ (
                      ∃ n12 : Int, hcell H8 b9 ((o10 + (Int.toNat n7) * 4) + 1) = some (.int .i64 n12) ∧ (
                        ∃ n13 : Int, hcell H8 b9 (((o10 + (Int.toNat n7) * 4) + 1) + 1) = some (.int .i64 n13) ∧ (
                          ∃ t14 : Bool, hcell H8 b9 ((((o10 + (Int.toNat n7) * 4) + 1) + 1) + 1) = some (.bool t14) ∧ (
                            ∀ b15 : Nat, ∀ H16 : Heap, New H8 b15 [(.int .i64 0), (.int .i64 0), (.int .i64 0), (.bool false)] 46 H16 → (
                              Cells H16 b15 0 4 ∧ ∀ H17 : Heap, Puts H16 b15 0 [(.int .i64 n11), (.int .i64 n12), (.int .i64 n13), (.bool t14)] H17 → (
                                ∃ n18 : Int, hcell H17 b15 0 = some (.int .i64 n18) ∧ (
                                  ∃ n19 : Int, hcell H17 b15 (0 + 1) = some (.int .i64 n19) ∧ (
                                    ∃ n20 : Int, hcell H17 b15 ((0 + 1) + 1) = some (.int .i64 n20) ∧ (
                                      ∃ t21 : Bool, hcell H17 b15 (((0 + 1) + 1) + 1) = some (.bool t21) ∧ (
                                        Does Try.prog 66 [(.agg #[(.int .i64 n18), (.int .i64 n19), (.int .i64 n20), (.bool t21)]), (.pointer x1_0)] H17 fun v22 H23 => ∃ t24 : Bool, v22 = (.bool t24) ∧ (
                                          (((t24 = false) → (
                                                ∃ n25 : Int, hcell H23 b15 0 = some (.int .i64 n25) ∧ (
                                                  ∃ n26 : Int, hcell H23 b15 (0 + 1) = some (.int .i64 n26) ∧ (
                                                    ∃ n27 : Int, hcell H23 b15 ((0 + 1) + 1) = some (.int .i64 n27) ∧ (
                                                      ∃ t28 : Bool, hcell H23 b15 (((0 + 1) + 1) + 1) = some (.bool t28) ∧ (
                                                        (0 : Int) ≤ n6 ∧ (n6 : Int) < (x0l : Int) ∧ ∃ b29 o30 : Nat, x0 = some (⟨b29, o30, none⟩ : Addr) ∧ (
                                                          Cells H23 b29 (o30 + (Int.toNat n6) * 4) 4 ∧ ∀ H31 : Heap, Puts H23 b29 (o30 + (Int.toNat n6) * 4) [(.int .i64 n25), (.int .i64 n26), (.int .i64 n27), (.bool t28)] H31 → (
                                                            (In64 (n6 + 1)) ∧
                                                            (In64 (n7 + 1)) ∧
                                                            (I4 (n6 + 1) (n7 + 1) H31) ∧ μ5 (n6 + 1) (n7 + 1) H31 < μ5 n6 n7 H8)))))))) ∧ (¬ (t24 = false) → (
                                                (In64 (n7 + 1)) ∧
                                                (I4 n6 (n7 + 1) H23) ∧ μ5 n6 (n7 + 1) H23 < μ5 n6 n7 H8))))))))))))))))) ∧ (¬ ((n7 : Int) < (x0l : Int)) → (
                  (0 : Int) ≤ n6 ∧ (n6 : Int) ≤ (x0l : Int) ∧ ∀ a32 : Option Addr, a32 = (if x0c = (Int.toNat n6) then x0 else Option.map (fun x => Addr.add x ((Int.toNat n6) * 4)) x0) → (
                    roomOf H8 a32 0 ((x0l - (Int.toNat n6)) * 4) ∧ ∀ H33 : Heap, Copied H8 a32 (List.flatten (List.replicate (x0l - (Int.toNat n6)) [(.int .i64 0), (.int .i64 0), (.int .i64 0), (.bool false)])) H33 → (
                      (0 : Int) ≤ n6 ∧ (n6 : Int) ≤ (x0c : Int) ∧ (
                        R (.slice x0 (Int.toNat n6) x0c) H33)))))))))))) := by kernel_rfl


/-- slices.Clone[[]pentimento/graph.Layer,pentimento/graph.Layer] -/
theorem vc_clone (x0 : Option Addr) (x0l : Nat) (x0c : Nat) (H : Heap) (R : Value → Heap → Prop) : Walk Try.prog 65 [] [(.slice x0 x0l x0c)] H R = (
  ((((x0 : Option Addr) = none) → (
        R (.slice none 0 0) H)) ∧ (¬ ((x0 : Option Addr) = none) → (
        ∀ b1 : Nat, ∀ H2 : Heap, New H b1 [] 46 H2 → (
          ∃ old3 new4 : List Value, SRow H2 4 0 (.slice (some (⟨b1, 0, none⟩ : Addr)) 0 0) old3 ∧ SRow H2 4 x0l (.slice x0 x0l x0c) new4 ∧ (∀ u ∈ new4, Value.oneCell' u = true) ∧ (0 + x0l) * 32 ≤ 140737488355328 ∧ (0 + x0l ≤ 0 → roomOf H2 (some (⟨b1, 0, none⟩ : Addr)) (0 * 4) (x0l * 4)) ∧ ∀ a5 : Option Addr, ∀ c6 : Nat, ∀ H7 : Heap, App H2 4 46 [(.int .i64 0), (.int .i64 0), (.int .i64 0), (.bool false)] (some (⟨b1, 0, none⟩ : Addr)) 0 0 old3 new4 x0l a5 c6 H7 → (
            R (.slice a5 (0 + x0l) c6) H7)))))) := by kernel_rfl


/-- pentimento/pentimentolaw13.four -/
theorem vc_four (H : Heap) (R : Value → Heap → Prop) : Walk Try.prog 35 [] [] H R = (
  ∀ b1 : Nat, ∀ H2 : Heap, New H b1 [(.int .i64 1), (.int .i64 0), (.int .i64 0), (.bool true), (.int .i64 2), (.int .i64 1), (.int .i64 0), (.bool true), (.int .i64 3), (.int .i64 2), (.int .i64 0), (.bool true), (.int .i64 4), (.int .i64 2), (.int .i64 0), (.bool false)] 46 H2 → (
    R (.slice (some (⟨b1, 0, none⟩ : Addr)) 4 4) H2)) := by kernel_rfl


/-- pentimento/pentimentolaw13.known -/
theorem vc_known13 (H : Heap) (R : Value → Heap → Prop) : Walk Try.prog 27 [] [] H R = (
  Does Try.prog 35 [] H fun v1 H2 => ∃ a3 : Option Addr, ∃ l4 : Nat, ∃ c5 : Nat, v1 = (.slice a3 l4 c5) ∧ (
    Does Try.prog 29 [(.slice a3 l4 c5), (.int .i64 3), (.int .i64 4)] H2 fun v6 H7 => ∃ n8 : Int, v6 = (.int .i64 n8) ∧ (
      ((((n8 : Int) = 2) → (
            Does Try.prog 35 [] H7 fun v9 H10 => ∃ a11 : Option Addr, ∃ l12 : Nat, ∃ c13 : Nat, v9 = (.slice a11 l12 c13) ∧ (
              Does Try.prog 28 [(.slice a11 l12 c13)] H10 fun v14 H15 => ∃ t16 : Bool, v14 = (.bool t16) ∧ (
                R (.bool t16) H15)))) ∧ (¬ ((n8 : Int) = 2) → (
            R (.bool false) H7)))))) := by kernel_rfl


/-- pentimento/pentimentolaw13.list -/
theorem vc_list (x0 : Option Addr) (x0l : Nat) (x0c : Nat) (x1 : Int) (H : Heap) (R : Value → Heap → Prop) : Walk Try.prog 26 [(8, [(8, (.pointer none))]), (20, []), (22, []), (24, []), (26, [])] [(.slice x0 x0l x0c), (.int .i64 x1)] H R = (
  ∃ I1 : Int → Option Addr → Nat → Nat → Int → Heap → Prop, ∃ μ2 : Int → Option Addr → Nat → Nat → Int → Heap → Nat, (I1 0 none 0 0 0 H) ∧
  ∀ n3 : Int, ∀ a4 : Option Addr, ∀ l5 : Nat, ∀ c6 : Nat, ∀ n7 : Int, ∀ H8 : Heap, I1 n3 a4 l5 c6 n7 H8 → (
    ((((n7 : Int) < (x0l : Int)) → (
          ((((n7 : Int) < 16) → (
                (In64 (n3 + 1)) ∧
                (0 : Int) ≤ n7 ∧ (n7 : Int) < (x0l : Int) ∧ ∃ b9 o10 : Nat, x0 = some (⟨b9, o10, none⟩ : Addr) ∧ (
                  ∃ n11 : Int, hcell H8 b9 (o10 + (Int.toNat n7) * 4) = some (.int .i64 n11) ∧ (
                    Does Try.prog 23 [(.int .i64 n11), (.int .i64 3)] H8 fun v12 H13 => ∃ n14 : Int, v12 = (.int .i64 n14) ∧ (
                      (In64 ((n3 + 1) + n14)) ∧
                      ∃ I15 : Option Addr → Heap → Prop, (
                        (0 : Int) ≤ n7 ∧ (n7 : Int) < (x0l : Int) ∧ ∃ b16 o17 : Nat, x0 = some (⟨b16, o17, none⟩ : Addr) ∧ (
                          ∃ t18 : Bool, hcell H13 b16 ((o17 + (Int.toNat n7) * 4) + 3) = some (.bool t18) ∧ (
                            ((t18 = true → (
                                  ∀ b19 : Nat, ∀ H20 : Heap, New H13 b19 [(.int .i64 0), (.int .i64 0), (.int .i64 0), (.bool false)] 46 H20 → (
                                    Cells H20 b19 0 4 ∧ ∀ H21 : Heap, Puts H20 b19 0 [(.int .i64 ((n3 + 1) + n14)), (.int .i64 0), (.int .i64 0), (.bool true)] H21 → (
                                      I15 (some (⟨b19, 0, none⟩ : Addr)) H21)))) ∧ (t18 = false → (
                                  (0 : Int) ≤ n7 ∧ (n7 : Int) < (x0l : Int) ∧ ∃ b22 o23 : Nat, x0 = some (⟨b22, o23, none⟩ : Addr) ∧ (
                                    ∃ n24 : Int, hcell H13 b22 (o23 + (Int.toNat n7) * 4) = some (.int .i64 n24) ∧ (
                                      ((4 : Int) ≠ 0) ∧
                                      ∀ q25 : Int, q25 = Int.tmod n24 4 → (
                                        ∀ b26 : Nat, ∀ H27 : Heap, New H13 b26 [(.int .i64 0), (.int .i64 0), (.int .i64 0), (.bool false)] 46 H27 → (
                                          Cells H27 b26 0 4 ∧ ∀ H28 : Heap, Puts H27 b26 0 [(.int .i64 ((n3 + 1) + n14)), (.int .i64 0), (.int .i64 0), (.bool (@decide ((0 : Int) < q25) (Classical.propDecidable _)))] H28 → (
                                            I15 (some (⟨b26, 0, none⟩ : Addr)) H28))))))))))) ∧
                      ∀ p29 : Option Addr, ∀ H30 : Heap, I15 p29 H30 → (
                        ∃ I31 : Option Addr → Nat → Nat → Int → Heap → Prop, ∃ μ32 : Option Addr → Nat → Nat → Int → Heap → Nat, (I31 none 0 0 0 H30) ∧
                        ∀ a33 : Option Addr, ∀ l34 : Nat, ∀ c35 : Nat, ∀ n36 : Int, ∀ H37 : Heap, I31 a33 l34 c35 n36 H37 → (
                          ((((n36 : Int) < (l5 : Int)) → (
                                (0 : Int) ≤ n36 ∧ (n36 : Int) < (l5 : Int) ∧ ∃ b38 o39 : Nat, a4 = some (⟨b38, o39, none⟩ : Addr) ∧ (
                                  ∃ t40 : Bool, hcell H37 b38 ((o39 + (Int.toNat n36) * 4) + 3) = some (.bool t40) ∧ (
                                    ((t40 = true → (
                                          (0 : Int) ≤ n36 ∧ (n36 : Int) < (l5 : Int) ∧ ∃ b41 o42 : Nat, a4 = some (⟨b41, o42, none⟩ : Addr) ∧ (
                                            ∃ n43 : Int, hcell H37 b41 (o42 + (Int.toNat n36) * 4) = some (.int .i64 n43) ∧ (
                                              ∀ b44 : Nat, ∀ H45 : Heap, New H37 b44 [(.int .i64 n43)] 3 H45 → (
                                                ∃ old46 new47 : List Value, SRow H45 1 l34 (.slice a33 l34 c35) old46 ∧ SRow H45 1 1 (.slice (some (⟨b44, 0, none⟩ : Addr)) 1 1) new47 ∧ (∀ u ∈ new47, Value.oneCell' u = true) ∧ (l34 + 1) * 8 ≤ 140737488355328 ∧ (l34 + 1 ≤ c35 → roomOf H45 a33 (l34 * 1) (1 * 1)) ∧ ∀ a48 : Option Addr, ∀ c49 : Nat, ∀ H50 : Heap, App H45 1 3 [(.int .i64 0)] a33 l34 c35 old46 new47 1 a48 c49 H50 → (
                                                  (In64 (n36 + 1)) ∧
                                                  (I31 a48 (l34 + 1) c49 (n36 + 1) H50) ∧ μ32 a48 (l34 + 1) c49 (n36 + 1) H50 < μ32 a33 l34 c35 n36 H37)))))) ∧ (t40 = false → (
                                          (In64 (n36 + 1)) ∧
                                          (I31 a33 l34 c35 (n36 + 1) H37) ∧ μ32 a33 l34 c35 (n36 + 1) H37 < μ32 a33 l34 c35 n36 H37))))))) ∧ (¬ ((n36 : Int) < (l5 : Int)) → (
                                ∃ I51 : Heap → Prop, (
                                  ((((0 : Int) < (l34 : Int)) → (
                                        (0 : Int) ≤ n7 ∧ (n7 : Int) < (x0l : Int) ∧ ∃ b52 o53 : Nat, x0 = some (⟨b52, o53, none⟩ : Addr) ∧ (
                                          ∃ n54 : Int, hcell H37 b52 ((o53 + (Int.toNat n7) * 4) + 1) = some (.int .i64 n54) ∧ (
                                            ((7 : Int) ≠ 0) ∧
                                            ∀ q55 : Int, q55 = Int.tmod n54 7 → (
                                              ((((0 : Int) < q55) → (
                                                    (0 : Int) ≤ n7 ∧ (n7 : Int) < (x0l : Int) ∧ ∃ b56 o57 : Nat, x0 = some (⟨b56, o57, none⟩ : Addr) ∧ (
                                                      ∃ n58 : Int, hcell H37 b56 ((o57 + (Int.toNat n7) * 4) + 1) = some (.int .i64 n58) ∧ (
                                                        Does Try.prog 23 [(.int .i64 n58), (.int .i64 (l34 : Int))] H37 fun v59 H60 => ∃ n61 : Int, v59 = (.int .i64 n61) ∧ (
                                                          (0 : Int) ≤ n61 ∧ (n61 : Int) < (l34 : Int) ∧ ∃ b62 o63 : Nat, a33 = some (⟨b62, o63, none⟩ : Addr) ∧ (
                                                            ∃ n64 : Int, hcell H60 b62 (o63 + (Int.toNat n61)) = some (.int .i64 n64) ∧ (
                                                            withA p29 (fun (b65 : Nat) (o66 : Nat) => (
                                                            Cells H60 b65 (o66 + 1) 1 ∧ ∀ H67 : Heap, Puts H60 b65 (o66 + 1) [(.int .i64 n64)] H67 → (
                                                            (0 : Int) ≤ n7 ∧ (n7 : Int) < (x0l : Int) ∧ ∃ b68 o69 : Nat, x0 = some (⟨b68, o69, none⟩ : Addr) ∧ (
                                                            ∃ n70 : Int, hcell H67 b68 ((o69 + (Int.toNat n7) * 4) + 2) = some (.int .i64 n70) ∧ (
                                                            ((3 : Int) ≠ 0) ∧
                                                            ∀ q71 : Int, q71 = Int.tmod n70 3 → (
                                                            ((((q71 : Int) = 0) → (
                                                            (0 : Int) ≤ n7 ∧ (n7 : Int) < (x0l : Int) ∧ ∃ b72 o73 : Nat, x0 = some (⟨b72, o73, none⟩ : Addr) ∧ (
                                                            ∃ n74 : Int, hcell H67 b72 ((o73 + (Int.toNat n7) * 4) + 2) = some (.int .i64 n74) ∧ (
                                                            ((3 : Int) ≠ 0) ∧
                                                            ∀ q75 : Int, q75 = IntKind.wrap .i64 (Int.tdiv n74 3) → (
                                                            Does Try.prog 23 [(.int .i64 q75), (.int .i64 (l34 : Int))] H67 fun v76 H77 => ∃ n78 : Int, v76 = (.int .i64 n78) ∧ (
                                                            (0 : Int) ≤ n78 ∧ (n78 : Int) < (l34 : Int) ∧ ∃ b79 o80 : Nat, a33 = some (⟨b79, o80, none⟩ : Addr) ∧ (
                                                            ∃ n81 : Int, hcell H77 b79 (o80 + (Int.toNat n78)) = some (.int .i64 n81) ∧ (
                                                            withA p29 (fun (b82 : Nat) (o83 : Nat) => (
                                                            Cells H77 b82 (o83 + 2) 1 ∧ ∀ H84 : Heap, Puts H77 b82 (o83 + 2) [(.int .i64 n81)] H84 → (
                                                            withA p29 (fun (b85 : Nat) (o86 : Nat) => (
                                                            ∃ n87 : Int, hcell H84 b85 (o86 + 2) = some (.int .i64 n87) ∧ (
                                                            withA p29 (fun (b88 : Nat) (o89 : Nat) => (
                                                            ∃ n90 : Int, hcell H84 b88 (o89 + 1) = some (.int .i64 n90) ∧ (
                                                            ((((n87 : Int) = n90) → (
                                                            withA p29 (fun (b91 : Nat) (o92 : Nat) => (
                                                            Cells H84 b91 (o92 + 2) 1 ∧ ∀ H93 : Heap, Puts H84 b91 (o92 + 2) [(.int .i64 0)] H93 → (
                                                            I51 H93))))) ∧ (¬ ((n87 : Int) = n90) → (
                                                            I51 H84)))))))))))))))))))) ∧ (¬ ((q71 : Int) = 0) → (
                                                            I51 H67)))))))))))))))) ∧ (¬ ((0 : Int) < q55) → (
                                                    I51 H37)))))))) ∧ (¬ ((0 : Int) < (l34 : Int)) → (
                                        I51 H37)))) ∧
                                ∀ H94 : Heap, I51 H94 → (
                                  ∃ I95 : Heap → Prop, (
                                    ((17 : Int) ≠ 0) ∧
                                    ∀ q96 : Int, q96 = Int.tmod x1 17 → (
                                      ((((q96 : Int) = 16) → (
                                            ((17 : Int) ≠ 0) ∧
                                            ∀ q97 : Int, q97 = IntKind.wrap .i64 (Int.tdiv x1 17) → (
                                              Does Try.prog 23 [(.int .i64 q97), (.int .i64 8)] H94 fun v98 H99 => ∃ n100 : Int, v98 = (.int .i64 n100) ∧ (
                                                ((((n7 : Int) = n100) → (
                                                      (0 : Int) ≤ n7 ∧ (n7 : Int) < (x0l : Int) ∧ ∃ b101 o102 : Nat, x0 = some (⟨b101, o102, none⟩ : Addr) ∧ (
                                                        ∃ n103 : Int, hcell H99 b101 ((o102 + (Int.toNat n7) * 4) + 2) = some (.int .i64 n103) ∧ (
                                                          withA p29 (fun (b104 : Nat) (o105 : Nat) => (
                                                            Cells H99 b104 (o105 + 2) 1 ∧ ∀ H106 : Heap, Puts H99 b104 (o105 + 2) [(.int .i64 n103)] H106 → (
                                                            I95 H106))))))) ∧ (¬ ((n7 : Int) = n100) → (
                                                      I95 H99))))))) ∧ (¬ ((q96 : Int) = 16) → (
                                            I95 H94))))) ∧
                                  ∀ H107 : Heap, I95 H107 → (
                                    ∃ I108 : Heap → Prop, (
                                      ((19 : Int) ≠ 0) ∧
                                      ∀ q109 : Int, q109 = Int.tmod x1 19 → (
                                        ((((q109 : Int) = 18) → (
                                              ((19 : Int) ≠ 0) ∧
                                              ∀ q110 : Int, q110 = IntKind.wrap .i64 (Int.tdiv x1 19) → (
                                                Does Try.prog 23 [(.int .i64 q110), (.int .i64 8)] H107 fun v111 H112 => ∃ n113 : Int, v111 = (.int .i64 n113) ∧ (
                                                  ((((n7 : Int) = n113) → (
                                                        (In64 (((n3 + 1) + n14) - 1)) ∧
                                                        withA p29 (fun (b114 : Nat) (o115 : Nat) => (
                                                            Cells H112 b114 (o115 + 1) 1 ∧ ∀ H116 : Heap, Puts H112 b114 (o115 + 1) [(.int .i64 (((n3 + 1) + n14) - 1))] H116 → (
                                                            I108 H116))))) ∧ (¬ ((n7 : Int) = n113) → (
                                                        I108 H112))))))) ∧ (¬ ((q109 : Int) = 18) → (
                                              I108 H107))))) ∧
                                    ∀ H117 : Heap, I108 H117 → (
                                      ∃ I118 : Heap → Prop, (
                                        ((23 : Int) ≠ 0) ∧
                                        ∀ q119 : Int, q119 = Int.tmod x1 23 → (
                                          ((((q119 : Int) = 22) → (
                                                ((23 : Int) ≠ 0) ∧
                                                ∀ q120 : Int, q120 = IntKind.wrap .i64 (Int.tdiv x1 23) → (
                                                  Does Try.prog 23 [(.int .i64 q120), (.int .i64 8)] H117 fun v121 H122 => ∃ n123 : Int, v121 = (.int .i64 n123) ∧ (
                                                    ((((n7 : Int) = n123) → (
                                                          (0 : Int) ≤ n7 ∧ (n7 : Int) < (x0l : Int) ∧ ∃ b124 o125 : Nat, x0 = some (⟨b124, o125, none⟩ : Addr) ∧ (
                                                            ∃ n126 : Int, hcell H122 b124 (o125 + (Int.toNat n7) * 4) = some (.int .i64 n126) ∧ (
                                                            withA p29 (fun (b127 : Nat) (o128 : Nat) => (
                                                            Cells H122 b127 o128 1 ∧ ∀ H129 : Heap, Puts H122 b127 o128 [(.int .i64 n126)] H129 → (
                                                            I118 H129))))))) ∧ (¬ ((n7 : Int) = n123) → (
                                                          I118 H122))))))) ∧ (¬ ((q119 : Int) = 22) → (
                                                I118 H117))))) ∧
                                      ∀ H130 : Heap, I118 H130 → (
                                        withA p29 (fun (b131 : Nat) (o132 : Nat) => (
                                            ∃ n133 : Int, hcell H130 b131 o132 = some (.int .i64 n133) ∧ (
                                              ∃ n134 : Int, hcell H130 b131 (o132 + 1) = some (.int .i64 n134) ∧ (
                                                ∃ n135 : Int, hcell H130 b131 ((o132 + 1) + 1) = some (.int .i64 n135) ∧ (
                                                  ∃ t136 : Bool, hcell H130 b131 (((o132 + 1) + 1) + 1) = some (.bool t136) ∧ (
                                                    ∀ b137 : Nat, ∀ H138 : Heap, New H130 b137 [(.int .i64 n133), (.int .i64 n134), (.int .i64 n135), (.bool t136)] 46 H138 → (
                                                      ∃ old139 new140 : List Value, SRow H138 4 l5 (.slice a4 l5 c6) old139 ∧ SRow H138 4 1 (.slice (some (⟨b137, 0, none⟩ : Addr)) 1 1) new140 ∧ (∀ u ∈ new140, Value.oneCell' u = true) ∧ (l5 + 1) * 32 ≤ 140737488355328 ∧ (l5 + 1 ≤ c6 → roomOf H138 a4 (l5 * 4) (1 * 4)) ∧ ∀ a141 : Option Addr, ∀ c142 : Nat, ∀ H143 : Heap, App H138 4 46 [(.int .i64 0), (.int .i64 0), (.int .i64 0), (.bool false)] a4 l5 c6 old139 new140 1 a141 c142 H143 → (
                                                        (In64 (n7 + 1)) ∧
                                                        (I1 ((n3 + 1) + n14) a141 (l5 + 1) c142 (n7 + 1) H143) ∧ μ2 ((n3 + 1) + n14) a141 (l5 + 1) c142 (n7 + 1) H143 < μ2 n3 a4 l5 c6 n7 H8)))))))))))))))))))))) ∧ (¬ ((n7 : Int) < 16) → (
                R (.slice a4 l5 c6) H8))))) ∧ (¬ ((n7 : Int) < (x0l : Int)) → (
          R (.slice a4 l5 c6) H8))))) := by kernel_rfl


/-- slices.IndexFunc[[]pentimento/graph.Layer,pentimento/graph.Layer] -/
theorem vc_indexfunc66 (x0 : Option Addr) (x0l : Nat) (x0c : Nat) (x1_0 : Option Addr) (H : Heap) (R : Value → Heap → Prop) : Walk Try.prog 68 [] [(.slice x0 x0l x0c), (.func (.func 66) #[] #[(.pointer x1_0)])] H R = (
  ∃ I1 : Int → Heap → Prop, ∃ μ2 : Int → Heap → Nat, (I1 0 H) ∧
  ∀ n3 : Int, ∀ H4 : Heap, I1 n3 H4 → (
    ((((n3 : Int) < (x0l : Int)) → (
          (0 : Int) ≤ n3 ∧ (n3 : Int) < (x0l : Int) ∧ ∃ b5 o6 : Nat, x0 = some (⟨b5, o6, none⟩ : Addr) ∧ (
            ∃ n7 : Int, hcell H4 b5 (o6 + (Int.toNat n3) * 4) = some (.int .i64 n7) ∧ (
              ∃ n8 : Int, hcell H4 b5 ((o6 + (Int.toNat n3) * 4) + 1) = some (.int .i64 n8) ∧ (
                ∃ n9 : Int, hcell H4 b5 (((o6 + (Int.toNat n3) * 4) + 1) + 1) = some (.int .i64 n9) ∧ (
                  ∃ t10 : Bool, hcell H4 b5 ((((o6 + (Int.toNat n3) * 4) + 1) + 1) + 1) = some (.bool t10) ∧ (
                    Does Try.prog 66 [(.agg #[(.int .i64 n7), (.int .i64 n8), (.int .i64 n9), (.bool t10)]), (.pointer x1_0)] H4 fun v11 H12 => ∃ t13 : Bool, v11 = (.bool t13) ∧ (
                      ((t13 = true → (
                            R (.int .i64 n3) H12)) ∧ (t13 = false → (
                            (In64 (n3 + 1)) ∧
                            (I1 (n3 + 1) H12) ∧ μ2 (n3 + 1) H12 < μ2 n3 H4))))))))))) ∧ (¬ ((n3 : Int) < (x0l : Int)) → (
          R (.int .i64 (-1)) H4))))) := by kernel_rfl


/-- pentimento/pentimentohand.Pick -/
theorem vc_pick (x0 : Int) (x1 : Int) (H : Heap) (R : Value → Heap → Prop) : Walk Try.prog 23 [] [(.int .i64 x0), (.int .i64 x1)] H R = (
  ((x1 : Int) ≠ 0) ∧
  ∀ q1 : Int, q1 = Int.tmod x0 x1 → (
    ((((q1 : Int) < 0) → (
          (In64 (q1 + x1)) ∧
          R (.int .i64 (q1 + x1)) H)) ∧ (¬ ((q1 : Int) < 0) → (
          R (.int .i64 q1) H))))) := by kernel_rfl


end Go.Proofs
end

section
open Go Go.Vc
namespace Go.Proofs

theorem pick_ok (n m : Int) (H : Heap) (hm : 0 < m) (hm' : m ≤ 1000000000000) : Does Try.prog 23 [.int .i64 n, .int .i64 m] H fun v H' => v = .int .i64 (n % m) ∧ H = H' := by
  refine Fn_of_vc Try.mixed (vc_pick _ _ _ _) ?_
  refine ⟨by omega, ?_⟩
  rintro q rfl
  have h1 := Int.tmod_lt_of_pos n hm
  have h2 := Int.lt_tmod_of_pos n hm
  have h3 : n.tmod m = if 0 ≤ n ∨ m ∣ n then n % m else n % m - m := by
    rw [Int.tmod_eq_emod]
    split <;> simp <;> omega
  have h4 := Int.emod_nonneg n (show m ≠ 0 by omega)
  have h5 := Int.emod_lt_of_pos n hm
  refine ⟨fun h => ⟨⟨by omega, by omega⟩, ?_, rfl⟩, fun h => ⟨?_, rfl⟩⟩
  · rw [h3] at h ⊢
    split at h <;> (simp_all; try omega)
  · rw [h3] at h ⊢
    split at h <;> (simp_all; try omega)

theorem put_par {H H' : Heap} {b : Nat} {y : Ly} {n : Int} (hb : Blk H b y.cells) (hp : Puts H b (0 + 1) [.int .i64 n] H') : ∃ y : Ly, Blk H' b y.cells :=
  ⟨⟨y.id, n, y.sec, y.fr⟩, hp.blk hb (by simp [Ly.cells])⟩
theorem put_sec {H H' : Heap} {b : Nat} {y : Ly} {n : Int} (hb : Blk H b y.cells) (hp : Puts H b (0 + 2) [.int .i64 n] H') : ∃ y : Ly, Blk H' b y.cells :=
  ⟨⟨y.id, y.par, n, y.fr⟩, hp.blk hb (by simp [Ly.cells])⟩
theorem put_id {H H' : Heap} {b : Nat} {y : Ly} {n : Int} (hb : Blk H b y.cells) (hp : Puts H b 0 [.int .i64 n] H') : ∃ y : Ly, Blk H' b y.cells :=
  ⟨⟨n, y.par, y.sec, y.fr⟩, hp.blk hb (by simp [Ly.cells])⟩

theorem own_lrow {H : Heap} {a : Option Addr} {n c : Nat} {L : List Ly} (h : Own H 4 a n c (rowsOf L)) : LRow H a L ∧ L.length = n := by
  have h1 : L.length = n := by have := h.1; rw [rowsOf_length] at this; omega
  refine ⟨?_, h1⟩
  have := h.row L.length L.length
  rw [← h1] at this
  exact this

theorem rowsOf_append (L : List Ly) (x : Ly) : rowsOf (L ++ [x]) = rowsOf L ++ x.cells := by simp [rowsOf]

set_option maxHeartbeats 1000000 in
theorem list_ok {R : List Ly} {a : Option Addr} {c : Nat} (bend : Int) {H : Heap} (hR : R.length ≤ 9223372036854775807) (h : LRow H a R) :
    Does Try.prog 26 [.slice a R.length c, .int .i64 bend] H fun v H' => ∃ (L : List Ly) (a' : Option Addr) (c' : Nat), v = .slice a' L.length c' ∧ L.length ≤ 16 ∧ Own H' 4 a' L.length c' (rowsOf L) ∧ Ext [] H H' ∧ ∀ k ∈ blkOf a', H.size ≤ k := by
  refine Fn_of_vc Try.mixed (vc_list _ _ _ _ _ _) ?_
  refine ⟨fun n3 a4 l5 c6 n7 H' => ∃ i : Nat, n7 = i ∧ i ≤ 16 ∧ i ≤ R.length ∧ 0 ≤ n3 ∧ n3 ≤ 3 * i ∧ l5 = i ∧ ∃ L, Own H' 4 a4 l5 c6 (rowsOf L) ∧ (∀ k ∈ blkOf a4, H.size ≤ k) ∧ Ext [] H H', fun _ _ _ _ n7 _ => 16 - n7.toNat,
    ⟨0, rfl, by decide, by omega, by decide, by decide, rfl, [], Own.nil _ _, by simp [blkOf], Ext.refl _ _⟩, ?_⟩
  rintro n3 a4 l5 c6 _ H8 ⟨i, rfl, hi16, hiR, h30, h31, e5, L, ho, hfr, hx⟩
  obtain rfl : i = l5 := e5.symm
  have fin : ∃ (L : List Ly) (a' : Option Addr) (c' : Nat), Value.slice a4 i c6 = .slice a' L.length c' ∧ L.length ≤ 16 ∧ Own H8 4 a' L.length c' (rowsOf L) ∧ Ext [] H H8 ∧ ∀ k ∈ blkOf a', H.size ≤ k := by
    have := (own_lrow ho).2
    exact ⟨L, a4, c6, by rw [this], by omega, by rw [this]; exact ho, hx, hfr⟩
  refine ⟨fun hlt => ⟨fun hl16 => ?_, fun _ => fin⟩, fun _ => fin⟩
  have hRi : R[i]? = some R[i] := List.getElem?_eq_getElem (by omega)
  have raw : ∀ H', Ext [] H H' → ∃ b o, a = some ⟨b, o, none⟩ ∧ hcell H' b (o + Int.toNat (i : Int) * 4) = some (.int .i64 R[i].id) ∧ hcell H' b (o + Int.toNat (i : Int) * 4 + 1) = some (.int .i64 R[i].par) ∧ hcell H' b (o + Int.toNat (i : Int) * 4 + 2) = some (.int .i64 R[i].sec) ∧ hcell H' b (o + Int.toNat (i : Int) * 4 + 3) = some (.bool R[i].fr) := by
    intro H' he
    rw [Int.toNat_natCast]
    exact (h.ext he (by simp)).at hRi
  obtain ⟨b9, o10, ha9, r0, -, -, -⟩ := raw H8 hx
  refine ⟨⟨by omega, by omega⟩, by omega, hlt, b9, o10, ha9, _, r0, (pick_ok _ 3 H8 (by decide) (by decide)).mono ?_⟩
  rintro _ _ ⟨rfl, rfl⟩
  have p0 := Int.emod_nonneg R[i].id (show (3 : Int) ≠ 0 by decide)
  have p1 := Int.emod_lt_of_pos R[i].id (show (0 : Int) < 3 by decide)
  generalize R[i].id % 3 = pk at *
  refine ⟨_, rfl, ⟨by omega, by omega⟩, fun p H' => ∃ b, p = some ⟨b, 0, none⟩ ∧ H.size ≤ b ∧ b ∉ blkOf a4 ∧ (∃ y : Ly, Blk H' b y.cells) ∧ Own H' 4 a4 i c6 (rowsOf L) ∧ Ext [] H H', ?_, ?_⟩
  · obtain ⟨b16, o17, ha16, r0, -, -, r3⟩ := raw H8 hx
    have mk : ∀ (fr : Bool) (b : Nat) (H20 : Heap), New H8 b [.int .i64 0, .int .i64 0, .int .i64 0, .bool false] 46 H20 → Cells H20 b 0 4 ∧ ∀ H21, Puts H20 b 0 [.int .i64 (n3 + 1 + pk), .int .i64 0, .int .i64 0, .bool fr] H21 →
        ∃ b', some (⟨b, 0, none⟩ : Addr) = some ⟨b', 0, none⟩ ∧ H.size ≤ b' ∧ b' ∉ blkOf a4 ∧ (∃ y : Ly, Blk H21 b' y.cells) ∧ Own H21 4 a4 i c6 (rowsOf L) ∧ Ext [] H H21 := by
      intro fr b H20 hn
      have hbe := hn.eq
      have hs := hx.size
      have hnb : b ∉ blkOf a4 := fun hm => by have := ho.lt b hm; omega
      refine ⟨hn.blk.cells _ _ (by simp), fun H21 hp => ⟨b, rfl, by omega, hnb, ⟨⟨n3 + 1 + pk, 0, 0, fr⟩, hp.blk hn.blk (by simp)⟩, (ho.ext hn.ext (by simp)).ext hp.ext (fun k hk hm => by simp only [List.mem_singleton] at hm; subst hm; exact hnb hk), ?_⟩⟩
      exact ext_new (hx.trans hn.ext) hp.ext (fun j hj => by simp only [List.mem_singleton] at hj; omega)
    refine ⟨by omega, hlt, b16, o17, ha16, _, r3, fun _ b19 H20 hn => mk true b19 H20 hn, fun _ => ⟨by omega, hlt, b16, o17, ha16, _, r0, by decide, ?_⟩⟩
    rintro q25 rfl b26 H27 hn
    exact mk _ b26 H27 hn
  rintro _ H30 ⟨b, rfl, hb0, hba, hy, ho30, hx30⟩
  refine ⟨fun a33 l34 c35 n36 H' => ∃ j : Nat, n36 = j ∧ j ≤ i ∧ l34 ≤ j ∧ (∃ zs, Own H' 1 a33 l34 c35 (ints zs)) ∧ (∀ k ∈ blkOf a33, H.size ≤ k ∧ k ∉ blkOf a4 ∧ k ≠ b) ∧ (∃ y : Ly, Blk H' b y.cells) ∧ Own H' 4 a4 i c6 (rowsOf L) ∧ Ext [] H H', fun _ _ _ n36 _ => i - n36.toNat,
    ⟨0, rfl, by omega, by omega, ⟨[], Own.nil _ _⟩, by simp [blkOf], hy, ho30, hx30⟩, ?_⟩
  rintro a33 l34 c35 _ H37 ⟨j, rfl, hji, hlj, ⟨zs, hoz⟩, hfz, hy37, ho37, hx37⟩
  obtain ⟨hlr, hLl⟩ := own_lrow ho37
  refine ⟨fun hlt2 => ?_, fun hlt2 => ?_⟩
  · have hLj : L[j]? = some L[j] := List.getElem?_eq_getElem (by omega)
    obtain ⟨b38, o39, ha4, e0, -, -, e3⟩ := hlr.at hLj
    refine ⟨by omega, hlt2, b38, o39, ha4, _, by rw [Int.toNat_natCast]; exact e3, fun _ => ⟨by omega, hlt2, b38, o39, ha4, _, by rw [Int.toNat_natCast]; exact e0, fun b44 H45 hn => ?_⟩, fun _ => ⟨⟨by omega, by omega⟩, ⟨j + 1, by omega, by omega, by omega, ⟨zs, hoz⟩, hfz, hy37, ho37, hx37⟩, by simp only []; omega⟩⟩
    have hbe := hn.eq
    have hoz45 := hoz.ext hn.ext (by simp)
    refine ⟨ints zs, ints [L[j].id], hoz45.row _ _, ⟨rfl, .inr rfl, fun m u hm => ?_⟩, ints_one _, by omega, fun hle => by simpa using hoz45.room (n := 1) hle, ?_⟩
    · show hcell H45 b44 (0 + m) = some u
      rw [Nat.zero_add, hn.blk.cell]
      exact hm
    intro a48 c49 H50 happ
    obtain ⟨hoz50, hx50, hfr50⟩ := happ.own hoz45 (hoz45.row _ _) (by rw [ints_length]; rfl) rfl
    have lt4 := ho37.lt
    have hbl : b < H37.size := by obtain ⟨y, hy⟩ := hy37; exact hy.lt
    have hs45 := hn.size
    refine ⟨⟨by omega, by omega⟩, ⟨j + 1, by omega, by omega, by omega, ⟨zs ++ [L[j].id], ?_⟩, ?_, ?_, (ho37.ext hn.ext (by simp)).ext hx50 (fun k hk hm => (hfz k hm).2.1 hk), ext_new (hx37.trans hn.ext) hx50 (fun k hk => (hfz k hk).1)⟩, by simp only []; omega⟩
    · have : ints (zs ++ [L[j].id]) = ints zs ++ ints [L[j].id] := by simp [ints]
      rw [this]; exact hoz50
    · intro k hk
      rcases hfr50 k hk with h' | h'
      · exact hfz k h'
      · have := hx37.size
        refine ⟨by omega, fun hm => ?_, by omega⟩
        have := lt4 k hm; omega
    · obtain ⟨y, hy⟩ := hy37
      exact ⟨y, (hy.ext hn.ext (by simp)).ext hx50 (fun hm => (hfz b hm).2.2 rfl)⟩
  -- behind the loop: whatever is written goes into x
  have hzl : zs.length = l34 := (Own.irow hoz).2
  have Qput : ∀ {H' H'' : Heap} {o : Nat} {u : Value}, Own H' 4 a4 i c6 (rowsOf L) → Ext [] H H' → Puts H' b o [u] H'' → Own H'' 4 a4 i c6 (rowsOf L) ∧ Ext [] H H'' := by
    intro H' H'' o u h1 h2 hp
    exact ⟨h1.ext hp.ext (fun k hk hm => by simp only [List.mem_singleton] at hm; subst hm; exact hba hk), ext_new h2 hp.ext (fun k hk => by simp only [List.mem_singleton] at hk; omega)⟩
  refine ⟨fun H' => (∃ y : Ly, Blk H' b y.cells) ∧ Own H' 4 a4 i c6 (rowsOf L) ∧ Ext [] H H', ⟨fun hpos => ?_, fun _ => ⟨hy37, ho37, hx37⟩⟩, ?_⟩
  · obtain ⟨b42, o43, ha42, -, r1, r2, -⟩ := raw H37 hx37
    refine ⟨by omega, hlt, b42, o43, ha42, _, r1, by decide, ?_⟩
    rintro q45 rfl
    refine ⟨fun _ => ⟨by omega, hlt, b42, o43, ha42, _, r1, (pick_ok _ l34 H37 hpos (by omega)).mono ?_⟩, fun _ => ⟨hy37, ho37, hx37⟩⟩
    rintro _ _ ⟨rfl, rfl⟩
    have k0 := Int.emod_nonneg R[i].par (show (l34 : Int) ≠ 0 by omega)
    have k1 := Int.emod_lt_of_pos R[i].par hpos
    generalize R[i].par % (l34 : Int) = kk at *
    have hzk : zs[kk.toNat]? = some zs[kk.toNat] := List.getElem?_eq_getElem (by omega)
    obtain ⟨bz, oz, haz, hz⟩ := (Own.irow hoz).1.at hzk
    obtain ⟨y, hy⟩ := hy37
    refine ⟨_, rfl, k0, k1, bz, oz, haz, _, hz, hy.cells _ _ (by simp [Ly.cells]), fun H55 hp55 => ?_⟩
    obtain ⟨y2, hy2⟩ := put_par hy hp55
    obtain ⟨ho55, hx55⟩ := Qput ho37 hx37 hp55
    obtain ⟨b56, o57, ha56, -, -, r2, -⟩ := raw H55 hx55
    refine ⟨by omega, hlt, b56, o57, ha56, _, r2, by decide, ?_⟩
    rintro q59 rfl
    refine ⟨fun _ => ⟨by omega, hlt, b56, o57, ha56, _, r2, by decide, ?_⟩, fun _ => ⟨⟨y2, hy2⟩, ho55, hx55⟩⟩
    rintro q63 rfl
    generalize IntKind.wrap .i64 (Int.tdiv R[i].sec 3) = qq
    refine (pick_ok qq l34 H55 hpos (by omega)).mono ?_
    rintro _ _ ⟨rfl, rfl⟩
    have m0 := Int.emod_nonneg qq (show (l34 : Int) ≠ 0 by omega)
    have m1 := Int.emod_lt_of_pos qq hpos
    generalize qq % (l34 : Int) = mm at *
    have hzm : zs[mm.toNat]? = some zs[mm.toNat] := List.getElem?_eq_getElem (by omega)
    have hoz55 := hoz.ext hp55.ext (fun k hk hm => by simp only [List.mem_singleton] at hm; exact (hfz k hk).2.2 hm)
    obtain ⟨bz, oz, haz, hz⟩ := (Own.irow hoz55).1.at hzm
    refine ⟨_, rfl, m0, m1, bz, oz, haz, _, hz, hy2.cells _ _ (by simp [Ly.cells]), fun H70 hp70 => ?_⟩
    obtain ⟨y3, hy3⟩ := put_sec hy2 hp70
    obtain ⟨ho70, hx70⟩ := Qput ho55 hx55 hp70
    refine ⟨y3.sec, by rw [hy3.cell]; rfl, y3.par, by rw [hy3.cell]; rfl, fun _ => ⟨hy3.cells _ _ (by simp [Ly.cells]), fun H73 hp73 => ?_⟩, fun _ => ⟨⟨y3, hy3⟩, ho70, hx70⟩⟩
    obtain ⟨ho73, hx73⟩ := Qput ho70 hx70 hp73
    exact ⟨put_sec hy3 hp73, ho73, hx73⟩
  rintro H74 ⟨hy74, ho74, hx74⟩
  refine ⟨fun H' => (∃ y : Ly, Blk H' b y.cells) ∧ Own H' 4 a4 i c6 (rowsOf L) ∧ Ext [] H H', ⟨by decide, ?_⟩, ?_⟩
  · rintro q76 rfl
    refine ⟨fun _ => ⟨by decide, ?_⟩, fun _ => ⟨hy74, ho74, hx74⟩⟩
    rintro q77 rfl
    refine (pick_ok _ 8 H74 (by decide) (by decide)).mono ?_
    rintro _ _ ⟨rfl, rfl⟩
    obtain ⟨y, hy⟩ := hy74
    obtain ⟨b81, o82, ha81, -, -, r2, -⟩ := raw H74 hx74
    refine ⟨_, rfl, fun _ => ⟨by omega, hlt, b81, o82, ha81, _, r2, hy.cells _ _ (by simp [Ly.cells]), fun H84 hp84 => ?_⟩, fun _ => ⟨⟨y, hy⟩, ho74, hx74⟩⟩
    obtain ⟨ho84, hx84⟩ := Qput ho74 hx74 hp84
    exact ⟨put_sec hy hp84, ho84, hx84⟩
  rintro H85 ⟨hy85, ho85, hx85⟩
  refine ⟨fun H' => (∃ y : Ly, Blk H' b y.cells) ∧ Own H' 4 a4 i c6 (rowsOf L) ∧ Ext [] H H', ⟨by decide, ?_⟩, ?_⟩
  · rintro q87 rfl
    refine ⟨fun _ => ⟨by decide, ?_⟩, fun _ => ⟨hy85, ho85, hx85⟩⟩
    rintro q88 rfl
    refine (pick_ok _ 8 H85 (by decide) (by decide)).mono ?_
    rintro _ _ ⟨rfl, rfl⟩
    obtain ⟨y, hy⟩ := hy85
    refine ⟨_, rfl, fun _ => ⟨⟨by omega, by omega⟩, hy.cells _ _ (by simp [Ly.cells]), fun H92 hp92 => ?_⟩, fun _ => ⟨⟨y, hy⟩, ho85, hx85⟩⟩
    obtain ⟨ho92, hx92⟩ := Qput ho85 hx85 hp92
    exact ⟨put_par hy hp92, ho92, hx92⟩
  rintro H93 ⟨hy93, ho93, hx93⟩
  refine ⟨fun H' => (∃ y : Ly, Blk H' b y.cells) ∧ Own H' 4 a4 i c6 (rowsOf L) ∧ Ext [] H H', ⟨by decide, ?_⟩, ?_⟩
  · rintro q95 rfl
    refine ⟨fun _ => ⟨by decide, ?_⟩, fun _ => ⟨hy93, ho93, hx93⟩⟩
    rintro q96 rfl
    refine (pick_ok _ 8 H93 (by decide) (by decide)).mono ?_
    rintro _ _ ⟨rfl, rfl⟩
    obtain ⟨y, hy⟩ := hy93
    obtain ⟨b100, o101, ha100, r0, -, -, -⟩ := raw H93 hx93
    refine ⟨_, rfl, fun _ => ⟨by omega, hlt, b100, o101, ha100, _, r0, hy.cells _ _ (by simp [Ly.cells]), fun H103 hp103 => ?_⟩, fun _ => ⟨⟨y, hy⟩, ho93, hx93⟩⟩
    obtain ⟨ho103, hx103⟩ := Qput ho93 hx93 hp103
    exact ⟨put_id hy hp103, ho103, hx103⟩
  rintro H104 ⟨⟨y, hy⟩, ho104, hx104⟩
  refine ⟨y.id, by rw [hy.cell]; rfl, y.par, by rw [hy.cell]; rfl, y.sec, by rw [hy.cell]; rfl, y.fr, by rw [hy.cell]; rfl, fun b109 H110 hn => ?_⟩
  have ho110 := ho104.ext hn.ext (by simp)
  refine ⟨rowsOf L, y.cells, ho110.row _ _, ⟨rfl, .inr rfl, fun m u hm => ?_⟩, ?_, by omega, fun hle => by simpa using ho110.room (n := 1) hle, ?_⟩
  · show hcell H110 b109 (0 + m) = some u
    rw [Nat.zero_add, hn.blk.cell]
    exact hm
  · intro u hu
    simp only [Ly.cells, List.mem_cons, List.not_mem_nil, or_false] at hu
    rcases hu with rfl | rfl | rfl | rfl <;> rfl
  intro a113 c114 H115 happ
  obtain ⟨ho115, hx115, hfr115⟩ := happ.own ho110 (ho110.row _ _) rfl rfl
  refine ⟨⟨by omega, by omega⟩, ⟨i + 1, by omega, by omega, by omega, by omega, by omega, rfl, L ++ [y], ?_, ?_, ext_new (hx104.trans hn.ext) hx115 hfr⟩, by simp only []; omega⟩
  · rw [rowsOf_append]; exact ho115
  · intro k hk
    rcases hfr115 k hk with h' | h'
    · exact hfr k h'
    · have := hn.size; have := hx104.size; omega
end Go.Proofs
end

section
open Go Go.Vc
namespace Go.Proofs

/-! ### Right -/
def ascB (L : List Ly) (i : Nat) (x : Ly) : Bool :=
  match i with
  | 0 => true
  | k + 1 => match L[k]? with
    | some y => decide (y.id < x.id)
    | none => true
def okB (L : List Ly) (i : Nat) : Bool :=
  match L[i]? with
  | none => true
  | some x =>
    (decide (1 ≤ x.id) && decide (x.id ≤ 2147483647) && ascB L i x) &&
    (mayStand (L.take i) x.par && mayStand (L.take i) x.sec) &&
    (decide (x.sec = 0) || (decide (x.par ≠ 0) && decide (x.par ≠ x.sec))) &&
    decide ((chain (L.take (i + 1)) x.id).length ≤ 12)
def rightB (L : List Ly) : Bool := (List.range L.length).all (okB L) && decide (L.length ≤ 40)

theorem rightB_iff (L : List Ly) : rightB L = true ↔ (∀ i, i < L.length → okB L i = true) ∧ L.length ≤ 40 := by
  unfold rightB
  rw [Bool.and_eq_true, List.all_eq_true, decide_eq_true_eq]
  simp

theorem rowsOf_take (L : List Ly) (i : Nat) : rowsOf (L.take i) = (rowsOf L).take (i * 4) := by
  unfold rowsOf
  induction L generalizing i with
  | nil => simp
  | cons x r ih =>
    cases i with
    | zero => simp
    | succ i =>
      simp only [List.take_succ_cons, List.map_cons, List.flatten_cons, ih]
      have h4 : x.cells.length = 4 := rfl
      rw [List.take_append, h4, show (i + 1) * 4 - 4 = i * 4 by omega, List.take_of_length_le (l := x.cells) (by rw [h4]; omega)]

theorem LRow.take {H : Heap} {a : Option Addr} {L : List Ly} (h : LRow H a L) (i : Nat) : LRow H a (L.take i) := by
  obtain ⟨h1, h2⟩ := h
  refine ⟨by rw [rowsOf_length], ?_⟩
  cases a with
  | none =>
    simp only at h2 ⊢
    rw [rowsOf_take, h2]; simp
  | some ad =>
    obtain ⟨h3, h4⟩ := h2
    refine ⟨?_, fun j u hj => ?_⟩
    · rcases h3 with h3 | h3
      · left; rw [rowsOf_take, h3]; simp
      · exact .inr h3
    · rw [rowsOf_take] at hj
      refine h4 j u ?_
      have hlt := (List.getElem?_eq_some_iff.1 hj).1
      rw [List.getElem?_take_of_lt (by simp at hlt; omega)] at hj
      exact hj

def badP (L : List Ly) (H H' : Heap) : Prop := Value.bool false = .bool (rightB L) ∧ Ext [] H H'
def goP (L : List Ly) (j : Nat) (H H' : Heap) : Prop :=
  (∃ j' : Nat, (j : Int) + 1 = j' ∧ j' ≤ L.length ∧ (∀ k, k < j' → okB L k = true) ∧ Ext [] H H') ∧ L.length - ((j : Int) + 1).toNat < L.length - (j : Int).toNat
def lastP (L : List Ly) (a : Option Addr) (c j b11 : Nat) (H H26 : Heap) : Prop :=
  In64 ((j : Int) + 1) ∧ (0 : Int) ≤ (j : Int) + 1 ∧ ((j : Int) + 1) ≤ (c : Int) ∧ ∃ n32 : Int, hcell H26 b11 0 = some (.int .i64 n32) ∧
    Does Try.prog 33 [(.slice a (Int.toNat ((j : Int) + 1)) c), (.int .i64 n32)] H26 fun v33 H34 => ∃ a35 : Option Addr, ∃ l36 : Nat, ∃ c37 : Nat, v33 = (.slice a35 l36 c37) ∧
      (((12 : Int) < (l36 : Int) → badP L H H34) ∧ (¬ ((12 : Int) < (l36 : Int)) → In64 ((j : Int) + 1) ∧ goP L j H H34))
def secP (L : List Ly) (a : Option Addr) (c j b11 : Nat) (H H26 : Heap) : Prop :=
  ∃ n28 : Int, hcell H26 b11 (0 + 2) = some (.int .i64 n28) ∧
    (((n28 : Int) ≠ 0 → ∃ n29 : Int, hcell H26 b11 (0 + 1) = some (.int .i64 n29) ∧
      (((n29 : Int) = 0 → badP L H H26) ∧ (¬ ((n29 : Int) = 0) →
        ∃ n30 : Int, hcell H26 b11 (0 + 1) = some (.int .i64 n30) ∧ ∃ n31 : Int, hcell H26 b11 (0 + 2) = some (.int .i64 n31) ∧
          (((n30 : Int) = n31 → badP L H H26) ∧ (¬ ((n30 : Int) = n31) → lastP L a c j b11 H H26))))) ∧
    (¬ ((n28 : Int) ≠ 0) → lastP L a c j b11 H H26))
def midP (L : List Ly) (a : Option Addr) (c j b11 : Nat) (H H13 : Heap) : Prop :=
  ∃ n20 : Int, hcell H13 b11 (0 + 1) = some (.int .i64 n20) ∧
    Does Try.prog 61 [(.slice a (Int.toNat (j : Int)) c), (.int .i64 n20)] H13 fun v21 H22 => ∃ t23 : Bool, v21 = (.bool t23) ∧
      ((t23 = false → badP L H H22) ∧ (¬ (t23 = false) →
        ∃ n24 : Int, hcell H22 b11 (0 + 2) = some (.int .i64 n24) ∧
          Does Try.prog 61 [(.slice a (Int.toNat (j : Int)) c), (.int .i64 n24)] H22 fun v25 H26 => ∃ t27 : Bool, v25 = (.bool t27) ∧
            ((t27 = false → badP L H H26) ∧ (¬ (t27 = false) → secP L a c j b11 H H26))))

set_option maxHeartbeats 1000000 in
theorem right_ok {L : List Ly} {a : Option Addr} {c : Nat} {H : Heap} (hl : L.length ≤ 100000) (hc : L.length ≤ c) (h : LRow H a L) :
    Does Try.prog 28 [.slice a L.length c] H fun v H' => v = .bool (rightB L) ∧ Ext [] H H' := by
  refine Fn_of_vc Try.mixed (vc_right _ _ _ _ _) ?_
  refine ⟨fun i H' => ∃ j : Nat, i = j ∧ j ≤ L.length ∧ (∀ k, k < j → okB L k = true) ∧ Ext [] H H', fun i _ => L.length - i.toNat, ⟨0, rfl, by omega, by omega, Ext.refl _ _⟩, ?_⟩
  rintro _ H4 ⟨j, rfl, hj, hall, hx⟩
  refine ⟨fun hlt => ?_, fun hlt => ⟨?_, hx⟩⟩
  · have hjl : j < L.length := by omega
    have hLj : L[j]? = some L[j] := List.getElem?_eq_getElem hjl
    obtain ⟨b5, o6, ha, c0, c1, c2, c3⟩ := (h.ext hx (by simp)).at hLj
    have row : ∀ H', Ext [] H H' → ∃ b o, a = some ⟨b, o, none⟩ ∧ ∀ k (hk : k < L.length), hcell H' b (o + k * 4) = some (.int .i64 L[k].id) := by
      intro H' he
      obtain ⟨b, o, ha', _⟩ := (h.ext he (by simp)).at hLj
      refine ⟨b, o, ha', fun k hk => ?_⟩
      obtain ⟨b', o', ha'', e0, _⟩ := (h.ext he (by simp)).at (List.getElem?_eq_getElem hk)
      rw [ha'] at ha''
      simp only [Option.some.injEq, Addr.mk.injEq] at ha''
      obtain ⟨rfl, rfl, _⟩ := ha''
      exact e0
    generalize hxe : L[j] = x at *
    refine ⟨by omega, hlt, b5, o6, ha, _, by rw [Int.toNat_natCast]; exact c0, _, by rw [Int.toNat_natCast]; exact c1, _, by rw [Int.toNat_natCast]; exact c2, _, by rw [Int.toNat_natCast]; exact c3, fun b11 H12 hn => ⟨hn.blk.cells _ _ (by simp), fun H13 hp => ⟨by omega, by omega, ?_⟩⟩⟩
    have hb : Blk H13 b11 x.cells := hp.blk hn.blk (by simp)
    have hbe := hn.eq
    have hxs := hx.size
    have hx13 : Ext [] H H13 := ext_new (hx.trans hn.ext) hp.ext (fun k hk => by simp only [List.mem_singleton] at hk; omega)
    have bad : ∀ {H' : Heap}, Ext [] H H' → okB L j ≠ true → badP L H H' := by
      intro H' he hn
      refine ⟨?_, he⟩
      have : rightB L = false := by
        cases hr : rightB L with
        | false => rfl
        | true => exact absurd (((rightB_iff L).1 hr).1 j hjl) hn
      rw [this]
    have go : ∀ {H' : Heap}, Ext [] H H' → okB L j = true → goP L j H H' := by
      intro H' he hok
      refine ⟨⟨j + 1, by omega, by omega, fun k hk => ?_, he⟩, by omega⟩
      rcases Nat.lt_or_ge k j with h' | h'
      · exact hall k h'
      · have : k = j := by omega
        subst this; exact hok
    have ht1 : (L.take j).length = j := by simp; omega
    have ht2 : (L.take (j + 1)).length = j + 1 := by simp; omega
    have okx : okB L j = ((decide (1 ≤ x.id) && decide (x.id ≤ 2147483647) && ascB L j x) &&
      (mayStand (L.take j) x.par && mayStand (L.take j) x.sec) && (decide (x.sec = 0) || (decide (x.par ≠ 0) && decide (x.par ≠ x.sec))) && decide ((chain (L.take (j + 1)) x.id).length ≤ 12)) := by
      unfold okB; rw [hLj]
    have last : ∀ (H26 : Heap), Ext [] H H26 → Blk H26 b11 x.cells → ascB L j x = true → 1 ≤ x.id → x.id ≤ 2147483647 → mayStand (L.take j) x.par = true → mayStand (L.take j) x.sec = true → (x.sec = 0 ∨ (x.par ≠ 0 ∧ x.par ≠ x.sec)) → lastP L a c j b11 H H26 := by
      intro H26 he hbx h1 h2 h3 h4 h5 h6
      have h6' : (decide (x.sec = 0) || (decide (x.par ≠ 0) && decide (x.par ≠ x.sec))) = true := by
        rcases h6 with h6 | ⟨h6, h7⟩
        · simp [h6]
        · simp [h6, h7]
      unfold lastP
      refine ⟨⟨by omega, by omega⟩, by omega, by omega, x.id, by rw [hbx.cell]; rfl, ?_⟩
      have hr := (h.ext he (by simp)).take (j + 1)
      have hch := chain_ok (c := c) x.id (L := L.take (j + 1)) (by rw [ht2]; omega) hr
      rw [ht2] at hch
      rw [show Int.toNat ((j : Int) + 1) = j + 1 by omega]
      refine hch.mono ?_
      rintro _ H34 ⟨a', c', rfl, _, hx34, _⟩
      have he34 := he.trans hx34
      refine ⟨_, _, _, rfl, fun h12 => bad he34 ?_, fun h12 => ⟨⟨by omega, by omega⟩, go he34 ?_⟩⟩
      · rw [okx]
        have : decide ((chain (L.take (j + 1)) x.id).length ≤ 12) = false := by simp; omega
        rw [this]; simp
      · rw [okx, h1, h4, h5, h6']
        have : decide ((chain (L.take (j + 1)) x.id).length ≤ 12) = true := by simp; omega
        rw [this]
        simp [h2, h3]
    have mid : ∀ (H13 : Heap), Ext [] H H13 → Blk H13 b11 x.cells → ascB L j x = true → 1 ≤ x.id → x.id ≤ 2147483647 → midP L a c j b11 H H13 := by
      intro H13 he hbx h1 h2 h3
      have hm1 := fun (id : Int) (H' : Heap) (he' : Ext [] H H') => maystand_ok (c := c) id (L := L.take j) (by rw [ht1]; omega) ((h.ext he' (by simp)).take j)
      rw [ht1] at hm1
      unfold midP
      rw [Int.toNat_natCast]
      refine ⟨x.par, by rw [hbx.cell]; rfl, (hm1 x.par H13 he).mono ?_⟩
      rintro _ H22 ⟨rfl, hx22⟩
      have he22 := he.trans hx22
      have hb22 := hbx.ext hx22 (by simp)
      refine ⟨_, rfl, fun e => bad he22 (by rw [okx, e]; simp), fun e => ⟨x.sec, by rw [hb22.cell]; rfl, (hm1 x.sec H22 he22).mono ?_⟩⟩
      rintro _ H26 ⟨rfl, hx26⟩
      have he26 := he22.trans hx26
      have hb26 := hb22.ext hx26 (by simp)
      have p1 : mayStand (L.take j) x.par = true := by simpa using e
      refine ⟨_, rfl, fun e2 => bad he26 (by rw [okx, e2]; simp), fun e2 => ?_⟩
      have p2 : mayStand (L.take j) x.sec = true := by simpa using e2
      unfold secP
      refine ⟨x.sec, by rw [hb26.cell]; rfl, fun hs => ⟨x.par, by rw [hb26.cell]; rfl, fun hp0 => bad he26 (by rw [okx]; simp [hs, hp0]), fun hp0 => ⟨x.par, by rw [hb26.cell]; rfl, x.sec, by rw [hb26.cell]; rfl, fun hps => bad he26 (by rw [okx]; simp [hs, hps]), fun hps => ?_⟩⟩, fun hs => ?_⟩
      · exact last H26 he26 hb26 h1 h2 h3 p1 p2 (.inr ⟨hp0, hps⟩)
      · exact last H26 he26 hb26 h1 h2 h3 p1 p2 (.inl (Classical.not_not.1 hs))
    have hb1 : ¬ 1 ≤ x.id → okB L j ≠ true := by intro h; rw [okx]; simp [h]
    have hb2 : ¬ x.id ≤ 2147483647 → okB L j ≠ true := by intro h; rw [okx]; simp [h]
    refine ⟨x.id, by rw [hb.cell]; rfl, fun h1 => bad hx13 (hb1 (by omega)), fun h1 => ⟨x.id, by rw [hb.cell]; rfl, fun h2 => bad hx13 (hb2 (by omega)), fun h2 => ⟨fun hj0 => ?_, fun hj0 => ?_⟩⟩⟩
    · obtain ⟨m, rfl⟩ : ∃ m, j = m + 1 := ⟨j - 1, by omega⟩
      obtain ⟨b17, o18, ha17, hrow⟩ := row H13 hx13
      have hm : L[m]? = some L[m] := List.getElem?_eq_getElem (by omega)
      have hcm := hrow m (by omega)
      refine ⟨x.id, by rw [hb.cell]; rfl, ⟨by omega, by omega⟩, by omega, by omega, b17, o18, ha17, L[m].id, by rw [show Int.toNat (((m + 1 : Nat) : Int) - 1) = m by omega]; exact hcm, fun hle => bad hx13 ?_, fun hle => ?_⟩
      · rw [okx]
        simp only [ascB, hm]
        have : ¬ L[m].id < x.id := by omega
        simp [this]
      · exact mid H13 hx13 hb (by simp only [ascB, hm]; simp; omega) (by omega) (by omega)
    · have : j = 0 := by omega
      subst this
      exact mid H13 hx13 hb rfl (by omega) (by omega)
  · have hjl : j = L.length := by omega
    subst hjl
    refine congrArg _ ?_
    rw [Bool.eq_iff_iff, rightB_iff]
    simp only [decide_eq_true_eq]
    exact ⟨fun h40 => ⟨hall, by omega⟩, fun h40 => by omega⟩
end Go.Proofs
end

section
open Go Go.Vc
namespace Go.Proofs

/-! ### Sorted lists -/
theorem sorted_mem {l : List Int} {k : Int} : k ∈ sorted l ↔ k ∈ l := (List.mergeSort_perm l _).mem_iff
theorem sorted_len (l : List Int) : (sorted l).length = l.length := by simp [sorted]

theorem sorted_asc {l : List Int} (hn : l.Nodup) : (sorted l).Pairwise (· < ·) := by
  have h1 : (sorted l).Pairwise (fun x y => decide (x ≤ y) = true) := List.pairwise_mergeSort (fun a b c h1 h2 => by simp at *; omega) (fun a b => by simp; omega) l
  have h2 : (sorted l).Nodup := (List.mergeSort_perm l _).nodup_iff.2 hn
  have h3 : (sorted l).Pairwise (fun x y => decide (x ≤ y) = true ∧ x ≠ y) := List.Pairwise.and h1 h2
  refine h3.imp ?_
  rintro a b ⟨h, h'⟩
  simp at h; omega

theorem asc_ext : ∀ {p q : List Int}, p.Pairwise (· < ·) → q.Pairwise (· < ·) → (∀ k, k ∈ p ↔ k ∈ q) → p = q
  | [], [], _, _, _ => rfl
  | [], y :: q, _, _, h => absurd ((h y).2 (by simp)) (by simp)
  | x :: p, [], _, _, h => absurd ((h x).1 (by simp)) (by simp)
  | x :: p, y :: q, hp, hq, h => by
    obtain ⟨hp1, hp2⟩ := List.pairwise_cons.1 hp
    obtain ⟨hq1, hq2⟩ := List.pairwise_cons.1 hq
    have hxy : x = y := by
      have h1 := (h x).1 (by simp)
      have h2 := (h y).2 (by simp)
      rcases List.mem_cons.1 h1 with e | e
      · exact e
      · rcases List.mem_cons.1 h2 with e' | e'
        · exact e'.symm
        · have := hq1 x e; have := hp1 y e'; omega
    subst hxy
    rw [asc_ext hp2 hq2 ?_]
    intro k
    constructor
    · intro hk
      rcases List.mem_cons.1 ((h k).1 (by simp [hk])) with e | e
      · have := hp1 k hk; omega
      · exact e
    · intro hk
      rcases List.mem_cons.1 ((h k).2 (by simp [hk])) with e | e
      · have := hq1 k hk; omega
      · exact e

theorem bfs_nodup (L : List Ly) : ∀ (k : Nat) (todo out : List Int), out.Nodup → (bfs L k todo out).Nodup
  | 0, _, _, h => h
  | _ + 1, [], _, h => h
  | k + 1, t :: r, out, h => by
    simp only [bfs]
    split
    · exact bfs_nodup L k r out h
    · split
      · exact bfs_nodup L k r out h
      · rename_i x _ hn
        refine bfs_nodup L k _ _ ?_
        rw [List.nodup_append]
        exact ⟨h, by simp, fun p hp q hq => by simp only [List.mem_singleton] at hq; subst hq; exact fun e => hn (e ▸ hp)⟩

theorem anc_asc (L : List Ly) (id : Int) : (anc L id).Pairwise (· < ·) := sorted_asc (bfs_nodup L _ _ _ (by simp))
theorem anc_mem {L : List Ly} {id k : Int} : k ∈ anc L id ↔ k ∈ ancU L id := sorted_mem

/-! ### Base -/
def baseOf (p q : List Int) : Int := (p.filter fun k => decide (k ∈ q)).getLastD 0

theorem base_ok {L : List Ly} {a : Option Addr} {c : Nat} (x y : Int) {H : Heap} (hl : L.length ≤ 100000) (h : LRow H a L) :
    Does Try.prog 29 [.slice a L.length c, .int .i64 x, .int .i64 y] H fun v H' => v = .int .i64 (baseOf (anc L x) (anc L y)) ∧ Ext [] H H' := by
  refine Fn_of_vc Try.mixed (vc_base _ _ _ _ _ _ _) ?_
  refine (ancestors_ok y hl h).mono ?_
  rintro _ H2 ⟨a3, c5, rfl, ho2, hq, hx2, hf2⟩
  refine ⟨_, _, _, rfl, (ancestors_ok x hl (h.ext hx2 (by simp))).mono ?_⟩
  rintro _ H7 ⟨a8, c10, rfl, ho7, hp, hx7, hf7⟩
  generalize anc L x = p at *
  generalize anc L y = q at *
  have hX := hx2.trans hx7
  have hpr := (Own.irow ho7).1
  have hqr := (Own.irow (ho2.ext hx7 (by simp))).1
  refine ⟨_, _, _, rfl, fun b i H' => H' = H7 ∧ ∃ j : Nat, i = j ∧ j ≤ p.length ∧ b = ((p.take j).filter fun k => decide (k ∈ q)).getLastD 0, fun _ i _ => p.length - i.toNat, ⟨rfl, 0, rfl, by omega, rfl⟩, ?_⟩
  rintro _ _ H15 ⟨e, j, rfl, hj, rfl⟩
  obtain rfl : H7 = H15 := e.symm
  refine ⟨fun hlt => ?_, fun hlt => ⟨?_, hX⟩⟩
  · have hpj : p[j]? = some p[j] := List.getElem?_eq_getElem (by omega)
    obtain ⟨b, o, ha, hc⟩ := hpr.at hpj
    refine ⟨by omega, hlt, b, o, ha, _, by rw [Int.toNat_natCast]; exact hc, (contains_ok p[j] (by omega) hqr).mono ?_⟩
    rintro _ H20 ⟨rfl, rfl⟩
    have hs : p.take (j + 1) = p.take j ++ [p[j]] := by rw [List.take_add_one, hpj]; rfl
    refine ⟨_, rfl, fun hm => ⟨⟨by omega, by omega⟩, ⟨rfl, j + 1, by omega, by omega, ?_⟩, by simp only []; omega⟩, fun hm => ⟨⟨by omega, by omega⟩, ⟨rfl, j + 1, by omega, by omega, ?_⟩, by simp only []; omega⟩⟩
    · rw [hs, List.filter_append]
      have : ([p[j]].filter fun k => decide (k ∈ q)) = [p[j]] := by simp only [List.filter_cons, hm]; rfl
      rw [this]; simp
    · rw [hs, List.filter_append]
      have : ([p[j]].filter fun k => decide (k ∈ q)) = [] := by simp only [List.filter_cons, hm]; rfl
      rw [this]; simp
  · have : j = p.length := by omega
    subst this
    rw [List.take_length]
    rfl

/-! ### The example -/
def L4 : List Ly := [⟨1, 0, 0, true⟩, ⟨2, 1, 0, true⟩, ⟨3, 2, 0, true⟩, ⟨4, 2, 0, false⟩]

theorem four_ok (H : Heap) : Does Try.prog 35 [] H fun v H' => ∃ b, v = .slice (some ⟨b, 0, none⟩) 4 4 ∧ Own H' 4 (some ⟨b, 0, none⟩) 4 4 (rowsOf L4) ∧ Ext [] H H' ∧ H.size ≤ b := by
  refine Fn_of_vc Try.mixed (vc_four _ _) ?_
  intro b H2 hn
  refine ⟨b, rfl, ?_, hn.ext, by have := hn.eq; omega⟩
  exact Own.of_new (size := 4) (len := 4) (cap := 4) hn.blk rfl (by decide) (by decide)

theorem right4 : rightB L4 = true := by decide
theorem anc43 : anc L4 3 = [1, 2, 3] := asc_ext (anc_asc _ _) (by simp) (fun k => by
  rw [anc_mem, show ancU L4 3 = [3, 2, 1] by decide]; simp; omega)
theorem anc44 : anc L4 4 = [1, 2, 4] := asc_ext (anc_asc _ _) (by simp) (fun k => by
  rw [anc_mem, show ancU L4 4 = [4, 2, 1] by decide]; simp; omega)

theorem known13_ok (H : Heap) : Does Try.prog 27 [] H fun v H' => v = .bool true ∧ Ext [] H H' := by
  refine Fn_of_vc Try.mixed (vc_known13 _ _) ?_
  refine (four_ok H).mono ?_
  rintro _ H2 ⟨b, rfl, ho, hx2, hb⟩
  refine ⟨_, _, _, rfl, (base_ok (L := L4) 3 4 (by decide) (own_lrow ho).1).mono ?_⟩
  rintro _ H7 ⟨rfl, hx7⟩
  refine ⟨_, rfl, fun _ => (four_ok H7).mono ?_, fun e => absurd (by rw [anc43, anc44]; decide) e⟩
  rintro _ H10 ⟨b2, rfl, ho10, hx10, hb2⟩
  refine ⟨_, _, _, rfl, (right_ok (L := L4) (by decide) (by decide) (own_lrow ho10).1).mono ?_⟩
  rintro _ H15 ⟨rfl, hx15⟩
  exact ⟨_, rfl, by rw [right4], ((hx2.trans hx7).trans hx10).trans hx15⟩
end Go.Proofs
end

section
open Go Go.Vc
namespace Go.Proofs

theorem rowsOf_one (L : List Ly) : ∀ u ∈ rowsOf L, Value.oneCell' u = true := by
  intro u hu
  unfold rowsOf at hu
  obtain ⟨r, hr, hu⟩ := List.mem_flatten.1 hu
  obtain ⟨x, _, rfl⟩ := List.mem_map.1 hr
  simp only [Ly.cells, List.mem_cons, List.not_mem_nil, or_false] at hu
  rcases hu with rfl | rfl | rfl | rfl <;> rfl

/-- The box of a slice of ints. -/
def Box (H : Heap) (b : Nat) (kept : List Int) : Prop := ∃ a c, hcell H b 0 = some (.slice a kept.length c) ∧ IRow H a kept
theorem Box.ext {M : List Nat} {H H' : Heap} {b : Nat} {kept : List Int} (h : Box H b kept) (he : Ext M H H') (hm : ∀ k, k < H.size → k ∈ M → False) : Box H' b kept := by
  have he' : Ext [] H H' := he.mono (fun k hk hk' => absurd hk' (fun h => hm k hk h))
  obtain ⟨a, c, h1, h2⟩ := h
  exact ⟨a, c, hcell_ext h1 he' (by simp), h2.ext he' (by simp)⟩

theorem keepcl_ok (x : Ly) {b : Nat} {kept : List Int} {H : Heap} (hk : kept.length ≤ 1000000) (hb : Box H b kept) : Does Try.prog 66 [x.v, .pointer (some ⟨b, 0, none⟩)] H fun v H' => v = .bool (decide (x.id ∉ kept)) ∧ Ext [] H H' := by
  refine Fn_of_vc Try.mixed (vc_keepcl _ _ _ _ _ _ _) ?_
  intro b1 H2 hn
  obtain ⟨a, c, h1, h2⟩ := hb
  refine ⟨a, _, c, hcell_ext h1 hn.ext (by simp), x.id, by rw [hn.blk.cell]; rfl, (contains_ok x.id hk (h2.ext hn.ext (by simp))).mono ?_⟩
  rintro _ H10 ⟨rfl, rfl⟩
  exact ⟨_, rfl, congrArg _ (by rw [Bool.eq_iff_iff]; simp), hn.ext⟩

theorem indexfunc66_ok {L : List Ly} {a : Option Addr} {c : Nat} {b : Nat} {kept : List Int} {H : Heap} (hk : kept.length ≤ 1000000) (hl : L.length ≤ 1000000) (h : LRow H a L) (hb : Box H b kept) :
    Does Try.prog 68 [.slice a L.length c, .func (.func 66) #[] #[.pointer (some ⟨b, 0, none⟩)]] H fun v H' =>
      ((∃ (i : Nat), i < L.length ∧ (∀ j y, j < i → L[j]? = some y → y.id ∈ kept) ∧ (∀ y, L[i]? = some y → y.id ∉ kept) ∧ v = .int .i64 i) ∨ ((∀ y ∈ L, y.id ∈ kept) ∧ v = .int .i64 (-1))) ∧ Ext [] H H' := by
  refine Fn_of_vc Try.mixed (vc_indexfunc66 _ _ _ _ _ _) ?_
  refine ⟨fun i H' => Ext [] H H' ∧ ∃ j : Nat, i = j ∧ j ≤ L.length ∧ ∀ k y, k < j → L[k]? = some y → y.id ∈ kept, fun i _ => L.length - i.toNat, ⟨Ext.refl _ _, 0, rfl, by omega, by omega⟩, ?_⟩
  rintro _ H4 ⟨hx, j, rfl, hj, hall⟩
  refine ⟨fun hlt => ⟨by omega, hlt, ?_⟩, fun hlt => ⟨.inr ⟨?_, rfl⟩, hx⟩⟩
  · have hi : L[j]? = some L[j] := List.getElem?_eq_getElem (by omega)
    obtain ⟨b', o, rfl, c0, c1, c2, c3⟩ := (h.ext hx (by simp)).at hi
    refine ⟨b', o, rfl, _, by rw [Int.toNat_natCast]; exact c0, _, by rw [Int.toNat_natCast]; exact c1, _, by rw [Int.toNat_natCast]; exact c2, _, by rw [Int.toNat_natCast]; exact c3, (keepcl_ok L[j] hk (hb.ext hx (by simp))).mono ?_⟩
    rintro _ H12 ⟨rfl, hx12⟩
    refine ⟨_, rfl, fun e => ⟨.inl ⟨j, by omega, hall, fun y hy => ?_, rfl⟩, hx.trans hx12⟩, fun e => ⟨⟨by omega, by omega⟩, ⟨hx.trans hx12, j + 1, by omega, by omega, ?_⟩, by simp only []; omega⟩⟩
    · rw [hi] at hy
      simp only [Option.some.injEq] at hy
      subst hy
      simpa using e
    · intro k y hk hy
      rcases Nat.lt_or_ge k j with h' | h'
      · exact hall k y h' hy
      · have : k = j := by omega
        subst this
        rw [hi] at hy
        simp only [Option.some.injEq] at hy
        subst hy
        simpa using e
  · intro y hy
    obtain ⟨k, hk, rfl⟩ := List.mem_iff_getElem.1 hy
    exact hall k _ (by omega) (List.getElem?_eq_getElem hk)

theorem put_row {H H' : Heap} {b n c i : Nat} {X : List Ly} {x : Ly} (h : Own H 4 (some ⟨b, 0, none⟩) n c (rowsOf X)) (hi : i < n) (hp : Puts H b (0 + i * 4) x.cells H') : Own H' 4 (some ⟨b, 0, none⟩) n c (rowsOf (X.set i x)) := by
  have hX := (own_lrow h).2
  obtain ⟨h1, h2, h3, h4⟩ := h
  rcases h4 with ⟨e, _⟩ | ⟨b', tail, e, hb, hl⟩
  · cases e
  · simp only [Option.some.injEq, Addr.mk.injEq] at e
    obtain ⟨rfl, _⟩ := e
    have hlen : (rowsOf X).length = n * 4 := h1
    have hb2 := hp.blk hb (by rw [List.length_append, hlen]; show 0 + i * 4 + 4 ≤ _; omega)
    rw [Nat.zero_add, splice_append_left (by rw [hlen]; show i * 4 + 4 ≤ _; omega)] at hb2
    have hfs := flatten_set (rows := X.map Ly.cells) (i := i) (r := x.cells) (cells_len X) rfl (by simp; omega)
    have e2 : splice (rowsOf X) (i * 4) x.cells = rowsOf (X.set i x) := by
      unfold rowsOf
      rw [hfs, List.map_set]
    rw [e2] at hb2
    have e3 : (rowsOf (X.set i x)).length = n * 4 := by rw [rowsOf_length, List.length_set, hX]
    exact ⟨e3, h2, h3, .inr ⟨b, tail, rfl, hb2, by rw [List.length_append, e3, ← hl, List.length_append, hlen]⟩⟩

theorem cut_row {H : Heap} {b n c m : Nat} {X : List Ly} {vs : List Value} (h : Own H 4 (some ⟨b, 0, none⟩) n c (rowsOf X)) (hm : m ≤ n) (hv : vs.length = (n - m) * 4) : Own (hsets H b (m * 4) vs) 4 (some ⟨b, 0, none⟩) m c (rowsOf (X.take m)) := by
  have hX := (own_lrow h).2
  obtain ⟨h1, h2, h3, h4⟩ := h
  rcases h4 with ⟨e, _⟩ | ⟨b', tail, e, hb, hl⟩
  · cases e
  · simp only [Option.some.injEq, Addr.mk.injEq] at e
    obtain ⟨rfl, _⟩ := e
    have hlen : (rowsOf X).length = n * 4 := h1
    have hb2 := hsets_blk vs (m * 4) H _ hb (by rw [List.length_append, hlen, hv]; omega)
    rw [splice_append_left (by rw [hlen, hv]; omega)] at hb2
    unfold splice at hb2
    rw [← rowsOf_take, List.append_assoc, List.append_assoc] at hb2
    have e3 : (rowsOf (X.take m)).length = m * 4 := by rw [rowsOf_length, List.length_take, hX, Nat.min_eq_left hm]
    refine ⟨e3, by omega, h3, .inr ⟨b, _, rfl, hb2, ?_⟩⟩
    rw [List.length_append] at hl
    simp only [List.length_append, List.length_drop, e3, hv, hlen]
    omega

def keepL (L : List Ly) (kept : List Int) : List Ly := L.filter fun x => decide (x.id ∈ kept)

theorem take_set_succ {X : List Ly} {i : Nat} {x : Ly} (h : i < X.length) : (X.set i x).take (i + 1) = X.take i ++ [x] := by
  rw [List.take_add_one, List.take_set_of_le (Nat.le_refl _), List.getElem?_set_self h]; rfl
theorem drop_set {X : List Ly} {i j : Nat} {x : Ly} (h : i < j) : (X.set i x).drop j = X.drop j := by
  rw [List.drop_set_of_lt h]

set_option maxHeartbeats 1000000 in
theorem deletefunc_ok {L : List Ly} {a : Option Addr} {c : Nat} {b : Nat} {kept : List Int} {H : Heap} (hk : kept.length ≤ 1000000) (hl : L.length ≤ 1000000) (h : Own H 4 a L.length c (rowsOf L)) (hb : Box H b kept) (hfar : ∀ H', Ext (blkOf a) H H' → Box H' b kept) :
    Does Try.prog 64 [.slice a L.length c, .func (.func 66) #[] #[.pointer (some ⟨b, 0, none⟩)]] H fun v H' => v = .slice a (keepL L kept).length c ∧ Own H' 4 a (keepL L kept).length c (rowsOf (keepL L kept)) ∧ Ext (blkOf a) H H' := by
  refine Fn_of_vc Try.mixed (vc_deletefunc _ _ _ _ _ _) ?_
  refine (indexfunc66_ok hk hl (own_lrow h).1 hb).mono ?_
  rintro _ H2 ⟨hv, hx2⟩
  rcases hv with ⟨i0, hi0, hpre, hat, rfl⟩ | ⟨hall, rfl⟩
  · refine ⟨_, rfl, fun e => absurd e (by omega), fun _ => ⟨⟨by omega, by omega⟩, ?_⟩⟩
    obtain ⟨ba, rfl⟩ : ∃ ba, a = some ⟨ba, 0, none⟩ := by
      obtain ⟨_, h2, _, ⟨rfl, rfl⟩ | ⟨ba, tail, rfl, _⟩⟩ := h
      · omega
      · exact ⟨ba, rfl⟩
    have hx2' : Ext (blkOf (some ⟨ba, 0, none⟩)) H H2 := hx2.any
    refine ⟨fun i j H' => ∃ (m k : Nat) (X : List Ly), i = m ∧ j = k ∧ m < k ∧ k ≤ L.length ∧ Own H' 4 (some ⟨ba, 0, none⟩) L.length c (rowsOf X) ∧ X.take m = keepL (L.take k) kept ∧ X.drop k = L.drop k ∧ Ext (blkOf (some ⟨ba, 0, none⟩)) H H', fun _ j _ => L.length - j.toNat, ?_, ?_⟩
    · refine ⟨i0, i0 + 1, L, rfl, by omega, by omega, by omega, h.ext hx2 (by simp), ?_, rfl, hx2'⟩
      have hLi : L[i0]? = some L[i0] := List.getElem?_eq_getElem hi0
      have e1 : L.take (i0 + 1) = L.take i0 ++ [L[i0]] := by rw [List.take_add_one, hLi]; rfl
      have e2 : keepL (L.take i0) kept = L.take i0 := by
        unfold keepL
        rw [List.filter_eq_self]
        intro y hy
        obtain ⟨j, hj, rfl⟩ := List.mem_iff_getElem.1 hy
        have hj' : j < i0 := by simp at hj; omega
        have := hpre j (L.take i0)[j] hj' (by rw [List.getElem_take]; exact List.getElem?_eq_getElem (by omega))
        simpa using this
      have e3 : keepL [L[i0]] kept = [] := by
        have := hat _ hLi
        simp [keepL, this]
      rw [e1]
      unfold keepL at e2 e3 ⊢
      rw [List.filter_append, e2, e3, List.append_nil]
    rintro _ _ H8 ⟨m, k, X, rfl, rfl, hmk, hkl, ho, htk, hdr, hx8⟩
    have hX := (own_lrow ho).2
    refine ⟨fun hlt => ?_, fun hlt => ?_⟩
    · have hXk : X[k]? = some X[k] := List.getElem?_eq_getElem (by omega)
      have hLk : L[k]? = some X[k] := by
        have h1 : (X.drop k)[0]? = (L.drop k)[0]? := by rw [hdr]
        rw [List.getElem?_drop, List.getElem?_drop, Nat.add_zero, hXk] at h1
        exact h1.symm
      obtain ⟨b9, o10, ha9, c0, c1, c2, c3⟩ := (own_lrow ho).1.at hXk
      simp only [Option.some.injEq, Addr.mk.injEq] at ha9
      obtain ⟨rfl, rfl, _⟩ := ha9
      generalize hxe : X[k] = x at *
      refine ⟨by omega, hlt, ba, 0, rfl, _, by rw [Int.toNat_natCast]; exact c0, _, by rw [Int.toNat_natCast]; exact c1, _, by rw [Int.toNat_natCast]; exact c2, _, by rw [Int.toNat_natCast]; exact c3, fun b15 H16 hn => ⟨hn.blk.cells _ _ (by simp), fun H17 hp => ?_⟩⟩
      have hb17 : Blk H17 b15 x.cells := hp.blk hn.blk (by simp)
      have e15 := hn.eq
      have s8 := hx8.size
      have blt : ba < H8.size := ho.lt ba (by simp [blkOf])
      have halt : ba < H.size := h.lt ba (by simp [blkOf])
      have hx17 : Ext [] H8 H17 := ext_new hn.ext hp.ext (fun j hj => by simp only [List.mem_singleton] at hj; omega)
      have hX17 : Ext (blkOf (some ⟨ba, 0, none⟩)) H H17 := hx8.trans hx17.any
      refine ⟨x.id, by rw [hb17.cell]; rfl, x.par, by rw [hb17.cell]; rfl, x.sec, by rw [hb17.cell]; rfl, x.fr, by rw [hb17.cell]; rfl, (keepcl_ok x hk (hfar H17 hX17)).mono ?_⟩
      rintro _ H23 ⟨rfl, hx23⟩
      have hb23 := hb17.ext hx23 (by simp)
      have ho23 := (ho.ext hx17 (by simp)).ext hx23 (by simp)
      have hX23 : Ext (blkOf (some ⟨ba, 0, none⟩)) H H23 := hX17.trans hx23.any
      have e1 : L.take (k + 1) = L.take k ++ [x] := by rw [List.take_add_one, hLk]; rfl
      have hd1 : X.drop (k + 1) = L.drop (k + 1) := by
        have : (X.drop k).drop 1 = (L.drop k).drop 1 := by rw [hdr]
        rwa [List.drop_drop, List.drop_drop] at this
      refine ⟨_, rfl, fun hin => ?_, fun hin => ⟨⟨by omega, by omega⟩, ⟨m, k + 1, X, rfl, by omega, by omega, by omega, ho23, ?_, hd1, hX23⟩, by simp only []; omega⟩⟩
      · have hin' : x.id ∈ kept := by simpa using hin
        have e3 : keepL [x] kept = [x] := by simp [keepL, hin']
        refine ⟨x.id, by rw [hb23.cell]; rfl, x.par, by rw [hb23.cell]; rfl, x.sec, by rw [hb23.cell]; rfl, x.fr, by rw [hb23.cell]; rfl, by omega, by omega, ba, 0, rfl, ?_, fun H31 hp31 => ?_⟩
        · obtain ⟨p1, p2, p3, ⟨e, _⟩ | ⟨b', tail, e, hbb, hll⟩⟩ := ho23
          · cases e
          · simp only [Option.some.injEq, Addr.mk.injEq] at e
            obtain ⟨rfl, _⟩ := e
            exact hbb.cells _ _ (by rw [hll, Int.toNat_natCast]; omega)
        · rw [Int.toNat_natCast] at hp31
          have ho31 := put_row ho23 (by omega) hp31
          refine ⟨⟨by omega, by omega⟩, ⟨by omega, by omega⟩, ⟨m + 1, k + 1, X.set m x, by omega, by omega, by omega, by omega, ho31, ?_, ?_, hX23.trans hp31.ext⟩, by simp only []; omega⟩
          · rw [take_set_succ (by omega), htk, e1]
            unfold keepL at e3 ⊢
            rw [List.filter_append, e3]
          · rw [drop_set (by omega)]; exact hd1
      · have hin' : x.id ∉ kept := by simpa using hin
        have e3 : keepL [x] kept = [] := by simp [keepL, hin']
        rw [e1, htk]
        unfold keepL at e3 ⊢
        rw [List.filter_append, e3, List.append_nil]
    · have hkL : k = L.length := by omega
      subst hkL
      rw [List.take_length] at htk
      have hml : m = (keepL L kept).length := by
        rw [← htk, List.length_take]; omega
      have hcap := ho.2.1
      refine ⟨by omega, by omega, fun a32 ha32 => ?_⟩
      have hmlt : ¬ c = Int.toNat (m : Int) := by omega
      rw [if_neg hmlt] at ha32
      have ha32' : a32 = some ⟨ba, 0 + m * 4, none⟩ := by rw [ha32]; simp [Addr.add_lit]
      subst ha32'
      rw [Int.toNat_natCast]
      refine ⟨⟨rfl, ?_⟩, fun H33 hc => ⟨by omega, by omega, ?_⟩⟩
      · obtain ⟨p1, p2, p3, ⟨e, _⟩ | ⟨b', tail, e, hbb, hll⟩⟩ := ho
        · cases e
        · simp only [Option.some.injEq, Addr.mk.injEq] at e
          obtain ⟨rfl, _⟩ := e
          exact hbb.cells _ _ (by rw [hll]; show 0 + m * 4 + 0 + (L.length - m) * 4 ≤ _; omega)
      · have hc' : H33 = hsets H8 ba (m * 4) (List.flatten (List.replicate (L.length - m) [(.int .i64 0), (.int .i64 0), (.int .i64 0), (.bool false)])) := by
          have : H33 = hsets H8 ba (0 + m * 4) (List.flatten (List.replicate (L.length - m) [(.int .i64 0), (.int .i64 0), (.int .i64 0), (.bool false)])) := hc
          rwa [Nat.zero_add] at this
        subst hc'
        have hcut := cut_row (m := m) (vs := List.flatten (List.replicate (L.length - m) [(.int .i64 0), (.int .i64 0), (.int .i64 0), (.bool false)])) ho (by omega) (by rw [List.length_flatten]; simp)
        rw [htk] at hcut
        refine ⟨by rw [hml], ?_, hx8.trans (hsets_ext _ _).1⟩
        rw [← hml]; exact hcut
  · have e : keepL L kept = L := by
      unfold keepL
      rw [List.filter_eq_self]
      intro y hy
      simpa using hall y hy
    refine ⟨_, rfl, fun _ => ⟨by rw [e], by rw [e]; exact h.ext hx2 (by simp), hx2.any⟩, fun e => absurd rfl e⟩

theorem clone_ok {L : List Ly} {a : Option Addr} {c : Nat} {H : Heap} (hl : L.length ≤ 100000) (h : LRow H a L) :
    Does Try.prog 65 [.slice a L.length c] H fun v H' => ∃ a' c', v = .slice a' L.length c' ∧ Own H' 4 a' L.length c' (rowsOf L) ∧ Ext [] H H' ∧ ∀ k ∈ blkOf a', H.size ≤ k := by
  refine Fn_of_vc Try.mixed (vc_clone _ _ _ _ _) ?_
  refine ⟨fun e => ?_, fun e => ?_⟩
  · subst e
    have h1 : rowsOf L = [] := h.2
    have h2 : L = [] := by
      have := rowsOf_length L
      rw [h1] at this
      cases L with
      | nil => rfl
      | cons => simp at this
    subst h2
    exact ⟨none, 0, rfl, Own.nil _ _, Ext.refl _ _, by simp [blkOf]⟩
  · intro b1 H2 hn
    have ho : Own H2 4 (some ⟨b1, 0, none⟩) 0 0 [] := ⟨rfl, Nat.le_refl _, by unfold maxLen; omega, .inr ⟨b1, [], rfl, hn.blk, rfl⟩⟩
    refine ⟨[], rowsOf L, ho.row _ _, SRow.cap (h.ext hn.ext (by simp)), rowsOf_one L, by omega, fun hle => ?_, ?_⟩
    · have : L.length = 0 := by omega
      rw [this]; exact ⟨rfl, trivial⟩
    intro a5 c6 H7 happ
    obtain ⟨ho7, hx7, hfr7⟩ := happ.own ho (ho.row _ _) (by rw [rowsOf_length]) rfl
    have e1 := hn.eq
    have s1 := hn.size
    rw [Nat.zero_add] at ho7
    refine ⟨a5, c6, by rw [Nat.zero_add], ho7, ext_new hn.ext hx7 (fun k hk => ?_), fun k hk => ?_⟩
    · simp only [blkOf, List.mem_singleton] at hk; omega
    · rcases hfr7 k hk with h' | h'
      · simp only [blkOf, List.mem_singleton] at h'; omega
      · omega
end Go.Proofs
end

section
open Go Go.Vc
namespace Go.Proofs

def keptOf (L : List Ly) (ids : List Int) : List Int := (ids.map (anc L)).flatten

theorem anc_len (L : List Ly) (id : Int) : (anc L id).length ≤ L.length := by
  have : ∀ (k : Nat) (todo out : List Int), out.Nodup → (∀ j ∈ out, j ∈ L.map Ly.id) → (∀ j ∈ bfs L k todo out, j ∈ L.map Ly.id) := by
    intro k
    induction k with
    | zero => intro todo out _ h; exact h
    | succ k ih =>
      intro todo out hn h
      cases todo with
      | nil => exact h
      | cons t r =>
        simp only [bfs]
        split
        · exact ih r out hn h
        · rename_i x hf
          split
          · exact ih r out hn h
          · rename_i hni
            refine ih _ _ ?_ ?_
            · rw [List.nodup_append]
              exact ⟨hn, by simp, fun p hp q hq => by simp only [List.mem_singleton] at hq; subst hq; exact fun e => hni (e ▸ hp)⟩
            · intro j hj
              rcases List.mem_append.1 hj with h' | h'
              · exact h j h'
              · simp only [List.mem_singleton] at h'; subst h'; exact List.mem_map_of_mem (find_some hf).2
  have h1 := nodup_le (L.map Ly.id) (ancU L id) (bfs_nodup L _ _ _ (by simp)) (this _ _ _ (by simp) (by simp))
  rw [List.length_map] at h1
  unfold anc
  rw [sorted_len]; exact h1

theorem keptOf_len (L : List Ly) (ids : List Int) : (keptOf L ids).length ≤ ids.length * L.length := by
  induction ids with
  | nil => simp [keptOf]
  | cons x r ih =>
    have : keptOf L (x :: r) = anc L x ++ keptOf L r := by simp [keptOf]
    rw [this, List.length_append, List.length_cons, Nat.add_mul, Nat.one_mul]
    have := anc_len L x
    omega

set_option maxHeartbeats 1000000 in
theorem keep_ok {L : List Ly} {a : Option Addr} {c : Nat} {ids : List Int} {a1 : Option Addr} {c1 : Nat} {H : Heap} (hl : L.length ≤ 1000) (h : LRow H a L) (hi : ids.length ≤ 100) (hr : IRow H a1 ids) :
    Does Try.prog 32 [.slice a L.length c, .slice a1 ids.length c1] H fun v H' => ∃ a' c', v = .slice a' (keepL L (keptOf L ids)).length c' ∧ Own H' 4 a' (keepL L (keptOf L ids)).length c' (rowsOf (keepL L (keptOf L ids))) ∧ Ext [] H H' ∧ ∀ k ∈ blkOf a', H.size ≤ k := by
  refine Fn_of_vc Try.mixed (vc_keep _ _ _ _ _ _ _ _) ?_
  intro b1 H2 hn
  have e1 := hn.eq
  refine ⟨fun n H' => ∃ (j : Nat) (kept : List Int) (ak : Option Addr) (ck : Nat), n = j ∧ j ≤ ids.length ∧ kept = keptOf L (ids.take j) ∧ Blk H' b1 [.slice ak kept.length ck] ∧ Own H' 1 ak kept.length ck (ints kept) ∧ (∀ k ∈ blkOf ak, H.size ≤ k ∧ k ≠ b1) ∧ Ext [] H H', fun n _ => ids.length - n.toNat, ?_, ?_⟩
  · exact ⟨0, [], none, 0, rfl, by omega, rfl, hn.blk, Own.nil _ _, by simp [blkOf], hn.ext⟩
  rintro _ H6 ⟨j, kept, ak, ck, rfl, hj, hkd, hb, ho, hf, hx⟩
  have hklen : kept.length ≤ 100000 := by
    rw [hkd]
    have h1 := keptOf_len L (ids.take j)
    have h2 : (ids.take j).length ≤ 100 := by simp; omega
    have h3 : (ids.take j).length * L.length ≤ 100 * 1000 := Nat.mul_le_mul h2 hl
    omega
  refine ⟨fun hlt => ?_, fun hlt => ?_⟩
  · have hij : ids[j]? = some ids[j] := List.getElem?_eq_getElem (by omega)
    obtain ⟨b7, o8, ha1, hc⟩ := (hr.ext hx (by simp)).at hij
    refine ⟨by omega, hlt, b7, o8, ha1, _, by rw [Int.toNat_natCast]; exact hc, ak, _, ck, by rw [hb.cell]; rfl, (ancestors_ok ids[j] (by omega) (h.ext hx (by simp))).mono ?_⟩
    rintro _ H14 ⟨a15, c17, rfl, ho15, hlen15, hx14, hf15⟩
    have hb14 := hb.ext hx14 (by simp)
    have ho14 := ho.ext hx14 (by simp)
    refine ⟨a15, _, c17, rfl, ⟨by rw [hb14.cell]; rfl, trivial⟩, ints kept, ints (anc L ids[j]), ho14.row _ _, ho15.row _ _, ints_one _, by omega, fun hle => by simpa using ho14.room hle, ?_⟩
    intro a20 c21 H22 happ
    obtain ⟨ho22, hx22, hf22⟩ := happ.own ho14 (ho14.row _ _) (by rw [ints_length]; omega) rfl
    have hb22 := hb14.ext hx22 (fun hm => (hf b1 hm).2 rfl)
    have b1lt : b1 < H14.size := hb14.lt
    have hn20 : ∀ k ∈ blkOf a20, H.size ≤ k ∧ k ≠ b1 := by
      intro k hk
      rcases hf22 k hk with h' | h'
      · exact hf k h'
      · have := hx.size; have := hx14.size; exact ⟨by omega, by omega⟩
    refine ⟨hb22.cells _ _ (by simp), fun H23 hp => ⟨⟨by omega, by omega⟩, ⟨j + 1, kept ++ anc L ids[j], a20, c21, by omega, by omega, ?_, ?_, ?_, hn20, ?_⟩, by simp only []; omega⟩⟩
    · have : ids.take (j + 1) = ids.take j ++ [ids[j]] := by rw [List.take_add_one, hij]; rfl
      rw [this]
      unfold keptOf at hkd ⊢
      rw [List.map_append, List.flatten_append, ← hkd]
      simp only [List.map_cons, List.map_nil, List.flatten_cons, List.flatten_nil, List.append_nil]
    · have := hp.blk hb22 (by simp)
      rw [List.length_append]
      exact this
    · have e : ints (kept ++ anc L ids[j]) = ints kept ++ ints (anc L ids[j]) := by simp [ints]
      rw [e, List.length_append]
      exact ho22.ext hp.ext (fun k hk hm => by simp only [List.mem_singleton] at hm; exact (hn20 k hk).2 hm)
    · refine ext_new (ext_new (hx.trans hx14) hx22 (fun k hk => (hf k hk).1)) hp.ext (fun k hk => ?_)
      simp only [List.mem_singleton] at hk; omega
  · have hjl : j = ids.length := by omega
    subst hjl
    rw [List.take_length] at hkd
    subst hkd
    refine (clone_ok (by omega) (h.ext hx (by simp))).mono ?_
    rintro _ H25 ⟨a26, c28, rfl, ho26, hx25, hf26⟩
    have box : ∀ H', Ext (blkOf a26) H25 H' → Box H' b1 (keptOf L ids) := by
      intro H' he
      have b1lt := hb.lt
      have lt6 := ho.lt
      refine ⟨ak, ck, ?_, ?_⟩
      · have hb25 := (hb.ext hx25 (by simp)).ext he (fun hm => by have := hf26 b1 hm; omega)
        rw [hb25.cell]; rfl
      · have ho25 := (ho.ext hx25 (by simp)).ext he (fun k hk hm => by have := hf26 k hm; have := lt6 k hk; omega)
        exact (Own.irow ho25).1
    refine ⟨_, _, _, rfl, (deletefunc_ok (by omega) (by omega) ho26 (box H25 (Ext.refl _ _)) box).mono ?_⟩
    rintro _ H30 ⟨rfl, ho30, hx30⟩
    have hs := hx.size
    have hs6 : ∀ k ∈ blkOf a26, H.size ≤ k := fun k hk => by have := hf26 k hk; omega
    exact ⟨_, _, _, rfl, a26, c28, rfl, ho30, ext_new (hx.trans hx25) hx30 hs6, hs6⟩
end Go.Proofs
end

section
open Go Go.Vc
namespace Go.Proofs

def Asc (L : List Ly) : Prop := L.Pairwise fun x y => x.id < y.id
def stands (L : List Ly) (x : Ly) (b : Int) : Prop := b = 0 ∨ ∃ y ∈ L, y.id = b ∧ y.fr = true ∧ y.id < x.id
structure Fit (L : List Ly) (x : Ly) : Prop where
  lo : 1 ≤ x.id
  hi : x.id ≤ 2147483647
  par : stands L x x.par
  sec : stands L x x.sec
  two : x.sec = 0 ∨ (x.par ≠ 0 ∧ x.par ≠ x.sec)
  len : (chainR L (L.length + 1) x.id).length ≤ 12

theorem Asc.inj {L : List Ly} (h : Asc L) {x y : Ly} (hx : x ∈ L) (hy : y ∈ L) (e : x.id = y.id) : x = y := by
  induction L with
  | nil => cases hx
  | cons z r ih =>
    obtain ⟨h1, h2⟩ := List.pairwise_cons.1 h
    rcases List.mem_cons.1 hx with hx' | hx' <;> rcases List.mem_cons.1 hy with hy' | hy'
    · rw [hx', hy']
    · have := h1 y hy'; rw [← hx'] at this; omega
    · have := h1 x hx'; rw [← hy'] at this; omega
    · exact ih h2 hx' hy'

theorem find_iff {L : List Ly} (h : Asc L) {id : Int} {x : Ly} : find L id = some x ↔ x ∈ L ∧ x.id = id := by
  constructor
  · intro hf; exact ⟨(find_some hf).2, (find_some hf).1⟩
  · rintro ⟨hx, e⟩
    cases hf : find L id with
    | none => exact absurd e (find_none.1 hf x hx)
    | some y =>
      rw [h.inj (find_some hf).2 hx (by rw [(find_some hf).1, e])]

theorem Asc.sub {L K : List Ly} (h : Asc L) (hs : K.Sublist L) : Asc K := List.Pairwise.sublist hs h

theorem asc_get {L : List Ly} (h : Asc L) {i j : Nat} {x y : Ly} (hi : L[i]? = some x) (hj : L[j]? = some y) : i < j ↔ x.id < y.id := by
  have key : ∀ {i j : Nat} {x y : Ly}, L[i]? = some x → L[j]? = some y → i < j → x.id < y.id := by
    intro i j x y hi hj hij
    obtain ⟨h1, rfl⟩ := List.getElem?_eq_some_iff.1 hi
    obtain ⟨h2, rfl⟩ := List.getElem?_eq_some_iff.1 hj
    exact List.pairwise_iff_getElem.1 h i j h1 h2 hij
  constructor
  · exact key hi hj
  · intro h'
    rcases Nat.lt_trichotomy i j with h1 | h1 | h1
    · exact h1
    · subst h1; rw [hi] at hj; simp only [Option.some.injEq] at hj; subst hj; omega
    · have := key hj hi h1; omega

theorem mem_take {L : List Ly} (h : Asc L) {i : Nat} {x y : Ly} (hi : L[i]? = some x) : y ∈ L.take i ↔ y ∈ L ∧ y.id < x.id := by
  constructor
  · intro hy
    obtain ⟨j, hj, rfl⟩ := List.mem_iff_getElem.1 hy
    have hj' : j < i := by simp at hj; omega
    have e : (L.take i)[j] = L[j]'(by simp at hj; omega) := List.getElem_take
    rw [e]
    exact ⟨List.getElem_mem _, (asc_get h (List.getElem?_eq_getElem _) hi).1 hj'⟩
  · rintro ⟨hy, hlt⟩
    obtain ⟨j, hj, rfl⟩ := List.mem_iff_getElem.1 hy
    have hj' := (asc_get h (List.getElem?_eq_getElem hj) hi).2 hlt
    rw [List.mem_take_iff_getElem]
    exact ⟨j, by omega, rfl⟩

theorem stand_iff {L : List Ly} (h : Asc L) {i : Nat} {x : Ly} (hi : L[i]? = some x) (b : Int) : mayStand (L.take i) b = true ↔ stands L x b := by
  have ht : Asc (L.take i) := h.sub (List.take_sublist _ _)
  unfold mayStand stands
  rw [Bool.or_eq_true, decide_eq_true_eq, Bool.and_eq_true]
  constructor
  · rintro (h0 | ⟨h1, h2⟩)
    · exact .inl h0
    · obtain ⟨y, hf⟩ := Option.isSome_iff_exists.1 h1
      have hy := (find_iff ht).1 hf
      obtain ⟨hm, hlt⟩ := (mem_take h hi).1 hy.1
      refine .inr ⟨y, hm, hy.2, ?_, hlt⟩
      simpa [getL, hf] using h2
  · rintro (h0 | ⟨y, hm, he, hfr, hlt⟩)
    · exact .inl h0
    · have hf : find (L.take i) b = some y := (find_iff ht).2 ⟨(mem_take h hi).2 ⟨hm, hlt⟩, he⟩
      exact .inr ⟨by rw [hf]; rfl, by simp [getL, hf, hfr]⟩

/-! ### Chains -/
theorem chainR_congr {A B : List Ly} {T : Int → Prop} (h1 : ∀ id, T id → find A id = find B id) (h2 : ∀ id x, T id → find A id = some x → T x.par) : ∀ (n : Nat) (id : Int), T id → chainR A n id = chainR B n id
  | 0, _, _ => rfl
  | n + 1, id, ht => by
    simp only [chainR]
    rw [← h1 id ht]
    cases hf : find A id with
    | none => rfl
    | some x => simp only []; rw [chainR_congr h1 h2 n x.par (h2 id x ht hf)]

def cnt (L : List Ly) (id : Int) : Nat := (L.filter fun y => decide (y.id ≤ id)).length
theorem cnt_le (L : List Ly) (id : Int) : cnt L id ≤ L.length := List.length_filter_le _ _
theorem cnt_lt {L : List Ly} {x : Ly} (hx : x ∈ L) {b : Int} (hb : b < x.id) : cnt L b < cnt L x.id := by
  unfold cnt
  induction L with
  | nil => cases hx
  | cons y r ih =>
    have mono : (r.filter fun y => decide (y.id ≤ b)).length ≤ (r.filter fun y => decide (y.id ≤ x.id)).length := by
      have hs : (r.filter fun y => decide (y.id ≤ b)).length = ((r.filter fun y => decide (y.id ≤ x.id)).filter fun y => decide (y.id ≤ b)).length := by
        rw [List.filter_filter]
        congr 1
        apply List.filter_congr
        intro z _
        rw [Bool.eq_iff_iff]
        simp only [decide_eq_true_eq, Bool.and_eq_true]
        omega
      rw [hs]; exact List.length_filter_le _ _
    rcases List.mem_cons.1 hx with rfl | hx
    · have e1 : decide (x.id ≤ b) = false := by simp; omega
      have e2 : decide (x.id ≤ x.id) = true := by simp
      rw [List.filter_cons, List.filter_cons, e1, e2]
      simp only [Bool.false_eq_true, if_false, if_true, List.length_cons]
      omega
    · have := ih hx
      rw [List.filter_cons, List.filter_cons]
      split <;> split <;> simp_all <;> omega

theorem cnt_zero {L : List Ly} {id : Int} (h : cnt L id = 0) : find L id = none := by
  rw [find_none]
  intro x hx e
  unfold cnt at h
  rw [List.length_eq_zero_iff, List.filter_eq_nil_iff] at h
  have := h x hx
  simp at this
  omega

def Down (L : List Ly) : Prop := ∀ x ∈ L, x.par < x.id

theorem fuel {L : List Ly} (hd : Down L) : ∀ (n : Nat) (id : Int), cnt L id ≤ n → chainR L (n + 1) id = chainR L n id
  | 0, id, h => by
    have hf := cnt_zero (L := L) (id := id) (by omega)
    simp [chainR, hf]
  | n + 1, id, h => by
    rw [chainR, chainR]
    cases hf : find L id with
    | none => rfl
    | some x =>
      have hx := find_some hf
      have h1 := cnt_lt hx.2 (hd x hx.2)
      rw [hx.1] at h1
      simp only []
      rw [fuel hd n x.par (by omega)]

theorem fuel_any {L : List Ly} (hd : Down L) (id : Int) : ∀ (n : Nat), L.length ≤ n → chainR L n id = chainR L (L.length + 1) id := by
  intro n hn
  have key : ∀ k, chainR L (L.length + k) id = chainR L L.length id := by
    intro k
    induction k with
    | zero => rfl
    | succ k ih =>
      have := cnt_le L id
      rw [← ih]; exact fuel hd (L.length + k) id (by omega)
  obtain ⟨k, rfl⟩ : ∃ k, n = L.length + k := ⟨n - L.length, by omega⟩
  rw [key k, key 1]

theorem down_of {L : List Ly} (h : ∀ x ∈ L, 1 ≤ x.id ∧ stands L x x.par) : Down L := by
  intro x hx
  obtain ⟨h1, h2⟩ := h x hx
  rcases h2 with h2 | ⟨y, _, h3, _, h4⟩
  · omega
  · omega

theorem chain_take {L : List Ly} (h : Asc L) (hd : Down L) {i : Nat} {x : Ly} (hi : L[i]? = some x) : (chain (L.take (i + 1)) x.id).length = (chainR L (L.length + 1) x.id).length := by
  have ht : Asc (L.take (i + 1)) := h.sub (List.take_sublist _ _)
  have hmem : ∀ y, y ∈ L.take (i + 1) ↔ y ∈ L ∧ y.id ≤ x.id := by
    intro y
    have e1 : L.take (i + 1) = L.take i ++ [x] := by rw [List.take_add_one, hi]; rfl
    rw [e1, List.mem_append, mem_take h hi, List.mem_singleton]
    have hx : x ∈ L := List.mem_of_getElem? hi
    constructor
    · rintro (⟨h1, h2⟩ | rfl)
      · exact ⟨h1, by omega⟩
      · exact ⟨hx, by omega⟩
    · rintro ⟨h1, h2⟩
      by_cases e : y.id = x.id
      · exact .inr (h.inj h1 hx e)
      · exact .inl ⟨h1, by omega⟩
  have hd' : Down (L.take (i + 1)) := fun y hy => hd y ((hmem y).1 hy).1
  have hc : ∀ n, chainR (L.take (i + 1)) n x.id = chainR L n x.id := by
    intro n
    refine chainR_congr (T := fun id => id ≤ x.id) ?_ ?_ n x.id (by simp)
    · intro id hid
      cases hf : find L id with
      | none =>
        rw [find_none]
        intro y hy
        exact find_none.1 hf y ((hmem y).1 hy).1
      | some y =>
        have hy := (find_iff h).1 hf
        exact (find_iff ht).2 ⟨(hmem y).2 ⟨hy.1, by omega⟩, hy.2⟩
    · intro id y hid hf
      have hy := (find_iff ht).1 hf
      have := hd' y hy.1
      show y.par ≤ x.id
      omega
  unfold chain
  rw [List.length_reverse, hc, ← hc, ← fuel_any hd' x.id (L.length + 1) (by have := List.length_take_le (i + 1) L; simp; omega)] <;> skip
  rw [hc]

theorem asc_iff {L : List Ly} : (∀ i x, L[i]? = some x → ascB L i x = true) ↔ Asc L := by
  constructor
  · intro h
    have step : ∀ i x y, L[i]? = some x → L[i + 1]? = some y → x.id < y.id := by
      intro i x y hx hy
      have := h (i + 1) y hy
      simpa [ascB, hx] using this
    have key : ∀ k i x y, L[i]? = some x → L[i + k + 1]? = some y → x.id < y.id := by
      intro k
      induction k with
      | zero => intro i x y hx hy; exact step i x y hx hy
      | succ k ih =>
        intro i x y hx hy
        have hlt := (List.getElem?_eq_some_iff.1 hy).1
        have hz : L[i + k + 1]? = some L[i + k + 1] := List.getElem?_eq_getElem (by omega)
        have h1 := ih i x _ hx hz
        have h2 := step (i + k + 1) _ y hz hy
        omega
    unfold Asc
    rw [List.pairwise_iff_getElem]
    intro i j hi hj hij
    exact key (j - i - 1) i _ _ (List.getElem?_eq_getElem hi) (by rw [show i + (j - i - 1) + 1 = j by omega]; exact List.getElem?_eq_getElem hj)
  · intro h i x hx
    cases i with
    | zero => rfl
    | succ k =>
      have hlt := (List.getElem?_eq_some_iff.1 hx).1
      have hk : L[k]? = some L[k] := List.getElem?_eq_getElem (by omega)
      have := (asc_get h hk hx).1 (by omega)
      simpa [ascB, hk] using this

/-- **What a right graph is.** -/
theorem right_iff {L : List Ly} : rightB L = true ↔ Asc L ∧ (∀ x ∈ L, Fit L x) ∧ L.length ≤ 40 := by
  rw [rightB_iff]
  have each : ∀ i x, L[i]? = some x → (okB L i = true ↔ (1 ≤ x.id ∧ x.id ≤ 2147483647 ∧ ascB L i x = true) ∧ (mayStand (L.take i) x.par = true ∧ mayStand (L.take i) x.sec = true) ∧ (x.sec = 0 ∨ (x.par ≠ 0 ∧ x.par ≠ x.sec)) ∧ (chain (L.take (i + 1)) x.id).length ≤ 12) := by
    intro i x hi
    unfold okB
    rw [hi]
    simp only [Bool.and_eq_true, Bool.or_eq_true, decide_eq_true_eq]
    constructor
    · rintro ⟨⟨⟨⟨⟨a, b⟩, c⟩, d, e⟩, f⟩, g⟩; exact ⟨⟨a, b, c⟩, ⟨d, e⟩, f, g⟩
    · rintro ⟨⟨a, b, c⟩, ⟨d, e⟩, f, g⟩; exact ⟨⟨⟨⟨⟨a, b⟩, c⟩, d, e⟩, f⟩, g⟩
  constructor
  · rintro ⟨h, hl⟩
    have h' : ∀ i x, L[i]? = some x → _ := fun i x hi => (each i x hi).1 (h i (List.getElem?_eq_some_iff.1 hi).1)
    have ha : Asc L := asc_iff.1 fun i x hi => (h' i x hi).1.2.2
    have hd : Down L := down_of fun x hx => by
      obtain ⟨i, hi, rfl⟩ := List.mem_iff_getElem.1 hx
      have hi' := List.getElem?_eq_getElem hi
      exact ⟨(h' i _ hi').1.1, (stand_iff ha hi' _).1 (h' i _ hi').2.1.1⟩
    refine ⟨ha, fun x hx => ?_, hl⟩
    obtain ⟨i, hi, rfl⟩ := List.mem_iff_getElem.1 hx
    have hi' := List.getElem?_eq_getElem hi
    obtain ⟨⟨a, b, _⟩, ⟨d, e⟩, f, g⟩ := h' i _ hi'
    exact ⟨a, b, (stand_iff ha hi' _).1 d, (stand_iff ha hi' _).1 e, f, by rw [← chain_take ha hd hi']; exact g⟩
  · rintro ⟨ha, hf, hl⟩
    have hd : Down L := down_of fun x hx => ⟨(hf x hx).lo, (hf x hx).par⟩
    refine ⟨fun i hi => ?_, hl⟩
    have hi' := List.getElem?_eq_getElem hi
    have hx := hf L[i] (List.getElem_mem _)
    refine (each i _ hi').2 ⟨⟨hx.lo, hx.hi, asc_iff.2 ha i _ hi'⟩, ⟨(stand_iff ha hi' _).2 hx.par, (stand_iff ha hi' _).2 hx.sec⟩, hx.two, ?_⟩
    rw [chain_take ha hd hi']; exact hx.len
end Go.Proofs
end

section
open Go Go.Vc
namespace Go.Proofs

/-- a stands on c, or is it. -/
inductive Up (L : List Ly) : Int → Int → Prop
  | refl {a : Int} : (find L a).isSome = true → Up L a a
  | step {a b c : Int} {x : Ly} : find L a = some x → (b = x.par ∨ b = x.sec) → Up L b c → Up L a c

theorem Up.some {L : List Ly} {a c : Int} (h : Up L a c) : (find L c).isSome = true := by
  induction h with
  | refl h => exact h
  | step _ _ _ ih => exact ih

theorem Up.trans {L : List Ly} {a b c : Int} (h : Up L a b) (k : Up L b c) : Up L a c := by
  induction h with
  | refl _ => exact k
  | step h1 h2 _ ih => exact .step h1 h2 (ih k)

/-- a step at the end -/
theorem Up.one {L : List Ly} {a b c : Int} {x : Ly} (h : Up L a b) (hf : find L b = Option.some x) (hc : c = x.par ∨ c = x.sec) (hs : (find L c).isSome = true) : Up L a c :=
  h.trans (.step hf hc (.refl hs))

theorem bfs_sound (L : List Ly) (id : Int) : ∀ (k : Nat) (todo out : List Int), (∀ o ∈ out, Up L id o) → (∀ t ∈ todo, ∀ c, Up L t c → Up L id c) → ∀ o ∈ bfs L k todo out, Up L id o
  | 0, _, _, h, _ => h
  | _ + 1, [], _, h, _ => h
  | k + 1, t :: r, out, h, ht => by
    simp only [bfs]
    split
    · exact bfs_sound L id k r out h (fun t' ht' => ht t' (by simp [ht']))
    · rename_i x hf
      split
      · exact bfs_sound L id k r out h (fun t' ht' => ht t' (by simp [ht']))
      · have hx := find_some hf
        have ht0 : Up L id t := ht t (by simp) t (.refl (by rw [hf]; rfl))
        refine bfs_sound L id k _ _ ?_ ?_
        · intro o ho
          rcases List.mem_append.1 ho with h' | h'
          · exact h o h'
          · simp only [List.mem_singleton] at h'; subst h'; rw [hx.1]; exact ht0
        · intro t' ht' c hc
          rcases List.mem_append.1 ht' with h' | h'
          · exact ht t' (by simp [h']) c hc
          · refine ht t (by simp) c (.step hf ?_ hc)
            simpa using h'

theorem bfs_full (L : List Ly) : ∀ (k : Nat) (todo out : List Int), out.Nodup → (∀ j ∈ out, j ∈ L.map Ly.id) → todo.length + 2 * (L.length - out.length) ≤ k →
    (∀ o ∈ out, ∀ x, find L o = some x → ∀ b, b = x.par ∨ b = x.sec → b ∈ todo ∨ b ∈ out ∨ find L b = none) →
    (∀ o ∈ out, o ∈ bfs L k todo out) ∧ (∀ t ∈ todo, (find L t).isSome = true → t ∈ bfs L k todo out) ∧ ∀ o ∈ bfs L k todo out, ∀ x, find L o = some x → ∀ b, b = x.par ∨ b = x.sec → b ∈ bfs L k todo out ∨ find L b = none
  | 0, todo, out, _, _, hk, hinv => by
    have : todo = [] := by cases todo with
      | nil => rfl
      | cons _ _ => simp at hk
    subst this
    refine ⟨fun o ho => ho, by simp, fun o ho x hx b hb => ?_⟩
    rcases hinv o ho x hx b hb with h | h | h
    · cases h
    · exact .inl h
    · exact .inr h
  | k + 1, [], out, _, _, _, hinv => by
    refine ⟨fun o ho => ho, by simp, fun o ho x hx b hb => ?_⟩
    rcases hinv o ho x hx b hb with h | h | h
    · cases h
    · exact .inl h
    · exact .inr h
  | k + 1, t :: r, out, hn, hsub, hk, hinv => by
    simp only [List.length_cons] at hk
    cases hf : find L t with
    | none =>
      have e : bfs L (k + 1) (t :: r) out = bfs L k r out := by simp only [bfs, hf]
      rw [e]
      obtain ⟨h1, h2, h3⟩ := bfs_full L k r out hn hsub (by omega) (fun o ho x hx b hb => by
        rcases hinv o ho x hx b hb with h | h | h
        · rcases List.mem_cons.1 h with rfl | h
          · exact .inr (.inr hf)
          · exact .inl h
        · exact .inr (.inl h)
        · exact .inr (.inr h))
      refine ⟨h1, fun t' ht' hs => ?_, h3⟩
      rcases List.mem_cons.1 ht' with rfl | ht'
      · rw [hf] at hs; cases hs
      · exact h2 t' ht' hs
    | some x =>
      have hx := find_some hf
      by_cases hm : x.id ∈ out
      · have e : bfs L (k + 1) (t :: r) out = bfs L k r out := by simp only [bfs, hf]; rw [if_pos hm]
        rw [e]
        rw [hx.1] at hm
        obtain ⟨h1, h2, h3⟩ := bfs_full L k r out hn hsub (by omega) (fun o ho x hx b hb => by
          rcases hinv o ho x hx b hb with h | h | h
          · rcases List.mem_cons.1 h with rfl | h
            · exact .inr (.inl hm)
            · exact .inl h
          · exact .inr (.inl h)
          · exact .inr (.inr h))
        refine ⟨h1, fun t' ht' hs => ?_, h3⟩
        rcases List.mem_cons.1 ht' with rfl | ht'
        · exact h1 _ hm
        · exact h2 t' ht' hs
      · have e : bfs L (k + 1) (t :: r) out = bfs L k (r ++ [x.par, x.sec]) (out ++ [x.id]) := by simp only [bfs, hf]; rw [if_neg hm]
        rw [e]
        have hn2 : (out ++ [x.id]).Nodup := by
          rw [List.nodup_append]
          exact ⟨hn, by simp, fun p hp q hq => by simp only [List.mem_singleton] at hq; subst hq; exact fun e => hm (e ▸ hp)⟩
        have hs2 : ∀ j ∈ out ++ [x.id], j ∈ L.map Ly.id := by
          intro j hj
          rcases List.mem_append.1 hj with h' | h'
          · exact hsub j h'
          · simp only [List.mem_singleton] at h'; subst h'; exact List.mem_map_of_mem hx.2
        have hle := nodup_le (L.map Ly.id) _ hn2 hs2
        rw [List.length_map, List.length_append] at hle
        simp only [List.length_singleton] at hle
        obtain ⟨h1, h2, h3⟩ := bfs_full L k (r ++ [x.par, x.sec]) (out ++ [x.id]) hn2 hs2 (by simp; omega) (fun o ho y hy b hb => by
          rcases List.mem_append.1 ho with h' | h'
          · rcases hinv o h' y hy b hb with h | h | h
            · rcases List.mem_cons.1 h with rfl | h
              · exact .inr (.inl (by simp [hx.1]))
              · exact .inl (by simp [h])
            · exact .inr (.inl (by simp [h]))
            · exact .inr (.inr h)
          · simp only [List.mem_singleton] at h'
            subst h'
            rw [hx.1, hf] at hy
            simp only [Option.some.injEq] at hy
            subst hy
            exact .inl (by rcases hb with rfl | rfl <;> simp))
        refine ⟨fun o ho => h1 o (by simp [ho]), fun t' ht' hs => ?_, h3⟩
        rcases List.mem_cons.1 ht' with rfl | ht'
        · exact h1 _ (by simp [hx.1])
        · exact h2 t' (by simp [ht']) hs

/-- **Who the ancestors are.** -/
theorem anc_iff {L : List Ly} {id k : Int} : k ∈ anc L id ↔ Up L id k := by
  rw [anc_mem]
  unfold ancU
  constructor
  · exact fun h => bfs_sound L id _ [id] [] (by simp) (fun t ht c hc => by simp only [List.mem_singleton] at ht; subst ht; exact hc) k h
  · intro h
    obtain ⟨_, h2, h3⟩ := bfs_full L (2 * L.length + 1) [id] [] (by simp) (by simp) (by simp; omega) (by simp)
    have key : ∀ {a c : Int}, Up L a c → a ∈ bfs L (2 * L.length + 1) [id] [] → c ∈ bfs L (2 * L.length + 1) [id] [] := by
      intro a c hu
      induction hu with
      | refl _ => exact fun h => h
      | step hf hb hu ih =>
        intro ha
        rcases h3 _ ha _ hf _ hb with h' | h'
        · exact ih h'
        · exfalso
          cases hu with
          | refl hs => rw [h'] at hs; cases hs
          | step hf' _ _ => rw [h'] at hf'; cases hf'
    refine key h (h2 id (by simp) ?_)
    cases h with
    | refl hs => exact hs
    | step hf _ _ => rw [hf]; rfl

/-! ### A right graph -/
section
variable {L : List Ly} (hr : rightB L = true)
include hr

omit hr in
theorem anc_self {a : Int} (ha : (find L a).isSome = true) : a ∈ anc L a := anc_iff.2 (.refl ha)
theorem r_find {id : Int} {x : Ly} (h : find L id = some x) : Fit L x ∧ x.id = id := by
  obtain ⟨_, h2, _⟩ := right_iff.1 hr
  exact ⟨h2 x (find_some h).2, (find_some h).1⟩

theorem r_zero : find L 0 = none := by
  rw [find_none]
  intro x hx e
  have := ((right_iff.1 hr).2.1 x hx).lo
  omega

theorem up_le {a c : Int} (h : Up L a c) : c ≤ a ∧ 1 ≤ c := by
  induction h with
  | refl hs =>
    obtain ⟨x, hf⟩ := Option.isSome_iff_exists.1 hs
    have h1 := r_find hr hf
    have := h1.1.lo
    omega
  | step hf hb hu ih =>
    rename_i a b c x
    have h1 := r_find hr hf
    have hlt : b = 0 ∨ b < x.id := by
      rcases hb with rfl | rfl
      · rcases h1.1.par with h | ⟨y, _, e, _, h⟩
        · exact .inl h
        · right; omega
      · rcases h1.1.sec with h | ⟨y, _, e, _, h⟩
        · exact .inl h
        · right; omega
    rcases hlt with rfl | hlt
    · cases hu with
      | refl hs => rw [r_zero hr] at hs; cases hs
      | step hf' _ _ => rw [r_zero hr] at hf'; cases hf'
    · omega

theorem anc_le {a k : Int} (h : k ∈ anc L a) : k ≤ a ∧ 1 ≤ k := up_le hr (anc_iff.1 h)
end

theorem last_max {l : List Int} (h : l.Pairwise (· < ·)) {m : Int} (hm : m ∈ l) (hx : ∀ k ∈ l, k ≤ m) : l.getLastD 0 = m := by
  induction l with
  | nil => cases hm
  | cons x r ih =>
    obtain ⟨h1, h2⟩ := List.pairwise_cons.1 h
    cases r with
    | nil => simp only [List.mem_singleton] at hm; subst hm; rfl
    | cons y r =>
      have hmr : m ∈ y :: r := by
        rcases List.mem_cons.1 hm with e | e
        · have := h1 y (by simp); have := hx y (by simp); omega
        · exact e
      have := ih h2 hmr (fun k hk => hx k (by simp at hk ⊢; exact .inr hk))
      simpa using this

theorem last_mem {l : List Int} (h : l ≠ []) : l.getLastD 0 ∈ l := by
  induction l with
  | nil => exact absurd rfl h
  | cons x r ih =>
    cases r with
    | nil => simp
    | cons y r =>
      have e : (x :: y :: r).getLastD 0 = (y :: r).getLastD 0 := by simp
      rw [e]
      exact List.mem_cons_of_mem _ (ih (by simp))

theorem last_ge {l : List Int} (h : l.Pairwise (· < ·)) : ∀ k ∈ l, k ≤ l.getLastD 0 := by
  induction l with
  | nil => intro k hk; cases hk
  | cons x r ih =>
    obtain ⟨h1, h2⟩ := List.pairwise_cons.1 h
    intro k hk
    cases r with
    | nil => simp only [List.mem_singleton] at hk; subst hk; exact Int.le_refl _
    | cons y r =>
      have e : (x :: y :: r).getLastD 0 = (y :: r).getLastD 0 := by simp
      rw [e]
      rcases List.mem_cons.1 hk with rfl | hk
      · have := h1 y (by simp); have := ih h2 y (by simp); omega
      · exact ih h2 k hk

theorem base_sym {p q : List Int} (hp : p.Pairwise (· < ·)) (hq : q.Pairwise (· < ·)) : baseOf p q = baseOf q p := by
  unfold baseOf
  have e : (p.filter fun k => decide (k ∈ q)) = (q.filter fun k => decide (k ∈ p)) :=
    asc_ext (hp.sublist List.filter_sublist) (hq.sublist List.filter_sublist) (fun k => by simp only [List.mem_filter, decide_eq_true_eq]; exact And.comm)
  rw [e]

theorem base_in {p q : List Int} (hp : p.Pairwise (· < ·)) {z : Int} (h1 : z ∈ p) (h2 : z ∈ q) : baseOf p q ∈ p ∧ baseOf p q ∈ q ∧ z ≤ baseOf p q := by
  have hz : z ∈ p.filter fun k => decide (k ∈ q) := by simp [h1, h2]
  have hm := last_mem (List.ne_nil_of_mem hz)
  simp only [List.mem_filter, decide_eq_true_eq] at hm
  exact ⟨hm.1, hm.2, last_ge (hp.sublist List.filter_sublist) z hz⟩

theorem base_none {p q : List Int} (h : baseOf p q ≠ 0) : baseOf p q ∈ p ∧ baseOf p q ∈ q := by
  have hne : (p.filter fun k => decide (k ∈ q)) ≠ [] := by
    intro e
    unfold baseOf at h
    rw [e] at h
    exact h rfl
  have hm := last_mem hne
  simp only [List.mem_filter, decide_eq_true_eq] at hm
  exact hm

/-! ### What is kept -/
def Closed (L : List Ly) (S : List Int) : Prop := ∀ k ∈ S, ∀ x, find L k = some x → ∀ b, b = x.par ∨ b = x.sec → (find L b).isSome = true → b ∈ S

theorem kept_closed (L : List Ly) (ids : List Int) : Closed L (keptOf L ids) := by
  intro k hk x hf b hb hs
  unfold keptOf at hk ⊢
  obtain ⟨l, hl, hk⟩ := List.mem_flatten.1 hk
  obtain ⟨id, hid, rfl⟩ := List.mem_map.1 hl
  exact List.mem_flatten.2 ⟨_, hl, anc_iff.2 ((anc_iff.1 hk).one hf hb hs)⟩

theorem kept_mem {L : List Ly} {ids : List Int} {k : Int} : k ∈ keptOf L ids ↔ ∃ id ∈ ids, k ∈ anc L id := by
  unfold keptOf
  rw [List.mem_flatten]
  constructor
  · rintro ⟨l, hl, hk⟩
    obtain ⟨id, hid, rfl⟩ := List.mem_map.1 hl
    exact ⟨id, hid, hk⟩
  · rintro ⟨id, hid, hk⟩
    exact ⟨_, List.mem_map_of_mem hid, hk⟩

section
variable {L : List Ly} (hr : rightB L = true) {S : List Int} (hS : Closed L S)

theorem keepL_mem {x : Ly} : x ∈ keepL L S ↔ x ∈ L ∧ x.id ∈ S := by simp [keepL]

include hr in
theorem keepL_asc : Asc (keepL L S) := (right_iff.1 hr).1.sub List.filter_sublist

include hr in
theorem keepL_find {id : Int} (hid : id ∈ S) : find (keepL L S) id = find L id := by
  have ha := (right_iff.1 hr).1
  cases hf : find L id with
  | none =>
    rw [find_none]
    intro y hy
    exact find_none.1 hf y (keepL_mem.1 hy).1
  | some y =>
    have hy := (find_iff ha).1 hf
    exact (find_iff (keepL_asc hr)).2 ⟨keepL_mem.2 ⟨hy.1, by rw [hy.2]; exact hid⟩, hy.2⟩

theorem keepL_none {id : Int} (h : find L id = none) : find (keepL L S) id = none := by
  rw [find_none]
  intro y hy
  exact find_none.1 h y (keepL_mem.1 hy).1

include hr hS in
theorem keepL_chain (n : Nat) {id : Int} (hid : id ∈ S) : chainR (keepL L S) n id = chainR L n id := by
  refine chainR_congr (T := fun id => id ∈ S ∨ find L id = none) ?_ ?_ n id (.inl hid)
  · rintro id (h | h)
    · exact keepL_find hr h
    · rw [h, keepL_none h]
  · rintro id x (h | h) hf
    · rw [keepL_find hr h] at hf
      cases hp : find L x.par with
      | none => exact .inr rfl
      | some y => exact .inl (hS id h x hf x.par (.inl rfl) (by rw [hp]; rfl))
    · rw [keepL_none h] at hf; cases hf

include hr in
theorem r_down : Down L := down_of fun x hx => by
  have := (right_iff.1 hr).2.1 x hx
  exact ⟨this.lo, this.par⟩

include hr hS in
theorem keepL_chain' {id : Int} (hid : id ∈ S) : chainR (keepL L S) ((keepL L S).length + 1) id = chainR L (L.length + 1) id := by
  have hd : Down (keepL L S) := fun x hx => r_down hr x (keepL_mem.1 hx).1
  have hle : (keepL L S).length ≤ L.length := List.length_filter_le _ _
  rw [← fuel_any hd id (L.length + 1) (by omega), keepL_chain hr hS _ hid]

include hr hS in
theorem keepL_right : rightB (keepL L S) = true := by
  obtain ⟨ha, hf, hl⟩ := right_iff.1 hr
  have hle : (keepL L S).length ≤ L.length := List.length_filter_le _ _
  refine right_iff.2 ⟨keepL_asc hr, fun x hx => ?_, by omega⟩
  obtain ⟨hxL, hxS⟩ := keepL_mem.1 hx
  have fx := hf x hxL
  have st : ∀ b, b = x.par ∨ b = x.sec → stands L x b → stands (keepL L S) x b := by
    rintro b hb (h0 | ⟨y, hy, he, hfr, hlt⟩)
    · exact .inl h0
    · have hfx : find L x.id = some x := (find_iff ha).2 ⟨hxL, rfl⟩
      have hfy : find L b = some y := (find_iff ha).2 ⟨hy, he⟩
      have hbS : b ∈ S := hS x.id hxS x hfx b hb (by rw [hfy]; rfl)
      exact .inr ⟨y, keepL_mem.2 ⟨hy, by rw [he]; exact hbS⟩, he, hfr, hlt⟩
  exact ⟨fx.lo, fx.hi, st _ (.inl rfl) fx.par, st _ (.inr rfl) fx.sec, fx.two, by rw [keepL_chain' hr hS hxS]; exact fx.len⟩

include hr hS in
theorem keepL_up {a k : Int} (haS : a ∈ S) : Up (keepL L S) a k ↔ Up L a k := by
  constructor
  · intro h
    induction h with
    | refl hs =>
      rw [keepL_find hr haS] at hs
      exact .refl hs
    | step hf hb hu ih =>
      rename_i a b c x
      rw [keepL_find hr haS] at hf
      have hbs : (find L b).isSome = true := by
        cases hl : find L b with
        | some y => rfl
        | none =>
          have := keepL_none (S := S) hl
          cases hu with
          | refl hs => rw [this] at hs; cases hs
          | step hf' _ _ => rw [this] at hf'; cases hf'
      exact .step hf hb (ih (hS a haS x hf b hb hbs))
  · intro h
    induction h with
    | refl hs => exact .refl (by rw [keepL_find hr haS]; exact hs)
    | step hf hb hu ih =>
      rename_i a b c x
      have hbs : (find L b).isSome = true := by
        cases hu with
        | refl hs => exact hs
        | step hf' _ _ => rw [hf']; rfl
      exact .step (by rw [keepL_find hr haS]; exact hf) hb (ih (hS a haS x hf b hb hbs))

include hr hS in
theorem keepL_anc {a : Int} (haS : a ∈ S) : anc (keepL L S) a = anc L a :=
  asc_ext (anc_asc _ _) (anc_asc _ _) fun k => by rw [anc_iff, anc_iff, keepL_up hr hS haS]

theorem keepL_len {p : List Int} (hp : p.Pairwise (· < ·)) (h1 : ∀ k ∈ p, (find L k).isSome = true) (h2 : ∀ k ∈ p, k ∈ S) : p.length ≤ (keepL L S).length := by
  have hn : p.Nodup := hp.imp (fun h => by omega)
  have := nodup_le ((keepL L S).map Ly.id) p hn (fun k hk => by
    obtain ⟨x, hf⟩ := Option.isSome_iff_exists.1 (h1 k hk)
    have hx := find_some hf
    exact List.mem_map.2 ⟨x, keepL_mem.2 ⟨hx.2, by rw [hx.1]; exact h2 k hk⟩, hx.1⟩)
  rwa [List.length_map] at this
end
end Go.Proofs
end

section
open Go Go.Vc
namespace Go.Proofs
set_option maxRecDepth 100000
/-- pentimento/pentimentolaw13.GraphBases -/
theorem vc_gbases (x0 : Option Addr) (x0l : Nat) (x0c : Nat) (x1 : Int) (x2 : Int) (H : Heap) (R : Value → Heap → Prop) : Walk Try.prog 7 [(18, [])] [(.slice x0 x0l x0c), (.int .i64 x1), (.int .i64 x2)] H R = (
  Does Try.prog 26 [(.slice x0 x0l x0c), (.int .i64 0)] H fun v1 H2 => ∃ a3 : Option Addr, ∃ l4 : Nat, ∃ c5 : Nat, v1 = (.slice a3 l4 c5) ∧ (
    Does Try.prog 27 [] H2 fun v6 H7 => ∃ t8 : Bool, v6 = (.bool t8) ∧ (
      (((t8 = false) → (
            Does Try.prog 27 [] H7 fun v9 H10 => ∃ t11 : Bool, v9 = (.bool t11) ∧ (
              ((t11 = true → (
                    R (.bool (@decide ((0 : Int) < (l4 : Int)) (Classical.propDecidable _))) H10)) ∧ (t11 = false → (
                    R (.bool false) H10)))))) ∧ (¬ (t8 = false) → (
            Does Try.prog 28 [(.slice a3 l4 c5)] H7 fun v12 H13 => ∃ t14 : Bool, v12 = (.bool t14) ∧ (
              (((t14 = false) → (
                    Does Try.prog 27 [] H13 fun v15 H16 => ∃ t17 : Bool, v15 = (.bool t17) ∧ (
                      ((t17 = true → (
                            R (.bool (@decide ((0 : Int) < (l4 : Int)) (Classical.propDecidable _))) H16)) ∧ (t17 = false → (
                            R (.bool false) H16)))))) ∧ (¬ (t14 = false) → (
                    (((((l4 : Int) : Int) = 0) → (
                          R (.bool true) H13)) ∧ (¬ (((l4 : Int) : Int) = 0) → (
                          Does Try.prog 23 [(.int .i64 x1), (.int .i64 (l4 : Int))] H13 fun v18 H19 => ∃ n20 : Int, v18 = (.int .i64 n20) ∧ (
                            (0 : Int) ≤ n20 ∧ (n20 : Int) < (l4 : Int) ∧ ∃ b21 o22 : Nat, a3 = some (⟨b21, o22, none⟩ : Addr) ∧ (
                              ∃ n23 : Int, hcell H19 b21 (o22 + (Int.toNat n20) * 4) = some (.int .i64 n23) ∧ (
                                Does Try.prog 23 [(.int .i64 x2), (.int .i64 (l4 : Int))] H19 fun v24 H25 => ∃ n26 : Int, v24 = (.int .i64 n26) ∧ (
                                  (0 : Int) ≤ n26 ∧ (n26 : Int) < (l4 : Int) ∧ ∃ b27 o28 : Nat, a3 = some (⟨b27, o28, none⟩ : Addr) ∧ (
                                    ∃ n29 : Int, hcell H25 b27 (o28 + (Int.toNat n26) * 4) = some (.int .i64 n29) ∧ (
                                      Does Try.prog 29 [(.slice a3 l4 c5), (.int .i64 n23), (.int .i64 n29)] H25 fun v30 H31 => ∃ n32 : Int, v30 = (.int .i64 n32) ∧ (
                                        Does Try.prog 30 [(.slice a3 l4 c5), (.int .i64 n23)] H31 fun v33 H34 => ∃ a35 : Option Addr, ∃ l36 : Nat, ∃ c37 : Nat, v33 = (.slice a35 l36 c37) ∧ (
                                          Does Try.prog 30 [(.slice a3 l4 c5), (.int .i64 n29)] H34 fun v38 H39 => ∃ a40 : Option Addr, ∃ l41 : Nat, ∃ c42 : Nat, v38 = (.slice a40 l41 c42) ∧ (
                                            Does Try.prog 29 [(.slice a3 l4 c5), (.int .i64 n29), (.int .i64 n23)] H39 fun v43 H44 => ∃ n45 : Int, v43 = (.int .i64 n45) ∧ (
                                              ((((n45 : Int) ≠ n32) → (
                                                    R (.bool false) H44)) ∧ (¬ ((n45 : Int) ≠ n32) → (
                                                    Does Try.prog 29 [(.slice a3 l4 c5), (.int .i64 n23), (.int .i64 n23)] H44 fun v46 H47 => ∃ n48 : Int, v46 = (.int .i64 n48) ∧ (
                                                      ((((n48 : Int) ≠ n23) → (
                                                            R (.bool false) H47)) ∧ (¬ ((n48 : Int) ≠ n23) → (
                                                            Does Try.prog 31 [(.slice a35 l36 c37), (.int .i64 n23)] H47 fun v49 H50 => ∃ t51 : Bool, v49 = (.bool t51) ∧ (
                                                            (((t51 = false) → (
                                                            R (.bool false) H50)) ∧ (¬ (t51 = false) → (
                                                            ∃ I52 : Heap → Prop, (
                                                            ∃ I53 : Int → Heap → Prop, ∃ μ54 : Int → Heap → Nat, (I53 0 H50) ∧
                                                            ∀ n55 : Int, ∀ H56 : Heap, I53 n55 H56 → (
                                                            ((((n55 : Int) < (l36 : Int)) → (
                                                            (0 : Int) ≤ n55 ∧ (n55 : Int) < (l36 : Int) ∧ ∃ b57 o58 : Nat, a35 = some (⟨b57, o58, none⟩ : Addr) ∧ (
                                                            ∃ n59 : Int, hcell H56 b57 (o58 + (Int.toNat n55)) = some (.int .i64 n59) ∧ (
                                                            Does Try.prog 31 [(.slice a40 l41 c42), (.int .i64 n59)] H56 fun v60 H61 => ∃ t62 : Bool, v60 = (.bool t62) ∧ (
                                                            ((t62 = true → (
                                                            ((((n32 : Int) = 0) → (
                                                            R (.bool false) H61)) ∧ (¬ ((n32 : Int) = 0) → (
                                                            (0 : Int) ≤ n55 ∧ (n55 : Int) < (l36 : Int) ∧ ∃ b63 o64 : Nat, a35 = some (⟨b63, o64, none⟩ : Addr) ∧ (
                                                            ∃ n65 : Int, hcell H61 b63 (o64 + (Int.toNat n55)) = some (.int .i64 n65) ∧ (
                                                            ((((n65 : Int) ≠ n32) → (
                                                            (0 : Int) ≤ n55 ∧ (n55 : Int) < (l36 : Int) ∧ ∃ b66 o67 : Nat, a35 = some (⟨b66, o67, none⟩ : Addr) ∧ (
                                                            ∃ n68 : Int, hcell H61 b66 (o67 + (Int.toNat n55)) = some (.int .i64 n68) ∧ (
                                                            Does Try.prog 30 [(.slice a3 l4 c5), (.int .i64 n68)] H61 fun v69 H70 => ∃ a71 : Option Addr, ∃ l72 : Nat, ∃ c73 : Nat, v69 = (.slice a71 l72 c73) ∧ (
                                                            Does Try.prog 31 [(.slice a71 l72 c73), (.int .i64 n32)] H70 fun v74 H75 => ∃ t76 : Bool, v74 = (.bool t76) ∧ (
                                                            ((t76 = true → (
                                                            R (.bool false) H75)) ∧ (t76 = false → (
                                                            (In64 (n55 + 1)) ∧
                                                            (I53 (n55 + 1) H75) ∧ μ54 (n55 + 1) H75 < μ54 n55 H56))))))))) ∧ (¬ ((n65 : Int) ≠ n32) → (
                                                            (In64 (n55 + 1)) ∧
                                                            (I53 (n55 + 1) H61) ∧ μ54 (n55 + 1) H61 < μ54 n55 H56)))))))))) ∧ (t62 = false → (
                                                            (In64 (n55 + 1)) ∧
                                                            (I53 (n55 + 1) H61) ∧ μ54 (n55 + 1) H61 < μ54 n55 H56)))))))) ∧ (¬ ((n55 : Int) < (l36 : Int)) → (
                                                            I52 H56))))) ∧
                                                            ∀ H77 : Heap, I52 H77 → (
                                                            ∀ b78 : Nat, ∀ H79 : Heap, New H77 b78 [(.int .i64 n23), (.int .i64 n29)] 3 H79 → (
                                                            Does Try.prog 32 [(.slice a3 l4 c5), (.slice (some (⟨b78, 0, none⟩ : Addr)) 2 2)] H79 fun v80 H81 => ∃ a82 : Option Addr, ∃ l83 : Nat, ∃ c84 : Nat, v80 = (.slice a82 l83 c84) ∧ (
                                                            ∃ I85 : Int → Heap → Prop, ∃ μ86 : Int → Heap → Nat, (I85 0 H81) ∧
                                                            ∀ n87 : Int, ∀ H88 : Heap, I85 n87 H88 → (
                                                            ((((n87 : Int) < (l83 : Int)) → (
                                                            (0 : Int) ≤ n87 ∧ (n87 : Int) < (l83 : Int) ∧ ∃ b89 o90 : Nat, a82 = some (⟨b89, o90, none⟩ : Addr) ∧ (
                                                            ∃ n91 : Int, hcell H88 b89 (o90 + (Int.toNat n87) * 4) = some (.int .i64 n91) ∧ (
                                                            Does Try.prog 31 [(.slice a35 l36 c37), (.int .i64 n91)] H88 fun v92 H93 => ∃ t94 : Bool, v92 = (.bool t94) ∧ (
                                                            (((t94 = false) → (
                                                            (0 : Int) ≤ n87 ∧ (n87 : Int) < (l83 : Int) ∧ ∃ b95 o96 : Nat, a82 = some (⟨b95, o96, none⟩ : Addr) ∧ (
                                                            ∃ n97 : Int, hcell H93 b95 (o96 + (Int.toNat n87) * 4) = some (.int .i64 n97) ∧ (
                                                            Does Try.prog 31 [(.slice a40 l41 c42), (.int .i64 n97)] H93 fun v98 H99 => ∃ t100 : Bool, v98 = (.bool t100) ∧ (
                                                            (((t100 = false) → (
                                                            R (.bool false) H99)) ∧ (¬ (t100 = false) → (
                                                            (In64 (n87 + 1)) ∧
                                                            (I85 (n87 + 1) H99) ∧ μ86 (n87 + 1) H99 < μ86 n87 H88)))))))) ∧ (¬ (t94 = false) → (
                                                            (In64 (n87 + 1)) ∧
                                                            (I85 (n87 + 1) H93) ∧ μ86 (n87 + 1) H93 < μ86 n87 H88)))))))) ∧ (¬ ((n87 : Int) < (l83 : Int)) → (
                                                            ((((n32 : Int) = 0) → (
                                                            Does Try.prog 28 [(.slice a82 l83 c84)] H88 fun v101 H102 => ∃ t103 : Bool, v101 = (.bool t103) ∧ (
                                                            ((t103 = true → (
                                                            R (.bool (@decide (((l36 : Int) : Int) ≤ (l83 : Int)) (Classical.propDecidable _))) H102)) ∧ (t103 = false → (
                                                            R (.bool false) H102)))))) ∧ (¬ ((n32 : Int) = 0) → (
                                                            Does Try.prog 31 [(.slice a35 l36 c37), (.int .i64 n32)] H88 fun v104 H105 => ∃ t106 : Bool, v104 = (.bool t106) ∧ (
                                                            ((t106 = true → (
                                                            Does Try.prog 31 [(.slice a40 l41 c42), (.int .i64 n32)] H105 fun v107 H108 => ∃ t109 : Bool, v107 = (.bool t109) ∧ (
                                                            ((t109 = true → (
                                                            Does Try.prog 28 [(.slice a82 l83 c84)] H108 fun v110 H111 => ∃ t112 : Bool, v110 = (.bool t112) ∧ (
                                                            ((t112 = true → (
                                                            R (.bool (@decide (((l36 : Int) : Int) ≤ (l83 : Int)) (Classical.propDecidable _))) H111)) ∧ (t112 = false → (
                                                            R (.bool false) H111)))))) ∧ (t109 = false → (
                                                            R (.bool false) H108)))))) ∧ (t106 = false → (
                                                            R (.bool false) H105)))))))))))))))))))))))))))))))))))))))))))))))) := by kernel_rfl


/-- pentimento/pentimentolaw13.GraphChains -/
theorem vc_gchains (x0 : Option Addr) (x0l : Nat) (x0c : Nat) (x1 : Option Addr) (x1l : Nat) (x1c : Nat) (H : Heap) (R : Value → Heap → Prop) : Walk Try.prog 8 [(9, [(6, (.slice none 0 0))])] [(.slice x0 x0l x0c), (.slice x1 x1l x1c)] H R = (
  Does Try.prog 26 [(.slice x0 x0l x0c), (.int .i64 0)] H fun v1 H2 => ∃ a3 : Option Addr, ∃ l4 : Nat, ∃ c5 : Nat, v1 = (.slice a3 l4 c5) ∧ (
    Does Try.prog 27 [] H2 fun v6 H7 => ∃ t8 : Bool, v6 = (.bool t8) ∧ (
      (((t8 = false) → (
            Does Try.prog 27 [] H7 fun v9 H10 => ∃ t11 : Bool, v9 = (.bool t11) ∧ (
              R (.bool t11) H10))) ∧ (¬ (t8 = false) → (
            (((((l4 : Int) : Int) = 0) → (
                  Does Try.prog 27 [] H7 fun v12 H13 => ∃ t14 : Bool, v12 = (.bool t14) ∧ (
                    R (.bool t14) H13))) ∧ (¬ (((l4 : Int) : Int) = 0) → (
                  Does Try.prog 28 [(.slice a3 l4 c5)] H7 fun v15 H16 => ∃ t17 : Bool, v15 = (.bool t17) ∧ (
                    (((t17 = false) → (
                          Does Try.prog 27 [] H16 fun v18 H19 => ∃ t20 : Bool, v18 = (.bool t20) ∧ (
                            R (.bool t20) H19))) ∧ (¬ (t17 = false) → (
                          ∃ I21 : Option Addr → Nat → Nat → Heap → Prop, (
                            ∃ I22 : Option Addr → Nat → Nat → Int → Heap → Prop, ∃ μ23 : Option Addr → Nat → Nat → Int → Heap → Nat, (I22 none 0 0 0 H16) ∧
                            ∀ a24 : Option Addr, ∀ l25 : Nat, ∀ c26 : Nat, ∀ n27 : Int, ∀ H28 : Heap, I22 a24 l25 c26 n27 H28 → (
                              ((((n27 : Int) < (x1l : Int)) → (
                                    ((((n27 : Int) < 3) → (
                                          (0 : Int) ≤ n27 ∧ (n27 : Int) < (x1l : Int) ∧ ∃ b29 o30 : Nat, x1 = some (⟨b29, o30, none⟩ : Addr) ∧ (
                                            ∃ n31 : Int, hcell H28 b29 (o30 + (Int.toNat n27)) = some (.int .i64 n31) ∧ (
                                              Does Try.prog 23 [(.int .i64 n31), (.int .i64 (l4 : Int))] H28 fun v32 H33 => ∃ n34 : Int, v32 = (.int .i64 n34) ∧ (
                                                (0 : Int) ≤ n34 ∧ (n34 : Int) < (l4 : Int) ∧ ∃ b35 o36 : Nat, a3 = some (⟨b35, o36, none⟩ : Addr) ∧ (
                                                  ∃ n37 : Int, hcell H33 b35 (o36 + (Int.toNat n34) * 4) = some (.int .i64 n37) ∧ (
                                                    ∀ b38 : Nat, ∀ H39 : Heap, New H33 b38 [(.int .i64 n37)] 3 H39 → (
                                                      ∃ old40 new41 : List Value, SRow H39 1 l25 (.slice a24 l25 c26) old40 ∧ SRow H39 1 1 (.slice (some (⟨b38, 0, none⟩ : Addr)) 1 1) new41 ∧ (∀ u ∈ new41, Value.oneCell' u = true) ∧ (l25 + 1) * 8 ≤ 140737488355328 ∧ (l25 + 1 ≤ c26 → roomOf H39 a24 (l25 * 1) (1 * 1)) ∧ ∀ a42 : Option Addr, ∀ c43 : Nat, ∀ H44 : Heap, App H39 1 3 [(.int .i64 0)] a24 l25 c26 old40 new41 1 a42 c43 H44 → (
                                                        (In64 (n27 + 1)) ∧
                                                        (I22 a42 (l25 + 1) c43 (n27 + 1) H44) ∧ μ23 a42 (l25 + 1) c43 (n27 + 1) H44 < μ23 a24 l25 c26 n27 H28))))))))) ∧ (¬ ((n27 : Int) < 3) → (
                                          I21 a24 l25 c26 H28))))) ∧ (¬ ((n27 : Int) < (x1l : Int)) → (
                                    I21 a24 l25 c26 H28))))) ∧
                          ∀ a45 : Option Addr, ∀ l46 : Nat, ∀ c47 : Nat, ∀ H48 : Heap, I21 a45 l46 c47 H48 → (
                            Does Try.prog 32 [(.slice a3 l4 c5), (.slice a45 l46 c47)] H48 fun v49 H50 => ∃ a51 : Option Addr, ∃ l52 : Nat, ∃ c53 : Nat, v49 = (.slice a51 l52 c53) ∧ (
                              Does Try.prog 28 [(.slice a51 l52 c53)] H50 fun v54 H55 => ∃ t56 : Bool, v54 = (.bool t56) ∧ (
                                (((t56 = false) → (
                                      R (.bool false) H55)) ∧ (¬ (t56 = false) → (
                                      ∃ I57 : Int → Heap → Prop, ∃ μ58 : Int → Heap → Nat, (I57 0 H55) ∧
                                      ∀ n59 : Int, ∀ H60 : Heap, I57 n59 H60 → (
                                        ((((n59 : Int) < (l46 : Int)) → (
                                              (0 : Int) ≤ n59 ∧ (n59 : Int) < (l46 : Int) ∧ ∃ b61 o62 : Nat, a45 = some (⟨b61, o62, none⟩ : Addr) ∧ (
                                                ∃ n63 : Int, hcell H60 b61 (o62 + (Int.toNat n59)) = some (.int .i64 n63) ∧ (
                                                  Does Try.prog 33 [(.slice a3 l4 c5), (.int .i64 n63)] H60 fun v64 H65 => ∃ a66 : Option Addr, ∃ l67 : Nat, ∃ c68 : Nat, v64 = (.slice a66 l67 c68) ∧ (
                                                    (0 : Int) ≤ n59 ∧ (n59 : Int) < (l46 : Int) ∧ ∃ b69 o70 : Nat, a45 = some (⟨b69, o70, none⟩ : Addr) ∧ (
                                                      ∃ n71 : Int, hcell H65 b69 (o70 + (Int.toNat n59)) = some (.int .i64 n71) ∧ (
                                                        Does Try.prog 33 [(.slice a51 l52 c53), (.int .i64 n71)] H65 fun v72 H73 => ∃ a74 : Option Addr, ∃ l75 : Nat, ∃ c76 : Nat, v72 = (.slice a74 l75 c76) ∧ (
                                                          (0 : Int) ≤ n59 ∧ (n59 : Int) < (l46 : Int) ∧ ∃ b77 o78 : Nat, a45 = some (⟨b77, o78, none⟩ : Addr) ∧ (
                                                            ∃ n79 : Int, hcell H73 b77 (o78 + (Int.toNat n59)) = some (.int .i64 n79) ∧ (
                                                            Does Try.prog 30 [(.slice a3 l4 c5), (.int .i64 n79)] H73 fun v80 H81 => ∃ a82 : Option Addr, ∃ l83 : Nat, ∃ c84 : Nat, v80 = (.slice a82 l83 c84) ∧ (
                                                            (0 : Int) ≤ n59 ∧ (n59 : Int) < (l46 : Int) ∧ ∃ b85 o86 : Nat, a45 = some (⟨b85, o86, none⟩ : Addr) ∧ (
                                                            ∃ n87 : Int, hcell H81 b85 (o86 + (Int.toNat n59)) = some (.int .i64 n87) ∧ (
                                                            Does Try.prog 30 [(.slice a51 l52 c53), (.int .i64 n87)] H81 fun v88 H89 => ∃ a90 : Option Addr, ∃ l91 : Nat, ∃ c92 : Nat, v88 = (.slice a90 l91 c92) ∧ (
                                                            (((((l67 : Int) : Int) = 0) → (
                                                            R (.bool false) H89)) ∧ (¬ (((l67 : Int) : Int) = 0) → (
                                                            (((((l67 : Int) : Int) ≠ (l75 : Int)) → (
                                                            R (.bool false) H89)) ∧ (¬ (((l67 : Int) : Int) ≠ (l75 : Int)) → (
                                                            (((((l83 : Int) : Int) ≠ (l91 : Int)) → (
                                                            R (.bool false) H89)) ∧ (¬ (((l83 : Int) : Int) ≠ (l91 : Int)) → (
                                                            (In64 ((l67 : Int) - 1)) ∧
                                                            (0 : Int) ≤ ((l67 : Int) - 1) ∧ (((l67 : Int) - 1) : Int) < (l67 : Int) ∧ ∃ b93 o94 : Nat, a66 = some (⟨b93, o94, none⟩ : Addr) ∧ (
                                                            ∃ n95 : Int, hcell H89 b93 (o94 + (Int.toNat ((l67 : Int) - 1))) = some (.int .i64 n95) ∧ (
                                                            (0 : Int) ≤ n59 ∧ (n59 : Int) < (l46 : Int) ∧ ∃ b96 o97 : Nat, a45 = some (⟨b96, o97, none⟩ : Addr) ∧ (
                                                            ∃ n98 : Int, hcell H89 b96 (o97 + (Int.toNat n59)) = some (.int .i64 n98) ∧ (
                                                            ((((n95 : Int) ≠ n98) → (
                                                            R (.bool false) H89)) ∧ (¬ ((n95 : Int) ≠ n98) → (
                                                            ∃ I99 : Int → Heap → Prop, ∃ μ100 : Int → Heap → Nat, (I99 0 H89) ∧
                                                            ∀ n101 : Int, ∀ H102 : Heap, I99 n101 H102 → (
                                                            ((((n101 : Int) < (l67 : Int)) → (
                                                            (0 : Int) ≤ n101 ∧ (n101 : Int) < (l67 : Int) ∧ ∃ b103 o104 : Nat, a66 = some (⟨b103, o104, none⟩ : Addr) ∧ (
                                                            ∃ n105 : Int, hcell H102 b103 (o104 + (Int.toNat n101)) = some (.int .i64 n105) ∧ (
                                                            Does Try.prog 34 [(.slice a3 l4 c5), (.int .i64 n105)] H102 fun v106 H107 => ∃ n108 : Int, ∃ n109 : Int, ∃ n110 : Int, ∃ t111 : Bool, ∃ t112 : Bool, v106 = (.tuple #[(.agg #[(.int .i64 n108), (.int .i64 n109), (.int .i64 n110), (.bool t111)]), (.bool t112)]) ∧ (
                                                            ∀ b113 : Nat, ∀ H114 : Heap, New H107 b113 [(.int .i64 0), (.int .i64 0), (.int .i64 0), (.bool false)] 46 H114 → (
                                                            Cells H114 b113 0 4 ∧ ∀ H115 : Heap, Puts H114 b113 0 [(.int .i64 n108), (.int .i64 n109), (.int .i64 n110), (.bool t111)] H115 → (
                                                            (((t112 = false) → (
                                                            R (.bool false) H115)) ∧ (¬ (t112 = false) → (
                                                            (0 : Int) ≤ n101 ∧ (n101 : Int) < (l67 : Int) ∧ ∃ b116 o117 : Nat, a66 = some (⟨b116, o117, none⟩ : Addr) ∧ (
                                                            ∃ n118 : Int, hcell H115 b116 (o117 + (Int.toNat n101)) = some (.int .i64 n118) ∧ (
                                                            (0 : Int) ≤ n101 ∧ (n101 : Int) < (l75 : Int) ∧ ∃ b119 o120 : Nat, a74 = some (⟨b119, o120, none⟩ : Addr) ∧ (
                                                            ∃ n121 : Int, hcell H115 b119 (o120 + (Int.toNat n101)) = some (.int .i64 n121) ∧ (
                                                            ((((n118 : Int) ≠ n121) → (
                                                            R (.bool false) H115)) ∧ (¬ ((n118 : Int) ≠ n121) → (
                                                            (0 : Int) ≤ n101 ∧ (n101 : Int) < (l67 : Int) ∧ ∃ b122 o123 : Nat, a66 = some (⟨b122, o123, none⟩ : Addr) ∧ (
                                                            ∃ n124 : Int, hcell H115 b122 (o123 + (Int.toNat n101)) = some (.int .i64 n124) ∧ (
                                                            Does Try.prog 31 [(.slice a82 l83 c84), (.int .i64 n124)] H115 fun v125 H126 => ∃ t127 : Bool, v125 = (.bool t127) ∧ (
                                                            ((((t127 = false) → (
                                                            R (.bool false) H126)) ∧ (¬ (t127 = false) → (
                                                            ((((n101 : Int) = 0) → (
                                                            ∃ n128 : Int, hcell H126 b113 (0 + 1) = some (.int .i64 n128) ∧ (
                                                            ((((n128 : Int) ≠ 0) → (
                                                            R (.bool false) H126)) ∧ (¬ ((n128 : Int) ≠ 0) → (
                                                            ((((0 : Int) < n101) → (
                                                            ∃ n129 : Int, hcell H126 b113 (0 + 1) = some (.int .i64 n129) ∧ (
                                                            (In64 (n101 - 1)) ∧
                                                            (0 : Int) ≤ (n101 - 1) ∧ ((n101 - 1) : Int) < (l67 : Int) ∧ ∃ b130 o131 : Nat, a66 = some (⟨b130, o131, none⟩ : Addr) ∧ (
                                                            ∃ n132 : Int, hcell H126 b130 (o131 + (Int.toNat (n101 - 1))) = some (.int .i64 n132) ∧ (
                                                            ((((n129 : Int) ≠ n132) → (
                                                            R (.bool false) H126)) ∧ (¬ ((n129 : Int) ≠ n132) → (
                                                            (In64 (n101 + 1)) ∧
                                                            (I99 (n101 + 1) H126) ∧ μ100 (n101 + 1) H126 < μ100 n101 H102)))))))) ∧ (¬ ((0 : Int) < n101) → (
                                                            (In64 (n101 + 1)) ∧
                                                            (I99 (n101 + 1) H126) ∧ μ100 (n101 + 1) H126 < μ100 n101 H102))))))))) ∧ (¬ ((n101 : Int) = 0) → (
                                                            ((((0 : Int) < n101) → (
                                                            ∃ n133 : Int, hcell H126 b113 (0 + 1) = some (.int .i64 n133) ∧ (
                                                            (In64 (n101 - 1)) ∧
                                                            (0 : Int) ≤ (n101 - 1) ∧ ((n101 - 1) : Int) < (l67 : Int) ∧ ∃ b134 o135 : Nat, a66 = some (⟨b134, o135, none⟩ : Addr) ∧ (
                                                            ∃ n136 : Int, hcell H126 b134 (o135 + (Int.toNat (n101 - 1))) = some (.int .i64 n136) ∧ (
                                                            ((((n133 : Int) ≠ n136) → (
                                                            R (.bool false) H126)) ∧ (¬ ((n133 : Int) ≠ n136) → (
                                                            (In64 (n101 + 1)) ∧
                                                            (I99 (n101 + 1) H126) ∧ μ100 (n101 + 1) H126 < μ100 n101 H102)))))))) ∧ (¬ ((0 : Int) < n101) → (
                                                            (In64 (n101 + 1)) ∧
                                                            (I99 (n101 + 1) H126) ∧ μ100 (n101 + 1) H126 < μ100 n101 H102)))))))))))))))))))))))))))))) ∧ (¬ ((n101 : Int) < (l67 : Int)) → (
                                                            (In64 (n59 + 1)) ∧
                                                            (I57 (n59 + 1) H102) ∧ μ58 (n59 + 1) H102 < μ58 n59 H60)))))))))))))))))))))))))))))))))) ∧ (¬ ((n59 : Int) < (l46 : Int)) → (
                                              R (.bool true) H60))))))))))))))))))))))) := by kernel_rfl


end Go.Proofs
end

