/-
  The contracts of the journal's functions, second part. No condition.
-/
import Derived.Test.YtmijngnbbpilmaaGreatJnA
import Derived.Test.YtmijngnbbpilmaaGreatProg
import Derived.Test.YtmijngnbbpilmaaGreatVd
import Derived.Shelf.SlIterI.Nil
import Derived.Shelf.SortM.Plain
import Derived.Shelf.SortM.SortNone
import Derived.Ground.GgzProg
import Derived.Ground.SlgmProg

section
open Go Go.Vc
namespace Go.Proofs

def restB (blocks : List Octs) : Octs := (blocks.map (·.drop 12)).flatten
def wholeB (h : Hd) (blocks : List Octs) (homes : Int) : List Wr × Int :=
  match blocks with
  | [] => ([], 0)
  | b0 :: _ =>
    if (blocks.length : Int) < numU (rdU (b0, false) 10).2 2 then ([], 0)
    else if mayB (writesM (restB (blocks.take (numU (rdU (b0, false) 10).2 2).toNat))) homes = true ∧ laidB h (writesM (restB (blocks.take (numU (rdU (b0, false) 10).2 2).toNat))) = blocks.take (numU (rdU (b0, false) 10).2 2).toNat
      then (writesM (restB (blocks.take (numU (rdU (b0, false) 10).2 2).toNat)), numU (rdU (b0, false) 10).2 2) else ([], 0)

theorem restB_len {l : List Octs} (h : ∀ x ∈ l, x.length = 128) : (restB l).length = l.length * 116 := by
  unfold restB
  induction l with
  | nil => rfl
  | cons x r ih =>
    have := h x (by simp)
    simp only [List.map_cons, List.flatten_cons, List.length_append, List.length_drop, List.length_cons, ih (fun y hy => h y (by simp [hy])), this]
    omega
theorem restB_snoc (l : List Octs) (x : Octs) : restB (l ++ [x]) = restB l ++ x.drop 12 := by unfold restB; simp

theorem parseW_length : ∀ (n : Nat) (s : Octs × Bool), (parseW n s).length ≤ n
  | 0, _ => by simp [parseW]
  | n + 1, s => by
    rw [parseW]
    split
    · simp
    · have := parseW_length n (rdU (rdU s 4).2 128).2
      simp only [List.length_cons]; omega
theorem cnt_few {l : List Wr} (h : l.length ≤ 5000) : cntN l ≤ 1000000 := by
  rcases Nat.eq_zero_or_pos l.length with h0 | h0
  · rw [cnt_zero' h0]; omega
  · have := cnt_len h0; omega

set_option maxHeartbeats 1000000 in
theorem whole_ok (h : Hd) {blocks : List Octs} (homes : Int) {a : Option Addr} {c : Nat} {H : Heap} (hb : ∀ x ∈ blocks, x.length = 128) (hl : blocks.length ≤ 100000) (hc : blocks.length ≤ c) (hh : homes ≤ 5000) (hs : SeqV bytesC H a blocks) :
    Does Tryz.prog 81 [h.v, .slice a blocks.length c, .int .i64 homes] H fun v H' => ∃ a' c', v = .tuple #[.slice a' (wholeB h blocks homes).1.length c', .int .i64 (wholeB h blocks homes).2] ∧ MySeq writeE H.size H' a' (wholeB h blocks homes).1.length c' (wholeB h blocks homes).1 ∧ Ext [] H H' := by
  refine Fn_of_vc Tryz.mixed (vc_whole _ _ _ _ _ _ _ _ _) ?_
  intro b1 H2 hn2
  have e1 := hn2.eq
  have hs2 := hn2.size
  have hb2 : Blk H2 b1 h.cells := hn2.blk
  have none' : ∀ {H' : Heap}, wholeB h blocks homes = ([], 0) → Ext [] H H' → ∃ a' c', Value.tuple #[.slice none 0 0, .int .i64 0] = .tuple #[.slice a' (wholeB h blocks homes).1.length c', .int .i64 (wholeB h blocks homes).2] ∧ MySeq writeE H.size H' a' (wholeB h blocks homes).1.length c' (wholeB h blocks homes).1 ∧ Ext [] H H' := by
    intro H' e he
    rw [e]
    exact ⟨none, 0, rfl, MySeq.nil _ _ _, he⟩
  refine ⟨fun e0 => none' (by have : blocks = [] := List.length_eq_zero_iff.1 (by omega)
                              rw [this]; rfl) hn2.ext, fun e0 => ?_⟩
  obtain ⟨b0, hb0⟩ : ∃ b0, blocks[0]? = some b0 := ⟨_, List.getElem?_eq_getElem (by omega)⟩
  have hb0l := hb b0 (List.mem_of_getElem? hb0)
  have hcons : ∃ r, blocks = b0 :: r := by
    cases blocks with
    | nil => simp at hb0
    | cons x r => simp at hb0; subst hb0; exact ⟨r, rfl⟩
  have hw : wholeB h blocks homes = (if (blocks.length : Int) < numU (rdU (b0, false) 10).2 2 then ([], 0)
    else if mayB (writesM (restB (blocks.take (numU (rdU (b0, false) 10).2 2).toNat))) homes = true ∧ laidB h (writesM (restB (blocks.take (numU (rdU (b0, false) 10).2 2).toNat))) = blocks.take (numU (rdU (b0, false) 10).2 2).toNat
      then (writesM (restB (blocks.take (numU (rdU (b0, false) 10).2 2).toNat)), numU (rdU (b0, false) 10).2 2) else ([], 0)) := by
    obtain ⟨r, rfl⟩ := hcons
    rfl
  obtain ⟨b3, o4, a5, c7, ea, d0, dc, dr, _⟩ := (hs.ext hn2.ext).blk hb0
  refine ⟨by omega, by omega, b3, o4, ea, a5, _, c7, by simpa using d0, (nrB_ok (by omega) dr).mono ?_⟩
  rintro _ H9 ⟨p, rfl, hr9, hx9⟩
  refine ⟨_, rfl, (rawB_ok (n := 10) (by decide) hr9).mono ?_⟩
  rintro _ H12 ⟨a13, c15, rfl, _, hr12, hx12, _⟩
  refine ⟨_, _, _, rfl, (ruB_ok (n := 2) (.inl ⟨rfl, rfl⟩) hr12).mono ?_⟩
  rintro _ H17 ⟨rfl, _, hx17⟩
  have hx217 : Ext [] H2 H17 := hx9.transP (hx12.trans hx17) (fun i hi => hi)
  have hX17 : Ext [] H H17 := hn2.ext.trans hx217
  obtain ⟨c0, c1⟩ := numU_lt2 (rdU (b0, false) 10).2
  have hb17 := hb2.ext hx217 (by simp)
  generalize numU (rdU (b0, false) 10).2 2 = cnt at *
  refine ⟨_, rfl, fun e => none' (by rw [hw, if_pos e]) hX17, fun e => ⟨c0, by omega, ?_⟩⟩
  rw [if_neg e] at hw
  obtain ⟨m, rfl⟩ : ∃ m : Nat, cnt = m := ⟨cnt.toNat, by omega⟩
  rw [Int.toNat_natCast] at hw ⊢
  have hml : m ≤ blocks.length := by omega
  have hs17 := hs.ext hX17
  refine ⟨fun a21 l22 c23 n H' => ∃ j : Nat, n = j ∧ j ≤ m ∧ (restB (blocks.take j)).length = l22 ∧ Own H' 1 a21 l22 c23 (bytesV (restB (blocks.take j))) ∧ (∀ k ∈ blkOf a21, H17.size ≤ k) ∧ Ext [] H H' ∧ Ext [] H17 H', fun _ _ _ n _ => m - n.toNat,
    ⟨0, rfl, by omega, rfl, Own.nil _ _, by simp [blkOf], hX17, Ext.refl _ _⟩, ?_⟩
  rintro a21 l22 c23 _ H25 ⟨j, rfl, hj, el, ho25, hfr25, hx25, hx1725⟩
  have hlen : (restB (blocks.take j)).length = j * 116 := by
    rw [restB_len (fun x hx => hb x (List.mem_of_mem_take hx)), List.length_take]
    congr 1; omega
  refine ⟨fun hlt => ?_, fun hge => ?_⟩
  · have hi : blocks[j]? = some blocks[j] := List.getElem?_eq_getElem (by omega)
    have htk : blocks.take (j + 1) = blocks.take j ++ [blocks[j]] := by rw [List.take_add_one, hi]; rfl
    have hx128 := hb blocks[j] (List.getElem_mem _)
    obtain ⟨b26, o27, a28, c30, e26, f0, fc, fr, _⟩ := (hs.ext hx25).blk hi
    generalize blocks[j] = x at *
    refine ⟨by omega, hlt, b26, o27, e26, a28, _, c30, by rw [Int.toNat_natCast]; exact f0, by omega, by omega, ?_⟩
    rintro _ rfl
    have r1 := SRow.drop1 (l' := x.length - 12) (c' := c30 - 12) fr (k := 12) (by omega) fc
    have e12 : Int.toNat 12 = 12 := rfl
    rw [e12]
    have ed : bytesV (x.drop 12) = (bytesV x).drop 12 := by simp [bytesV]
    refine ⟨bytesV (restB (blocks.take j)), bytesV (x.drop 12), ho25.row _ _, by rw [ed]; exact r1, bytesV_one _, by omega, fun hle => ho25.room (n := x.length - 12) hle, fun a34 c35 H36 happ => ?_⟩
    obtain ⟨ho36, hx36, hfr36⟩ := happ.own ho25 (ho25.row _ _) (by rw [bytesV_length, List.length_drop]; omega) rfl
    have hX36 := ext_new hx25 hx36 (fun k hk => by have := hfr25 k hk; have := hX17.size; omega)
    refine ⟨⟨by omega, by omega⟩, ⟨j + 1, by omega, by omega, by rw [htk, restB_snoc, List.length_append, List.length_drop]; omega, by rw [htk, restB_snoc, bytesV_append]; exact ho36, fun k hk => ?_, hX36, ?_⟩, by simp only []; omega⟩
    · rcases hfr36 k hk with h' | h'
      · exact hfr25 k h'
      · have := hx1725.size; omega
    · exact ext_new hx1725 hx36 hfr25
  · have : j = m := by omega
    subst this
    subst el
    refine (writes_ok (by omega) (ho25.row _ _)).mono ?_
    rintro _ H38 ⟨a39, c41, rfl, hm38, hx38⟩
    have hwl : (writesM (restB (blocks.take j))).length ≤ 9000000000000 := by
      have := parseW_length (numU (restB (blocks.take j), false) 2).toNat (rdU (restB (blocks.take j), false) 2).2
      have := numU_lt2 (restB (blocks.take j), false)
      unfold writesM; omega
    generalize writesM (restB (blocks.take j)) = l at *
    refine ⟨_, _, _, rfl, (may_ok homes hwl hm38.view).mono ?_⟩
    rintro _ H43 ⟨rfl, hx43⟩
    have hX43 := (hx25.trans hx38).trans hx43
    refine ⟨_, rfl, fun ef => none' (by rw [hw, if_neg (fun hh => by rw [hh.1] at ef; cases ef)]) hX43, fun ef => ?_⟩
    have hmay : mayB l homes = true := by simpa using ef
    have hP : MayP l homes := of_decide_eq_true hmay
    have hb43 : Blk H43 b1 h.cells := ((hb17.ext hx1725 (by simp)).ext hx38 (by simp)).ext hx43 (by simp)
    have hm43 := hm38.ext hx43
    refine ⟨h.epoch, by rw [hb43.cell]; rfl, h.seq, by rw [hb43.cell]; rfl, h.size, by rw [hb43.cell]; rfl, by omega, by omega, (laid_ok h (hP.few (n := 5000) (by omega)) hP.full hm43.view).mono ?_⟩
    rintro _ H49 ⟨a50, c52, rfl, hm49, hx49⟩
    have hX49 := hX43.trans hx49
    have htl : (blocks.take j).length = j := by rw [List.length_take]; omega
    have heq := eqfunc_ok (xs := laidB h l) (ys := blocks.take j) (a := a50) (a' := a) (c := c52) (c' := c) (H := H49) (by rw [laidB_len]; exact cnt_few (hP.few (n := 5000) (by omega))) (fun x hx => by
      obtain ⟨k, hk, rfl⟩ := List.mem_map.1 hx
      rw [jblk_len hP.full (by simpa using hk)]; decide) hm49.view ((hs.ext hX49).take1 j)
    rw [laidB_len, htl] at heq
    refine ⟨_, _, _, rfl, heq.mono ?_⟩
    rintro _ _ ⟨rfl, rfl⟩
    refine ⟨_, rfl, fun en => none' (by rw [hw, if_neg (fun hh => by simp [hh.2] at en)]) hX49, fun en => ?_⟩
    have hq : laidB h l = blocks.take j := by simpa using en
    rw [hw, if_pos ⟨hmay, hq⟩]
    exact ⟨a39, c41, rfl, (hm43.ext hx49).low (by have := hx25.size; omega), hX49⟩
end Go.Proofs
end

section
open Go Go.Vc
namespace Go.Proofs
set_option maxRecDepth 100000
/-- maps.Keys[map[int][]byte,int,[]byte] -/
theorem vc_keys (x0 : Option Nat) (H : Heap) (R : Value → Heap → Prop) : Walk Tryz.prog 87 [] [(.map x0)] H R = (
  ∀ b1 : Nat, ∀ H2 : Heap, New H b1 [(.map x0)] 79 H2 → (
    R (.func (.func 99) #[] #[(.pointer (some (⟨b1, 0, none⟩ : Addr)))]) H2)) := by kernel_rfl


/-- (*pentimento/journal.Journal).goHome -/
theorem vc_gohome (pb0 : Nat) (H : Heap) (R : Value → Heap → Prop) : Walk Tryz.prog 70 [] [(.pointer (some (⟨pb0, 0, none⟩ : Addr)))] H R = (
  ∃ b1 o2 : Nat, (some (⟨pb0, 0, none⟩ : Addr)) = some (⟨b1, o2, none⟩ : Addr) ∧ (
    ∃ m3 : Option Nat, hcell H b1 (o2 + 5) = some (.map m3) ∧ (
      Does Tryz.prog 87 [(.map m3)] H fun v4 H5 => ∃ v6 : Value, v4 = v6 ∧ (
        Does Tryz.prog 86 [v6] H5 fun v7 H8 => ∃ a9 : Option Addr, ∃ l10 : Nat, ∃ c11 : Nat, v7 = (.slice a9 l10 c11) ∧ (
          ∃ I12 : Int → Heap → Prop, ∃ μ13 : Int → Heap → Nat, (I12 0 H8) ∧
          ∀ n14 : Int, ∀ H15 : Heap, I12 n14 H15 → (
            ((((n14 : Int) < (l10 : Int)) → (
                  (0 : Int) ≤ n14 ∧ (n14 : Int) < (l10 : Int) ∧ ∃ b16 o17 : Nat, a9 = some (⟨b16, o17, none⟩ : Addr) ∧ (
                    ∃ n18 : Int, hcell H15 b16 (o17 + (Int.toNat n14)) = some (.int .i64 n18) ∧ (
                      ∃ b19 o20 : Nat, (some (⟨pb0, 0, none⟩ : Addr)) = some (⟨b19, o20, none⟩ : Addr) ∧ (
                        ∃ p21 : Option Addr, hcell H15 b19 o20 = some (.pointer p21) ∧ (
                          ∃ b22 o23 : Nat, (some (⟨pb0, 0, none⟩ : Addr)) = some (⟨b22, o23, none⟩ : Addr) ∧ (
                            ∃ n24 : Int, hcell H15 b22 ((o23 + 1) + 2) = some (.int .i64 n24) ∧ (
                              (In64 (1 + n24)) ∧
                              (In64 ((1 + n24) + n18)) ∧
                              ∃ b25 o26 : Nat, (some (⟨pb0, 0, none⟩ : Addr)) = some (⟨b25, o26, none⟩ : Addr) ∧ (
                                ∃ m27 : Option Nat, hcell H15 b25 (o26 + 5) = some (.map m27) ∧ (
                                  ∃ r28 : Nat, ∃ l29 : List (Int × Value), m27 = some r28 ∧ MapIs H15 r28 l29 ∧ ∃ a30 : Option Addr, ∃ l31 : Nat, ∃ c32 : Nat, (.slice a30 l31 c32) = mapGet l29 n18 (.slice none 0 0) ∧ (
                                    Does Tryz.prog 49 [(.pointer p21), (.int .i64 ((1 + n24) + n18)), (.slice a30 l31 c32)] H15 fun v33 H34 => ∃ n35 : Int, v33 = (.int .i64 n35) ∧ (
                                      (((((n35 : Int) ≠ 0) → (
                                              R (.int .i64 n35) H34)) ∧ (¬ ((n35 : Int) ≠ 0) → (
                                              (In64 (n14 + 1)) ∧
                                              (I12 (n14 + 1) H34) ∧ μ13 (n14 + 1) H34 < μ13 n14 H15)))))))))))))))) ∧ (¬ ((n14 : Int) < (l10 : Int)) → (
                  ∃ b36 o37 : Nat, (some (⟨pb0, 0, none⟩ : Addr)) = some (⟨b36, o37, none⟩ : Addr) ∧ (
                    ∃ p38 : Option Addr, hcell H15 b36 o37 = some (.pointer p38) ∧ (
                      Does Tryz.prog 42 [(.pointer p38)] H15 fun v39 H40 => ∃ n41 : Int, v39 = (.int .i64 n41) ∧ (
                        R (.int .i64 n41) H40)))))))))))) := by kernel_rfl


/-- (*pentimento/journal.Journal).begin -/
theorem vc_begin (pb0 : Nat) (x1_0 : Int) (x1_1 : Int) (x1_2 : Int) (H : Heap) (R : Value → Heap → Prop) : Walk Tryz.prog 71 [] [(.pointer (some (⟨pb0, 0, none⟩ : Addr))), (.agg #[(.int .i64 x1_0), (.int .i64 x1_1), (.int .i64 x1_2)])] H R = (
  ∀ b1 : Nat, ∀ H2 : Heap, New H b1 [(.int .i64 x1_0), (.int .i64 x1_1), (.int .i64 x1_2)] 78 H2 → (
    ∃ b3 o4 : Nat, (some (⟨pb0, 0, none⟩ : Addr)) = some (⟨b3, o4, none⟩ : Addr) ∧ (
      ∃ p5 : Option Addr, hcell H2 b3 o4 = some (.pointer p5) ∧ (
        ∃ n6 : Int, hcell H2 b1 0 = some (.int .i64 n6) ∧ (
          ∃ n7 : Int, hcell H2 b1 (0 + 1) = some (.int .i64 n7) ∧ (
            ∃ n8 : Int, hcell H2 b1 ((0 + 1) + 1) = some (.int .i64 n8) ∧ (
              Does Tryz.prog 50 [(.agg #[(.int .i64 n6), (.int .i64 n7), (.int .i64 n8)])] H2 fun v9 H10 => ∃ a11 : Option Addr, ∃ l12 : Nat, ∃ c13 : Nat, v9 = (.slice a11 l12 c13) ∧ (
                isL H10 b3 o4 [(.pointer p5)] ∧ (Does Tryz.prog 49 [(.pointer p5), (.int .i64 0), (.slice a11 l12 c13)] H10 fun v14 H15 => ∃ n16 : Int, v14 = (.int .i64 n16) ∧ (
                    (((((n16 : Int) ≠ 0) → (
                            R (.int .i64 n16) H15)) ∧ (¬ ((n16 : Int) ≠ 0) → (
                            ∃ b17 o18 : Nat, (some (⟨pb0, 0, none⟩ : Addr)) = some (⟨b17, o18, none⟩ : Addr) ∧ (
                              ∃ p19 : Option Addr, hcell H15 b17 o18 = some (.pointer p19) ∧ (
                                Does Tryz.prog 42 [(.pointer p19)] H15 fun v20 H21 => ∃ n22 : Int, v20 = (.int .i64 n22) ∧ (
                                  ((((n22 : Int) ≠ 0) → (
                                        R (.int .i64 n22) H21)) ∧ (¬ ((n22 : Int) ≠ 0) → (
                                        ∃ n23 : Int, hcell H21 b1 0 = some (.int .i64 n23) ∧ (
                                          ∃ n24 : Int, hcell H21 b1 (0 + 1) = some (.int .i64 n24) ∧ (
                                            ∃ n25 : Int, hcell H21 b1 ((0 + 1) + 1) = some (.int .i64 n25) ∧ (
                                              ∀ r26 : Nat, ∀ H27 : Heap, NewMap H21 r26 H27 → (
                                                ∃ b28 o29 : Nat, (some (⟨pb0, 0, none⟩ : Addr)) = some (⟨b28, o29, none⟩ : Addr) ∧ (
                                                  Cells H27 b28 (o29 + 1) 3 ∧ ∀ H30 : Heap, Puts H27 b28 (o29 + 1) [(.int .i64 n23), (.int .i64 n24), (.int .i64 n25)] H30 → (
                                                    ∃ b31 o32 : Nat, (some (⟨pb0, 0, none⟩ : Addr)) = some (⟨b31, o32, none⟩ : Addr) ∧ (
                                                      Cells H30 b31 (o32 + 4) 1 ∧ ∀ H33 : Heap, Puts H30 b31 (o32 + 4) [(.int .i64 0)] H33 → (
                                                        ∃ b34 o35 : Nat, (some (⟨pb0, 0, none⟩ : Addr)) = some (⟨b34, o35, none⟩ : Addr) ∧ (
                                                          Cells H33 b34 (o35 + 5) 1 ∧ ∀ H36 : Heap, Puts H33 b34 (o35 + 5) [(.map (some r26))] H36 → (
                                                            R (.int .i64 0) H36)))))))))))))))))))))))))))))) := by kernel_rfl


/-- (*pentimento/journal.Journal).recover -/
theorem vc_recover (pb0 : Nat) (H : Heap) (R : Value → Heap → Prop) : Walk Tryz.prog 52 [] [(.pointer (some (⟨pb0, 0, none⟩ : Addr)))] H R = (
  ∃ b1 o2 : Nat, (some (⟨pb0, 0, none⟩ : Addr)) = some (⟨b1, o2, none⟩ : Addr) ∧ (
    ∃ n3 : Int, hcell H b1 ((o2 + 1) + 2) = some (.int .i64 n3) ∧ (
      ∃ I4 : Option Addr → Nat → Nat → Int → Heap → Prop, ∃ μ5 : Option Addr → Nat → Nat → Int → Heap → Nat, (I4 none 0 0 0 H) ∧
      ∀ a6 : Option Addr, ∀ l7 : Nat, ∀ c8 : Nat, ∀ n9 : Int, ∀ H10 : Heap, I4 a6 l7 c8 n9 H10 → (
        ((((n9 : Int) < n3) → (
              ∃ b11 o12 : Nat, (some (⟨pb0, 0, none⟩ : Addr)) = some (⟨b11, o12, none⟩ : Addr) ∧ (
                ∃ p13 : Option Addr, hcell H10 b11 o12 = some (.pointer p13) ∧ (
                  (In64 (1 + n9)) ∧
                  Does Tryz.prog 61 [(.pointer p13), (.int .i64 (1 + n9))] H10 fun v14 H15 => ∃ a16 : Option Addr, ∃ l17 : Nat, ∃ c18 : Nat, ∃ n19 : Int, v14 = (.tuple #[(.slice a16 l17 c18), (.int .i64 n19)]) ∧ (
                    ((((n19 : Int) ≠ 0) → (
                          R (.int .i64 n19) H15)) ∧ (¬ ((n19 : Int) ≠ 0) → (
                          ∀ b20 : Nat, ∀ H21 : Heap, New H15 b20 [(.slice a16 l17 c18)] 37 H21 → (
                            ∃ old22 new23 : List Value, SRow H21 1 l7 (.slice a6 l7 c8) old22 ∧ SRow H21 1 1 (.slice (some (⟨b20, 0, none⟩ : Addr)) 1 1) new23 ∧ (∀ u ∈ new23, Value.oneCell' u = true) ∧ (l7 + 1) * 24 ≤ 140737488355328 ∧ (l7 + 1 ≤ c8 → roomOf H21 a6 (l7 * 1) (1 * 1)) ∧ ∀ a24 : Option Addr, ∀ c25 : Nat, ∀ H26 : Heap, App H21 1 37 [(.slice none 0 0)] a6 l7 c8 old22 new23 1 a24 c25 H26 → (
                              (In64 (n9 + 1)) ∧
                              (I4 a24 (l7 + 1) c25 (n9 + 1) H26) ∧ μ5 a24 (l7 + 1) c25 (n9 + 1) H26 < μ5 a6 l7 c8 n9 H10)))))))))) ∧ (¬ ((n9 : Int) < n3) → (
              ∃ I27 : Option Addr → Nat → Nat → Heap → Prop, ∃ μ28 : Option Addr → Nat → Nat → Heap → Nat, (I27 a6 l7 c8 H10) ∧
              ∀ a29 : Option Addr, ∀ l30 : Nat, ∀ c31 : Nat, ∀ H32 : Heap, I27 a29 l30 c31 H32 → (
                ∃ b33 o34 : Nat, (some (⟨pb0, 0, none⟩ : Addr)) = some (⟨b33, o34, none⟩ : Addr) ∧ (
                  ∃ n35 : Int, hcell H32 b33 (o34 + 1) = some (.int .i64 n35) ∧ (
                    ∃ n36 : Int, hcell H32 b33 ((o34 + 1) + 1) = some (.int .i64 n36) ∧ (
                      ∃ n37 : Int, hcell H32 b33 (((o34 + 1) + 1) + 1) = some (.int .i64 n37) ∧ (
                        Does Tryz.prog 31 [(.pointer (some (⟨pb0, 0, none⟩ : Addr)))] H32 fun v38 H39 => ∃ n40 : Int, v38 = (.int .i64 n40) ∧ (
                          isL H39 b33 (o34 + 1) [(.int .i64 n35), (.int .i64 n36), (.int .i64 n37)] ∧ (Does Tryz.prog 81 [(.agg #[(.int .i64 n35), (.int .i64 n36), (.int .i64 n37)]), (.slice a29 l30 c31), (.int .i64 n40)] H39 fun v41 H42 => ∃ a43 : Option Addr, ∃ l44 : Nat, ∃ c45 : Nat, ∃ n46 : Int, v41 = (.tuple #[(.slice a43 l44 c45), (.int .i64 n46)]) ∧ (
                              (((((n46 : Int) = 0) → (
                                      Does Tryz.prog 70 [(.pointer (some (⟨pb0, 0, none⟩ : Addr)))] H42 fun v47 H48 => ∃ n49 : Int, v47 = (.int .i64 n49) ∧ (
                                        ((((n49 : Int) ≠ 0) → (
                                              R (.int .i64 n49) H48)) ∧ (¬ ((n49 : Int) ≠ 0) → (
                                              ∃ b50 o51 : Nat, (some (⟨pb0, 0, none⟩ : Addr)) = some (⟨b50, o51, none⟩ : Addr) ∧ (
                                                ∃ n52 : Int, hcell H48 b50 (o51 + 1) = some (.int .i64 n52) ∧ (
                                                  (In64 (n52 + 1)) ∧
                                                  ∃ b53 o54 : Nat, (some (⟨pb0, 0, none⟩ : Addr)) = some (⟨b53, o54, none⟩ : Addr) ∧ (
                                                    ∃ n55 : Int, hcell H48 b53 ((o54 + 1) + 2) = some (.int .i64 n55) ∧ (
                                                      Does Tryz.prog 71 [(.pointer (some (⟨pb0, 0, none⟩ : Addr))), (.agg #[(.int .i64 (n52 + 1)), (.int .i64 1), (.int .i64 n55)])] H48 fun v56 H57 => ∃ n58 : Int, v56 = (.int .i64 n58) ∧ (
                                                        (R (.int .i64 n58) H57)))))))))))) ∧ (¬ ((n46 : Int) = 0) → (
                                      ∃ I59 : Int → Heap → Prop, ∃ μ60 : Int → Heap → Nat, (I59 0 H42) ∧
                                      ∀ n61 : Int, ∀ H62 : Heap, I59 n61 H62 → (
                                        ((((n61 : Int) < (l44 : Int)) → (
                                              (0 : Int) ≤ n61 ∧ (n61 : Int) < (l44 : Int) ∧ ∃ b63 o64 : Nat, a43 = some (⟨b63, o64, none⟩ : Addr) ∧ (
                                                ∃ n65 : Int, hcell H62 b63 (o64 + (Int.toNat n61) * 2) = some (.int .i64 n65) ∧ (
                                                  ∃ a66 : Option Addr, ∃ l67 : Nat, ∃ c68 : Nat, hcell H62 b63 ((o64 + (Int.toNat n61) * 2) + 1) = some (.slice a66 l67 c68) ∧ (
                                                    ∀ b69 : Nat, ∀ H70 : Heap, New H62 b69 [(.int .i64 0), (.slice none 0 0)] 62 H70 → (
                                                      Cells H70 b69 0 2 ∧ ∀ H71 : Heap, Puts H70 b69 0 [(.int .i64 n65), (.slice a66 l67 c68)] H71 → (
                                                        ∃ b72 o73 : Nat, (some (⟨pb0, 0, none⟩ : Addr)) = some (⟨b72, o73, none⟩ : Addr) ∧ (
                                                          ∃ m74 : Option Nat, hcell H71 b72 (o73 + 5) = some (.map m74) ∧ (
                                                            ∃ n75 : Int, hcell H71 b69 0 = some (.int .i64 n75) ∧ (
                                                            ∃ a76 : Option Addr, ∃ l77 : Nat, ∃ c78 : Nat, hcell H71 b69 (0 + 1) = some (.slice a76 l77 c78) ∧ (
                                                            ∃ r79 : Nat, ∃ l80 : List (Int × Value), m74 = some r79 ∧ MapIs H71 r79 l80 ∧ ∀ H81 : Heap, MapPut H71 r79 (mapSet l80 n75 (.slice a76 l77 c78)) H81 → (
                                                            ((In64 (n61 + 1)) ∧
                                                            (I59 (n61 + 1) H81) ∧ μ60 (n61 + 1) H81 < μ60 n61 H62))))))))))))) ∧ (¬ ((n61 : Int) < (l44 : Int)) → (
                                              (0 : Int) ≤ n46 ∧ (n46 : Int) ≤ (l30 : Int) ∧ ∀ a82 : Option Addr, a82 = (if c31 = (Int.toNat n46) then a29 else Option.map (fun x => Addr.add x ((Int.toNat n46) * 1)) a29) → (
                                                ∃ b83 o84 : Nat, (some (⟨pb0, 0, none⟩ : Addr)) = some (⟨b83, o84, none⟩ : Addr) ∧ (
                                                  ∃ n85 : Int, hcell H62 b83 ((o84 + 1) + 1) = some (.int .i64 n85) ∧ (
                                                    (In64 (n85 + 1)) ∧
                                                    ∃ b86 o87 : Nat, (some (⟨pb0, 0, none⟩ : Addr)) = some (⟨b86, o87, none⟩ : Addr) ∧ (
                                                      Cells H62 b86 ((o87 + 1) + 1) 1 ∧ ∀ H88 : Heap, Puts H62 b86 ((o87 + 1) + 1) [(.int .i64 (n85 + 1))] H88 → (
                                                        (I27 a82 (l30 - (Int.toNat n46)) (c31 - (Int.toNat n46)) H88) ∧ μ28 a82 (l30 - (Int.toNat n46)) (c31 - (Int.toNat n46)) H88 < μ28 a29 l30 c31 H32)))))))))))))))))))))))))))) := by kernel_rfl


/-- pentimento/journal.Open -/
theorem vc_open (x0 : Option Addr) (H : Heap) (R : Value → Heap → Prop) : Walk Tryz.prog 18 [] [(.pointer x0)] H R = (
  ((((x0 : Option Addr) = none) → (
        R (.tuple #[(.pointer none), (.int .i64 1)]) H)) ∧ (¬ ((x0 : Option Addr) = none) → (
        Does Tryz.prog 51 [(.pointer x0)] H fun v1 H2 => ∃ n3 : Int, ∃ n4 : Int, ∃ n5 : Int, ∃ n6 : Int, v1 = (.tuple #[(.agg #[(.int .i64 n3), (.int .i64 n4), (.int .i64 n5)]), (.int .i64 n6)]) ∧ (
          ∀ b7 : Nat, ∀ H8 : Heap, New H2 b7 [(.int .i64 0), (.int .i64 0), (.int .i64 0)] 78 H8 → (
            Cells H8 b7 0 3 ∧ ∀ H9 : Heap, Puts H8 b7 0 [(.int .i64 n3), (.int .i64 n4), (.int .i64 n5)] H9 → (
              ((((n6 : Int) ≠ 0) → (
                    R (.tuple #[(.pointer none), (.int .i64 n6)]) H9)) ∧ (¬ ((n6 : Int) ≠ 0) → (
                    ∃ n10 : Int, hcell H9 b7 0 = some (.int .i64 n10) ∧ (
                      ∃ n11 : Int, hcell H9 b7 (0 + 1) = some (.int .i64 n11) ∧ (
                        ∃ n12 : Int, hcell H9 b7 ((0 + 1) + 1) = some (.int .i64 n12) ∧ (
                          ∀ r13 : Nat, ∀ H14 : Heap, NewMap H9 r13 H14 → (
                            ∀ b15 : Nat, ∀ H16 : Heap, New H14 b15 [(.pointer x0), (.int .i64 n10), (.int .i64 n11), (.int .i64 n12), (.int .i64 0), (.map (some r13)), (.bool false)] 81 H16 → (
                              Does Tryz.prog 52 [(.pointer (some (⟨b15, 0, none⟩ : Addr)))] H16 fun v17 H18 => ∃ n19 : Int, v17 = (.int .i64 n19) ∧ (
                                ((((n19 : Int) ≠ 0) → (
                                      R (.tuple #[(.pointer none), (.int .i64 n19)]) H18)) ∧ (¬ ((n19 : Int) ≠ 0) → (
                                      R (.tuple #[(.pointer (some (⟨b15, 0, none⟩ : Addr))), (.int .i64 0)]) H18))))))))))))))))))) := by kernel_rfl


/-- pentimento/journal.Format -/
theorem vc_format (x0 : Option Addr) (x1 : Int) (H : Heap) (R : Value → Heap → Prop) : Walk Tryz.prog 17 [] [(.pointer x0), (.int .i64 x1)] H R = (
  ((((x0 : Option Addr) = none) → (
        R (.int .i64 1) H)) ∧ (¬ ((x0 : Option Addr) = none) → (
        Does Tryz.prog 48 [(.pointer x0), (.int .i64 x1)] H fun v1 H2 => ∃ n3 : Int, v1 = (.int .i64 n3) ∧ (
          ((((n3 : Int) < 0) → (
                R (.int .i64 1) H2)) ∧ (¬ ((n3 : Int) < 0) → (
                ∃ I4 : Int → Heap → Prop, ∃ μ5 : Int → Heap → Nat, (I4 0 H2) ∧
                ∀ n6 : Int, ∀ H7 : Heap, I4 n6 H7 → (
                  ((((n6 : Int) < x1) → (
                        (In64 (1 + n6)) ∧
                        (0 : Int) ≤ 128 ∧ (128 : Int) ≤ 128 ∧ (1 : Int) * 128 ≤ 281474976710656 ∧ ∀ b8 : Nat, ∀ H9 : Heap, New H7 b8 (List.replicate (Int.toNat 128) (.int .u8 0)) 5 H9 → (
                          Does Tryz.prog 49 [(.pointer x0), (.int .i64 (1 + n6)), (.slice (some (⟨b8, 0, none⟩ : Addr)) (Int.toNat 128) (Int.toNat 128))] H9 fun v10 H11 => ∃ n12 : Int, v10 = (.int .i64 n12) ∧ (
                            ((((n12 : Int) ≠ 0) → (
                                  R (.int .i64 n12) H11)) ∧ (¬ ((n12 : Int) ≠ 0) → (
                                  (In64 (n6 + 1)) ∧
                                  (I4 (n6 + 1) H11) ∧ μ5 (n6 + 1) H11 < μ5 n6 H7))))))) ∧ (¬ ((n6 : Int) < x1) → (
                        Does Tryz.prog 50 [(.agg #[(.int .i64 1), (.int .i64 1), (.int .i64 x1)])] H7 fun v13 H14 => ∃ a15 : Option Addr, ∃ l16 : Nat, ∃ c17 : Nat, v13 = (.slice a15 l16 c17) ∧ (
                          Does Tryz.prog 49 [(.pointer x0), (.int .i64 0), (.slice a15 l16 c17)] H14 fun v18 H19 => ∃ n20 : Int, v18 = (.int .i64 n20) ∧ (
                            ((((n20 : Int) ≠ 0) → (
                                  R (.int .i64 n20) H19)) ∧ (¬ ((n20 : Int) ≠ 0) → (
                                  Does Tryz.prog 42 [(.pointer x0)] H19 fun v21 H22 => ∃ n23 : Int, v21 = (.int .i64 n23) ∧ (
                                    R (.int .i64 n23) H22)))))))))))))))))) := by kernel_rfl


/-- (*pentimento/journal.Journal).Home -/
theorem vc_jhome (pb0 : Nat) (H : Heap) (R : Value → Heap → Prop) : Walk Tryz.prog 31 [] [(.pointer (some (⟨pb0, 0, none⟩ : Addr)))] H R = (
  ∃ b1 o2 : Nat, (some (⟨pb0, 0, none⟩ : Addr)) = some (⟨b1, o2, none⟩ : Addr) ∧ (
    ∃ p3 : Option Addr, hcell H b1 o2 = some (.pointer p3) ∧ (
      ∃ b4 o5 : Nat, (some (⟨pb0, 0, none⟩ : Addr)) = some (⟨b4, o5, none⟩ : Addr) ∧ (
        ∃ n6 : Int, hcell H b4 ((o5 + 1) + 2) = some (.int .i64 n6) ∧ (
          Does Tryz.prog 48 [(.pointer p3), (.int .i64 n6)] H fun v7 H8 => ∃ n9 : Int, v7 = (.int .i64 n9) ∧ (
            (R (.int .i64 n9) H8))))))) := by kernel_rfl


/-- (*pentimento/journal.Journal).Free -/
theorem vc_free (pb0 : Nat) (H : Heap) (R : Value → Heap → Prop) : Walk Tryz.prog 32 [] [(.pointer (some (⟨pb0, 0, none⟩ : Addr)))] H R = (
  ∃ b1 o2 : Nat, (some (⟨pb0, 0, none⟩ : Addr)) = some (⟨b1, o2, none⟩ : Addr) ∧ (
    ∃ n3 : Int, hcell H b1 ((o2 + 1) + 2) = some (.int .i64 n3) ∧ (
      ∃ b4 o5 : Nat, (some (⟨pb0, 0, none⟩ : Addr)) = some (⟨b4, o5, none⟩ : Addr) ∧ (
        ∃ n6 : Int, hcell H b4 (o5 + 4) = some (.int .i64 n6) ∧ (
          (In64 (n3 - n6)) ∧
          R (.int .i64 (n3 - n6)) H))))) := by kernel_rfl


/-- (*pentimento/journal.Journal).Dead -/
theorem vc_jdead (pb0 : Nat) (H : Heap) (R : Value → Heap → Prop) : Walk Tryz.prog 58 [] [(.pointer (some (⟨pb0, 0, none⟩ : Addr)))] H R = (
  ∃ b1 o2 : Nat, (some (⟨pb0, 0, none⟩ : Addr)) = some (⟨b1, o2, none⟩ : Addr) ∧ (
    ∃ t3 : Bool, hcell H b1 (o2 + 6) = some (.bool t3) ∧ (
      R (.bool t3) H))) := by kernel_rfl


/-- (*pentimento/journal.Journal).ends -/
theorem vc_ends (pb0 : Nat) (x1 : Int) (H : Heap) (R : Value → Heap → Prop) : Walk Tryz.prog 41 [] [(.pointer (some (⟨pb0, 0, none⟩ : Addr))), (.int .i64 x1)] H R = (
  ∃ b1 o2 : Nat, (some (⟨pb0, 0, none⟩ : Addr)) = some (⟨b1, o2, none⟩ : Addr) ∧ (
    ∃ t3 : Bool, hcell H b1 (o2 + 6) = some (.bool t3) ∧ (
      ((t3 = true → (
            ∃ b4 o5 : Nat, (some (⟨pb0, 0, none⟩ : Addr)) = some (⟨b4, o5, none⟩ : Addr) ∧ (
              Cells H b4 (o5 + 6) 1 ∧ ∀ H6 : Heap, Puts H b4 (o5 + 6) [(.bool true)] H6 → (
                R (.int .i64 x1) H6)))) ∧ (t3 = false → (
            ∃ b7 o8 : Nat, (some (⟨pb0, 0, none⟩ : Addr)) = some (⟨b7, o8, none⟩ : Addr) ∧ (
              Cells H b7 (o8 + 6) 1 ∧ ∀ H9 : Heap, Puts H b7 (o8 + 6) [(.bool (@decide ((x1 : Int) = 4) (Classical.propDecidable _)))] H9 → (
                R (.int .i64 x1) H9)))))))) := by kernel_rfl


/-- (*pentimento/journal.Journal).Read -/
theorem vc_jread (pb0 : Nat) (x1 : Int) (H : Heap) (R : Value → Heap → Prop) : Walk Tryz.prog 26 [] [(.pointer (some (⟨pb0, 0, none⟩ : Addr))), (.int .i64 x1)] H R = (
  ((((x1 : Int) < 0) → (
        R (.tuple #[(.slice none 0 0), (.int .i64 1)]) H)) ∧ (¬ ((x1 : Int) < 0) → (
        Does Tryz.prog 31 [(.pointer (some (⟨pb0, 0, none⟩ : Addr)))] H fun v1 H2 => ∃ n3 : Int, v1 = (.int .i64 n3) ∧ (
          ((((n3 : Int) ≤ x1) → (
                R (.tuple #[(.slice none 0 0), (.int .i64 1)]) H2)) ∧ (¬ ((n3 : Int) ≤ x1) → (
                ∃ b4 o5 : Nat, (some (⟨pb0, 0, none⟩ : Addr)) = some (⟨b4, o5, none⟩ : Addr) ∧ (
                  ∃ t6 : Bool, hcell H2 b4 (o5 + 6) = some (.bool t6) ∧ (
                    ((t6 = true → (
                          R (.tuple #[(.slice none 0 0), (.int .i64 4)]) H2)) ∧ (t6 = false → (
                          ∃ b7 o8 : Nat, (some (⟨pb0, 0, none⟩ : Addr)) = some (⟨b7, o8, none⟩ : Addr) ∧ (
                            ∃ m9 : Option Nat, hcell H2 b7 (o8 + 5) = some (.map m9) ∧ (
                              ∃ r10 : Nat, ∃ l11 : List (Int × Value), m9 = some r10 ∧ MapIs H2 r10 l11 ∧ ∃ a12 : Option Addr, ∃ l13 : Nat, ∃ c14 : Nat, (.slice a12 l13 c14) = mapGet l11 x1 (.slice none 0 0) ∧ (
                                (((mapHas l11 x1) = true → (
                                      Does Tryz.prog 62 [(.slice a12 l13 c14)] H2 fun v15 H16 => ∃ a17 : Option Addr, ∃ l18 : Nat, ∃ c19 : Nat, v15 = (.slice a17 l18 c19) ∧ (
                                        R (.tuple #[(.slice a17 l18 c19), (.int .i64 0)]) H16))) ∧ ((mapHas l11 x1) = false → (
                                      ∃ b20 o21 : Nat, (some (⟨pb0, 0, none⟩ : Addr)) = some (⟨b20, o21, none⟩ : Addr) ∧ (
                                        ∃ p22 : Option Addr, hcell H2 b20 o21 = some (.pointer p22) ∧ (
                                          ∃ b23 o24 : Nat, (some (⟨pb0, 0, none⟩ : Addr)) = some (⟨b23, o24, none⟩ : Addr) ∧ (
                                            ∃ n25 : Int, hcell H2 b23 ((o24 + 1) + 2) = some (.int .i64 n25) ∧ (
                                              (In64 (1 + n25)) ∧
                                              (In64 ((1 + n25) + x1)) ∧
                                              Does Tryz.prog 61 [(.pointer p22), (.int .i64 ((1 + n25) + x1))] H2 fun v26 H27 => ∃ a28 : Option Addr, ∃ l29 : Nat, ∃ c30 : Nat, ∃ n31 : Int, v26 = (.tuple #[(.slice a28 l29 c30), (.int .i64 n31)]) ∧ (
                                                (Does Tryz.prog 41 [(.pointer (some (⟨pb0, 0, none⟩ : Addr))), (.int .i64 n31)] H27 fun v32 H33 => ∃ n34 : Int, v32 = (.int .i64 n34) ∧ (
                                                    R (.tuple #[(.slice a28 l29 c30), (.int .i64 n34)]) H33)))))))))))))))))))))))))) := by kernel_rfl


/-- (*pentimento/journal.Journal).lay -/
theorem vc_jlay (pb0 : Nat) (x1 : Option Addr) (x1l : Nat) (x1c : Nat) (H : Heap) (R : Value → Heap → Prop) : Walk Tryz.prog 54 [] [(.pointer (some (⟨pb0, 0, none⟩ : Addr))), (.slice x1 x1l x1c)] H R = (
  ∃ b1 o2 : Nat, (some (⟨pb0, 0, none⟩ : Addr)) = some (⟨b1, o2, none⟩ : Addr) ∧ (
    ∃ n3 : Int, hcell H b1 (o2 + 1) = some (.int .i64 n3) ∧ (
      ∃ n4 : Int, hcell H b1 ((o2 + 1) + 1) = some (.int .i64 n4) ∧ (
        ∃ n5 : Int, hcell H b1 (((o2 + 1) + 1) + 1) = some (.int .i64 n5) ∧ (
          Does Tryz.prog 82 [(.agg #[(.int .i64 n3), (.int .i64 n4), (.int .i64 n5)]), (.slice x1 x1l x1c)] H fun v6 H7 => ∃ a8 : Option Addr, ∃ l9 : Nat, ∃ c10 : Nat, v6 = (.slice a8 l9 c10) ∧ (
            ∃ I11 : Int → Heap → Prop, ∃ μ12 : Int → Heap → Nat, (I11 0 H7) ∧
            ∀ n13 : Int, ∀ H14 : Heap, I11 n13 H14 → (
              ((((n13 : Int) < (l9 : Int)) → (
                    (0 : Int) ≤ n13 ∧ (n13 : Int) < (l9 : Int) ∧ ∃ b15 o16 : Nat, a8 = some (⟨b15, o16, none⟩ : Addr) ∧ (
                      ∃ a17 : Option Addr, ∃ l18 : Nat, ∃ c19 : Nat, hcell H14 b15 (o16 + (Int.toNat n13)) = some (.slice a17 l18 c19) ∧ (
                        ∃ b20 o21 : Nat, (some (⟨pb0, 0, none⟩ : Addr)) = some (⟨b20, o21, none⟩ : Addr) ∧ (
                          ∃ p22 : Option Addr, hcell H14 b20 o21 = some (.pointer p22) ∧ (
                            ∃ b23 o24 : Nat, (some (⟨pb0, 0, none⟩ : Addr)) = some (⟨b23, o24, none⟩ : Addr) ∧ (
                              ∃ n25 : Int, hcell H14 b23 (o24 + 4) = some (.int .i64 n25) ∧ (
                                (In64 (1 + n25)) ∧
                                Does Tryz.prog 49 [(.pointer p22), (.int .i64 (1 + n25)), (.slice a17 l18 c19)] H14 fun v26 H27 => ∃ n28 : Int, v26 = (.int .i64 n28) ∧ (
                                  (((((n28 : Int) ≠ 0) → (
                                          R (.int .i64 n28) H27)) ∧ (¬ ((n28 : Int) ≠ 0) → (
                                          ∃ b29 o30 : Nat, (some (⟨pb0, 0, none⟩ : Addr)) = some (⟨b29, o30, none⟩ : Addr) ∧ (
                                            ∃ n31 : Int, hcell H27 b29 (o30 + 4) = some (.int .i64 n31) ∧ (
                                              (In64 (n31 + 1)) ∧
                                              ∃ b32 o33 : Nat, (some (⟨pb0, 0, none⟩ : Addr)) = some (⟨b32, o33, none⟩ : Addr) ∧ (
                                                Cells H27 b32 (o33 + 4) 1 ∧ ∀ H34 : Heap, Puts H27 b32 (o33 + 4) [(.int .i64 (n31 + 1))] H34 → (
                                                  (In64 (n13 + 1)) ∧
                                                  (I11 (n13 + 1) H34) ∧ μ12 (n13 + 1) H34 < μ12 n13 H14))))))))))))))))) ∧ (¬ ((n13 : Int) < (l9 : Int)) → (
                    ∃ I35 : Int → Heap → Prop, ∃ μ36 : Int → Heap → Nat, (I35 0 H14) ∧
                    ∀ n37 : Int, ∀ H38 : Heap, I35 n37 H38 → (
                      ((((n37 : Int) < (x1l : Int)) → (
                            (0 : Int) ≤ n37 ∧ (n37 : Int) < (x1l : Int) ∧ ∃ b39 o40 : Nat, x1 = some (⟨b39, o40, none⟩ : Addr) ∧ (
                              ∃ n41 : Int, hcell H38 b39 (o40 + (Int.toNat n37) * 2) = some (.int .i64 n41) ∧ (
                                ∃ a42 : Option Addr, ∃ l43 : Nat, ∃ c44 : Nat, hcell H38 b39 ((o40 + (Int.toNat n37) * 2) + 1) = some (.slice a42 l43 c44) ∧ (
                                  ∀ b45 : Nat, ∀ H46 : Heap, New H38 b45 [(.int .i64 0), (.slice none 0 0)] 62 H46 → (
                                    Cells H46 b45 0 2 ∧ ∀ H47 : Heap, Puts H46 b45 0 [(.int .i64 n41), (.slice a42 l43 c44)] H47 → (
                                      ∃ b48 o49 : Nat, (some (⟨pb0, 0, none⟩ : Addr)) = some (⟨b48, o49, none⟩ : Addr) ∧ (
                                        ∃ m50 : Option Nat, hcell H47 b48 (o49 + 5) = some (.map m50) ∧ (
                                          ∃ n51 : Int, hcell H47 b45 0 = some (.int .i64 n51) ∧ (
                                            ∃ a52 : Option Addr, ∃ l53 : Nat, ∃ c54 : Nat, hcell H47 b45 (0 + 1) = some (.slice a52 l53 c54) ∧ (
                                              Does Tryz.prog 62 [(.slice a52 l53 c54)] H47 fun v55 H56 => ∃ a57 : Option Addr, ∃ l58 : Nat, ∃ c59 : Nat, v55 = (.slice a57 l58 c59) ∧ (
                                                isL H56 b45 0 [(.int .i64 n51)] ∧ isL H56 b48 (o49 + 5) [(.map m50)] ∧ (∃ r60 : Nat, ∃ l61 : List (Int × Value), m50 = some r60 ∧ MapIs H56 r60 l61 ∧ ∀ H62 : Heap, MapPut H56 r60 (mapSet l61 n51 (.slice a57 l58 c59)) H62 → (
                                                    ((In64 (n37 + 1)) ∧
                                                      (I35 (n37 + 1) H62) ∧ μ36 (n37 + 1) H62 < μ36 n37 H38))))))))))))))) ∧ (¬ ((n37 : Int) < (x1l : Int)) → (
                            ∃ b63 o64 : Nat, (some (⟨pb0, 0, none⟩ : Addr)) = some (⟨b63, o64, none⟩ : Addr) ∧ (
                              ∃ n65 : Int, hcell H38 b63 ((o64 + 1) + 1) = some (.int .i64 n65) ∧ (
                                (In64 (n65 + 1)) ∧
                                ∃ b66 o67 : Nat, (some (⟨pb0, 0, none⟩ : Addr)) = some (⟨b66, o67, none⟩ : Addr) ∧ (
                                  Cells H38 b66 ((o67 + 1) + 1) 1 ∧ ∀ H68 : Heap, Puts H38 b66 ((o67 + 1) + 1) [(.int .i64 (n65 + 1))] H68 → (
                                    R (.int .i64 0) H68)))))))))))))))))) := by kernel_rfl


/-- (*pentimento/journal.Journal).Commit -/
theorem vc_commit (pb0 : Nat) (x1 : Option Addr) (x1l : Nat) (x1c : Nat) (H : Heap) (R : Value → Heap → Prop) : Walk Tryz.prog 23 [] [(.pointer (some (⟨pb0, 0, none⟩ : Addr))), (.slice x1 x1l x1c)] H R = (
  Does Tryz.prog 31 [(.pointer (some (⟨pb0, 0, none⟩ : Addr)))] H fun v1 H2 => ∃ n3 : Int, v1 = (.int .i64 n3) ∧ (
    Does Tryz.prog 53 [(.slice x1 x1l x1c), (.int .i64 n3)] H2 fun v4 H5 => ∃ t6 : Bool, v4 = (.bool t6) ∧ (
      (((t6 = false) → (
            R (.int .i64 1) H5)) ∧ (¬ (t6 = false) → (
            ∃ b7 o8 : Nat, (some (⟨pb0, 0, none⟩ : Addr)) = some (⟨b7, o8, none⟩ : Addr) ∧ (
              ∃ t9 : Bool, hcell H5 b7 (o8 + 6) = some (.bool t9) ∧ (
                ((t9 = true → (
                      R (.int .i64 4) H5)) ∧ (t9 = false → (
                      ∃ b10 o11 : Nat, (some (⟨pb0, 0, none⟩ : Addr)) = some (⟨b10, o11, none⟩ : Addr) ∧ (
                        ∃ n12 : Int, hcell H5 b10 ((o11 + 1) + 2) = some (.int .i64 n12) ∧ (
                          Does Tryz.prog 29 [(.int .i64 (x1l : Int))] H5 fun v13 H14 => ∃ n15 : Int, v13 = (.int .i64 n15) ∧ (
                            isL H14 b10 ((o11 + 1) + 2) [(.int .i64 n12)] ∧ (((((n12 : Int) < n15) → (
                                    R (.int .i64 5) H14)) ∧ (¬ ((n12 : Int) < n15) → (
                                    Does Tryz.prog 29 [(.int .i64 (x1l : Int))] H14 fun v16 H17 => ∃ n18 : Int, v16 = (.int .i64 n18) ∧ (
                                      Does Tryz.prog 32 [(.pointer (some (⟨pb0, 0, none⟩ : Addr)))] H17 fun v19 H20 => ∃ n21 : Int, v19 = (.int .i64 n21) ∧ (
                                        ((((n21 : Int) < n18) → (
                                              Does Tryz.prog 12 [(.pointer (some (⟨pb0, 0, none⟩ : Addr)))] H20 fun v22 H23 => ∃ n24 : Int, v22 = (.int .i64 n24) ∧ (
                                                ((((n24 : Int) ≠ 0) → (
                                                      R (.int .i64 n24) H23)) ∧ (¬ ((n24 : Int) ≠ 0) → (
                                                      Does Tryz.prog 54 [(.pointer (some (⟨pb0, 0, none⟩ : Addr))), (.slice x1 x1l x1c)] H23 fun v25 H26 => ∃ n27 : Int, v25 = (.int .i64 n27) ∧ (
                                                        Does Tryz.prog 41 [(.pointer (some (⟨pb0, 0, none⟩ : Addr))), (.int .i64 n27)] H26 fun v28 H29 => ∃ n30 : Int, v28 = (.int .i64 n30) ∧ (
                                                          R (.int .i64 n30) H29)))))))) ∧ (¬ ((n21 : Int) < n18) → (
                                              Does Tryz.prog 54 [(.pointer (some (⟨pb0, 0, none⟩ : Addr))), (.slice x1 x1l x1c)] H20 fun v31 H32 => ∃ n33 : Int, v31 = (.int .i64 n33) ∧ (
                                                Does Tryz.prog 41 [(.pointer (some (⟨pb0, 0, none⟩ : Addr))), (.int .i64 n33)] H32 fun v34 H35 => ∃ n36 : Int, v34 = (.int .i64 n36) ∧ (
                                                  R (.int .i64 n36) H35))))))))))))))))))))))))) := by kernel_rfl


/-- (*pentimento/journal.Journal).Sync -/
theorem vc_sync (pb0 : Nat) (H : Heap) (R : Value → Heap → Prop) : Walk Tryz.prog 10 [] [(.pointer (some (⟨pb0, 0, none⟩ : Addr)))] H R = (
  ∃ b1 o2 : Nat, (some (⟨pb0, 0, none⟩ : Addr)) = some (⟨b1, o2, none⟩ : Addr) ∧ (
    ∃ t3 : Bool, hcell H b1 (o2 + 6) = some (.bool t3) ∧ (
      ((t3 = true → (
            R (.int .i64 4) H)) ∧ (t3 = false → (
            ∃ b4 o5 : Nat, (some (⟨pb0, 0, none⟩ : Addr)) = some (⟨b4, o5, none⟩ : Addr) ∧ (
              ∃ p6 : Option Addr, hcell H b4 o5 = some (.pointer p6) ∧ (
                Does Tryz.prog 42 [(.pointer p6)] H fun v7 H8 => ∃ n9 : Int, v7 = (.int .i64 n9) ∧ (
                  Does Tryz.prog 41 [(.pointer (some (⟨pb0, 0, none⟩ : Addr))), (.int .i64 n9)] H8 fun v10 H11 => ∃ n12 : Int, v10 = (.int .i64 n12) ∧ (
                    R (.int .i64 n12) H11)))))))))) := by kernel_rfl


/-- (*pentimento/journal.Journal).checkpoint -/
theorem vc_ckpt (pb0 : Nat) (H : Heap) (R : Value → Heap → Prop) : Walk Tryz.prog 44 [] [(.pointer (some (⟨pb0, 0, none⟩ : Addr)))] H R = (
  ∃ b1 o2 : Nat, (some (⟨pb0, 0, none⟩ : Addr)) = some (⟨b1, o2, none⟩ : Addr) ∧ (
    ∃ p3 : Option Addr, hcell H b1 o2 = some (.pointer p3) ∧ (
      Does Tryz.prog 42 [(.pointer p3)] H fun v4 H5 => ∃ n6 : Int, v4 = (.int .i64 n6) ∧ (
        ((((n6 : Int) ≠ 0) → (
              R (.int .i64 n6) H5)) ∧ (¬ ((n6 : Int) ≠ 0) → (
              Does Tryz.prog 70 [(.pointer (some (⟨pb0, 0, none⟩ : Addr)))] H5 fun v7 H8 => ∃ n9 : Int, v7 = (.int .i64 n9) ∧ (
                ((((n9 : Int) ≠ 0) → (
                      R (.int .i64 n9) H8)) ∧ (¬ ((n9 : Int) ≠ 0) → (
                      ∃ b10 o11 : Nat, (some (⟨pb0, 0, none⟩ : Addr)) = some (⟨b10, o11, none⟩ : Addr) ∧ (
                        ∃ n12 : Int, hcell H8 b10 (o11 + 1) = some (.int .i64 n12) ∧ (
                          ∃ n13 : Int, hcell H8 b10 ((o11 + 1) + 1) = some (.int .i64 n13) ∧ (
                            ∃ n14 : Int, hcell H8 b10 (((o11 + 1) + 1) + 1) = some (.int .i64 n14) ∧ (
                              Does Tryz.prog 71 [(.pointer (some (⟨pb0, 0, none⟩ : Addr))), (.agg #[(.int .i64 n12), (.int .i64 n13), (.int .i64 n14)])] H8 fun v15 H16 => ∃ n17 : Int, v15 = (.int .i64 n17) ∧ (
                                R (.int .i64 n17) H16)))))))))))))))) := by kernel_rfl


/-- (*pentimento/journal.Journal).Checkpoint -/
theorem vc_checkpoint (pb0 : Nat) (H : Heap) (R : Value → Heap → Prop) : Walk Tryz.prog 12 [] [(.pointer (some (⟨pb0, 0, none⟩ : Addr)))] H R = (
  ∃ b1 o2 : Nat, (some (⟨pb0, 0, none⟩ : Addr)) = some (⟨b1, o2, none⟩ : Addr) ∧ (
    ∃ t3 : Bool, hcell H b1 (o2 + 6) = some (.bool t3) ∧ (
      ((t3 = true → (
            R (.int .i64 4) H)) ∧ (t3 = false → (
            Does Tryz.prog 44 [(.pointer (some (⟨pb0, 0, none⟩ : Addr)))] H fun v4 H5 => ∃ n6 : Int, v4 = (.int .i64 n6) ∧ (
              Does Tryz.prog 41 [(.pointer (some (⟨pb0, 0, none⟩ : Addr))), (.int .i64 n6)] H5 fun v7 H8 => ∃ n9 : Int, v7 = (.int .i64 n9) ∧ (
                R (.int .i64 n9) H8)))))))) := by kernel_rfl


end Go.Proofs
end

section
open Go Go.Vc
namespace Go.Proofs
section
open Go.Shelf
def Tryz.keysA_ren : Go.Shelf.Ren := ⟨fun | 7 => 87 | 10 => 99 | n => n, fun | 23 => 79 | 26 => 3 | 3 => 37 | 28 => 122 | 0 => 0 | 27 => 121 | 33 => 107 | 4 => 4 | n => n, fun | n => n⟩
theorem Tryz.keysA : Go.Proofs.SlLaysZI.n7 Tryz.prog Tryz.keysA_ren := {
  mixed := by kernel_rfl
  f7 := ⟨Tryz.f87.name, by decide, Tryz.func87.trans (congrArg some (by kernel_rfl))⟩
  f10 := ⟨Tryz.f99.name, by decide, Tryz.func99.trans (congrArg some (by kernel_rfl))⟩
  t0 := Tryz.underlying0
  a0 := Tryz.isAgg0
  z0 := Tryz.sizeOf0
  v0 := Tryz.zeroValue0
  t4 := Tryz.underlying4
  a4 := Tryz.isAgg4
  z4 := Tryz.sizeOf4
  v4 := Tryz.zeroValue4
  t23 := Tryz.underlying79
  a23 := Tryz.isAgg79
  z23 := Tryz.sizeOf79
  v23 := Tryz.zeroValue79
  t26 := Tryz.underlying3
  a26 := Tryz.isAgg3
  z26 := Tryz.sizeOf3
  v26 := Tryz.zeroValue3
  t27 := Tryz.underlying121
  a27 := Tryz.isAgg121
  z27 := Tryz.sizeOf121
  v27 := Tryz.zeroValue121
  t28 := Tryz.underlying122
  a28 := Tryz.isAgg122
  z28 := Tryz.sizeOf122
  v28 := Tryz.zeroValue122
  t33 := Tryz.underlying107
  a33 := Tryz.isAgg107
  z33 := Tryz.sizeOf107
  v33 := Tryz.zeroValue107 }
def Tryz.sortedA_ren : Go.Shelf.Ren := ⟨fun | 6 => 86 | 8 => 97 | 9 => 98 | 11 => 101 | 13 => 103 | 12 => 102 | 23 => 113 | 24 => 114 | 14 => 104 | 15 => 105 | 16 => 106 | 17 => 107 | 18 => 108 | 19 => 109 | 20 => 110 | 21 => 111 | 22 => 112 | 25 => 115 | 26 => 116 | 27 => 117 | 28 => 118 | 29 => 119 | 30 => 120 | 31 => 121 | n => n, fun | 26 => 3 | 28 => 122 | 24 => 36 | 0 => 0 | 3 => 3 | 37 => 91 | 48 => 145 | 50 => 104 | 4 => 4 | 40 => 137 | 39 => 136 | 45 => 142 | 5 => 5 | 9 => 9 | 51 => 147 | 55 => 151 | 57 => 153 | 58 => 154 | 33 => 107 | n => n, fun | n => n⟩
theorem Tryz.sortedA : Go.Proofs.SlLaysZI.n6 Tryz.prog Tryz.sortedA_ren := {
  mixed := by kernel_rfl
  f6 := ⟨Tryz.f86.name, by decide, Tryz.func86.trans (congrArg some (by kernel_rfl))⟩
  f8 := ⟨Tryz.f97.name, by decide, Tryz.func97.trans (congrArg some (by kernel_rfl))⟩
  f11 := ⟨Tryz.f101.name, by decide, Tryz.func101.trans (congrArg some (by kernel_rfl))⟩
  t0 := Tryz.underlying0
  a0 := Tryz.isAgg0
  z0 := Tryz.sizeOf0
  v0 := Tryz.zeroValue0
  t24 := Tryz.underlying36
  a24 := Tryz.isAgg36
  z24 := Tryz.sizeOf36
  v24 := Tryz.zeroValue36
  t26 := Tryz.underlying3
  a26 := Tryz.isAgg3
  z26 := Tryz.sizeOf3
  v26 := Tryz.zeroValue3
  t28 := Tryz.underlying122
  a28 := Tryz.isAgg122
  z28 := Tryz.sizeOf122
  v28 := Tryz.zeroValue122
  i26 := by kernel_rfl }
def Tryz.sortA_ren : Go.Shelf.Ren := ⟨fun | 5 => 98 | 8 => 103 | 7 => 102 | 19 => 113 | 20 => 114 | 10 => 104 | 11 => 105 | 12 => 106 | 13 => 107 | 14 => 108 | 15 => 109 | 16 => 110 | 17 => 111 | 18 => 112 | 30 => 115 | 31 => 116 | 32 => 117 | 33 => 118 | 34 => 119 | 35 => 120 | 40 => 121 | n => n, fun | 23 => 36 | 25 => 3 | 3 => 3 | 32 => 91 | 22 => 36 | 0 => 0 | 44 => 145 | 46 => 104 | 4 => 4 | 36 => 137 | 35 => 136 | 41 => 142 | 5 => 5 | 9 => 9 | 53 => 147 | 57 => 151 | 63 => 153 | 64 => 154 | n => n, fun | n => n⟩
theorem Tryz.sortA : Go.Proofs.SlLaysM.n5 Tryz.prog Tryz.sortA_ren := {
  mixed := by kernel_rfl
  f5 := ⟨Tryz.f98.name, by decide, Tryz.func98.trans (congrArg some (by kernel_rfl))⟩
  f7 := ⟨Tryz.f102.name, by decide, Tryz.func102.trans (congrArg some (by kernel_rfl))⟩
  f8 := Tryz.func103.trans (congrArg some (by kernel_rfl))
  f10 := ⟨Tryz.f104.name, by decide, Tryz.func104.trans (congrArg some (by kernel_rfl))⟩
  f11 := ⟨Tryz.f105.name, by decide, Tryz.func105.trans (congrArg some (by kernel_rfl))⟩
  f12 := ⟨Tryz.f106.name, by decide, Tryz.func106.trans (congrArg some (by kernel_rfl))⟩
  f13 := ⟨Tryz.f107.name, by decide, Tryz.func107.trans (congrArg some (by kernel_rfl))⟩
  f14 := ⟨Tryz.f108.name, by decide, Tryz.func108.trans (congrArg some (by kernel_rfl))⟩
  f15 := ⟨Tryz.f109.name, by decide, Tryz.func109.trans (congrArg some (by kernel_rfl))⟩
  f16 := ⟨Tryz.f110.name, by decide, Tryz.func110.trans (congrArg some (by kernel_rfl))⟩
  f17 := ⟨Tryz.f111.name, by decide, Tryz.func111.trans (congrArg some (by kernel_rfl))⟩
  f18 := ⟨Tryz.f112.name, by decide, Tryz.func112.trans (congrArg some (by kernel_rfl))⟩
  f19 := Tryz.func113.trans (congrArg some (by kernel_rfl))
  f20 := Tryz.func114.trans (congrArg some (by kernel_rfl))
  f30 := ⟨Tryz.f115.name, by decide, Tryz.func115.trans (congrArg some (by kernel_rfl))⟩
  f31 := Tryz.func116.trans (congrArg some (by kernel_rfl))
  f32 := Tryz.func117.trans (congrArg some (by kernel_rfl))
  f33 := ⟨Tryz.f118.name, by decide, Tryz.func118.trans (congrArg some (by kernel_rfl))⟩
  f34 := ⟨Tryz.f119.name, by decide, Tryz.func119.trans (congrArg some (by kernel_rfl))⟩
  f35 := ⟨Tryz.f120.name, by decide, Tryz.func120.trans (congrArg some (by kernel_rfl))⟩
  f40 := ⟨Tryz.f121.name, by decide, Tryz.func121.trans (congrArg some (by kernel_rfl))⟩
  t0 := Tryz.underlying0
  a0 := Tryz.isAgg0
  z0 := Tryz.sizeOf0
  v0 := Tryz.zeroValue0
  t3 := Tryz.underlying3
  a3 := Tryz.isAgg3
  z3 := Tryz.sizeOf3
  v3 := Tryz.zeroValue3
  t4 := Tryz.underlying4
  a4 := Tryz.isAgg4
  z4 := Tryz.sizeOf4
  v4 := Tryz.zeroValue4
  t5 := Tryz.underlying5
  a5 := Tryz.isAgg5
  z5 := Tryz.sizeOf5
  v5 := Tryz.zeroValue5
  t9 := Tryz.underlying9
  a9 := Tryz.isAgg9
  z9 := Tryz.sizeOf9
  v9 := Tryz.zeroValue9
  t22 := Tryz.underlying36
  a22 := Tryz.isAgg36
  z22 := Tryz.sizeOf36
  v22 := Tryz.zeroValue36
  t23 := Tryz.underlying36
  a23 := Tryz.isAgg36
  z23 := Tryz.sizeOf36
  v23 := Tryz.zeroValue36
  t25 := Tryz.underlying3
  a25 := Tryz.isAgg3
  z25 := Tryz.sizeOf3
  v25 := Tryz.zeroValue3
  t32 := Tryz.underlying91
  a32 := Tryz.isAgg91
  z32 := Tryz.sizeOf91
  v32 := Tryz.zeroValue91
  t35 := Tryz.underlying136
  a35 := Tryz.isAgg136
  z35 := Tryz.sizeOf136
  v35 := Tryz.zeroValue136
  t36 := Tryz.underlying137
  a36 := Tryz.isAgg137
  z36 := Tryz.sizeOf137
  v36 := Tryz.zeroValue137
  t41 := Tryz.underlying142
  a41 := Tryz.isAgg142
  z41 := Tryz.sizeOf142
  v41 := Tryz.zeroValue142
  t44 := Tryz.underlying145
  a44 := Tryz.isAgg145
  z44 := Tryz.sizeOf145
  v44 := Tryz.zeroValue145
  t46 := Tryz.underlying104
  a46 := Tryz.isAgg104
  z46 := Tryz.sizeOf104
  v46 := Tryz.zeroValue104
  t53 := Tryz.underlying147
  a53 := Tryz.isAgg147
  z53 := Tryz.sizeOf147
  v53 := Tryz.zeroValue147
  t57 := Tryz.underlying151
  a57 := Tryz.isAgg151
  z57 := Tryz.sizeOf151
  v57 := Tryz.zeroValue151
  t63 := Tryz.underlying153
  a63 := Tryz.isAgg153
  z63 := Tryz.sizeOf153
  v63 := Tryz.zeroValue153
  t64 := Tryz.underlying154
  a64 := Tryz.isAgg154
  z64 := Tryz.sizeOf154
  v64 := Tryz.zeroValue154 }
end

section
open Go.RowKit Go.Maps Go.Sort Go.Shelf
/-- slices.Sort's two contracts at this dump. -/
theorem Tryz.sortsA (m : Nat) : AnyZI.SortsIn Tryz.prog Tryz.sortedA_ren Fence.wide m :=
  ⟨fun blk off cap ss W hH hblk hsz => callsIn_wide.2 (AnyM.slices_Sort_int Tryz.sortA blk off cap ss W hH hblk hsz),
   fun p cap W => callsIn_wide.2 (AnyM.slices_Sort_int_none Tryz.sortA p cap W)⟩

/-- slices.Sorted of a map's keys. -/
theorem Tryz.sortedKeys {H : Type} (b bm nn : Nat) (D0 : DataW H) (R : Value → Option (DataW H × List MemPlace)) (w : World) (hbm : w.cell? ⟨bm, 0, none⟩ = some (.map (some b))) (hlt : bm < w.heap.size) (hown : w.ownsMap Tryz.prog 3 R b nn D0) (hmax : Maps.size D0 ≤ maxLen) (hbytes : Maps.size D0 * 8 ≤ 140737488355328) :
    Calls Tryz.prog 86 #[.func (.func 99) #[] #[.pointer (some ⟨bm, 0, none⟩)]] w fun e w' => ∃ (v : Value) (ss : List Int), e = .returned v ∧ ss.Perm (intKeys D0) ∧
      w'.ownsRow w.heap.size 3 1 v ss.length ((ss.mergeSort (fun x y => decide (x ≤ y))).map encZ) ∧ (v = .slice none 0 0 ↔ ss = []) ∧ Below w.heap.size w w' := by
  have hseq : SeqGives Fence.wide 2 Tryz.prog 99 #[.pointer (some ⟨bm, 0, none⟩)] encZ (fun ss => ss.Perm (intKeys D0)) (Maps.size D0) w :=
    AnyZI.keys_gives (ρ := Tryz.keysA_ren) { Tryz.keysA with } Fence.wide 2 trivial rfl (by omega) bm b nn D0 w hlt hbm hown
  refine (callsIn_wide (n := 5)).1 ?_
  exact AnyZI.sorted_in Tryz.sortedA Fence.wide 5 trivial trivial trivial trivial rfl (by omega) (Tryz.sortsA _) (enters_of Tryz.func98 (by kernel_rfl) rfl) 99 #[.pointer (some ⟨bm, 0, none⟩)] trivial (enters_of Tryz.func99 (by kernel_rfl) rfl) _ _ hmax hbytes _ hseq
end

end Go.Proofs
end

section
open Go Go.Vc
namespace Go.Proofs

def ints (zs : List Int) : List Value := zs.map fun z => .int .i64 z
def sorted (zs : List Int) : List Int := zs.mergeSort fun x y => decide (x ≤ y)
theorem ints_length (zs : List Int) : (ints zs).length = zs.length := by simp [ints]
theorem ints_at {zs : List Int} {j : Nat} {z : Int} (h : zs[j]? = some z) : (ints zs)[j]? = some (.int .i64 z) := by simp [ints, h]
theorem sorted_len (l : List Int) : (sorted l).length = l.length := by simp [sorted]

theorem keys_ok (r : Nat) (H : Heap) : Does Tryz.prog 87 [.map (some r)] H fun v H' => v = .func (.func 99) #[] #[.pointer (some ⟨H.size, 0, none⟩)] ∧ New H H.size [.map (some r)] 79 H' := by
  refine Fn_of_vc Tryz.mixed (vc_keys _ _ _) ?_
  intro b H2 hn
  have := hn.eq
  subst this
  exact ⟨rfl, hn⟩

def keyI : Value → Int
  | .int _ n => n
  | _ => 0

theorem sorted_ok {H : Heap} {r b : Nat} {l : List (Int × Value)} (hb : hcell H b 0 = some (.map (some r))) (hm : MapIs H r l) (hw : ∀ p ∈ l, In64 p.1) (hl : l.length ≤ 1000000) :
    Does Tryz.prog 86 [.func (.func 99) #[] #[.pointer (some ⟨b, 0, none⟩)]] H fun v H' => ∃ a c, v = .slice a l.length c ∧ Own H' 1 a l.length c (ints (sorted (l.map (·.1)))) ∧ Ext [] H H' ∧ ∀ k ∈ blkOf a, H.size ≤ k := by
  intro w hw'
  subst hw'
  obtain ⟨es, clock, hr, he, hst⟩ := hm
  have hkeys : es.toList.map (·.key) = l.map fun p => .int .i64 p.1 := by
    have := congrArg (List.map Prod.fst) he
    simpa [List.map_map, Function.comp_def] using this
  have hlen : es.toList.length = l.length := by have := congrArg List.length hkeys; simpa using this
  have hkey : ∀ x ∈ es.toList, ∃ n : Int, x.key = .int .i64 n ∧ In64 n := fun x hx => by
    have : x.key ∈ es.toList.map (·.key) := List.mem_map.2 ⟨x, hx, rfl⟩
    rw [hkeys] at this
    obtain ⟨p, hp, e⟩ := List.mem_map.1 this
    exact ⟨p.1, e.symm, hw p hp⟩
  let R : Value → Option (DataW Unit × List MemPlace) := fun _ => some (.nil, [])
  have hrd : ∀ x ∈ es.toList, Go.WideElems.rd Tryz.prog 3 R x = some (.int .i64 (keyI x.key), .nil) := fun x hx => by
    obtain ⟨n, e, h1, h2⟩ := hkey x hx
    have hwf : (Lit.int .i64 n).wf = true := by
      simp only [Lit.wf, IntKind.min, IntKind.max, IntKind.signed, IntKind.bits]
      simp
      omega
    simp [Go.WideElems.rd, R, e, keyOf, mapKey, Tryz.underlying3, hwf, keyI]
  have hsize : es.size = l.length := by simpa using hlen
  have hF : Go.WideElems.Fit Tryz.prog 3 R es clock := ⟨by rw [hsize]; unfold maxLen; omega, hst, fun x hx => ⟨_, hrd x hx⟩⟩
  have hown : w.ownsMap Tryz.prog 3 R r es.size (.map ((es.toList.map (Go.WideElems.rg Tryz.prog 3 R)).foldr DataW.insert [])) := ⟨es, clock, hr, hF, Nat.le_refl _, rfl⟩
  have hperm : (intKeys (.map ((es.toList.map (Go.WideElems.rg Tryz.prog 3 R)).foldr DataW.insert []))).Perm (l.map (·.1)) := by
    have h1 : (((es.toList.map (Go.WideElems.rg Tryz.prog 3 R)).foldr DataW.insert []).map fun p => Go.intOf p.1).Perm ((es.toList.map (Go.WideElems.rg Tryz.prog 3 R)).map fun p => Go.intOf p.1) := (Go.WideShapes.sorted_perm _).map _
    have h2 : ((es.toList.map (Go.WideElems.rg Tryz.prog 3 R)).map fun p => Go.intOf p.1) = l.map (·.1) := by
      rw [List.map_map]
      have h3 : es.toList.map ((fun p : Lit × DataW Unit => Go.intOf p.1) ∘ Go.WideElems.rg Tryz.prog 3 R) = es.toList.map (fun x => keyI x.key) := List.map_congr_left fun x hx => by
        simp only [Function.comp_apply, Go.WideElems.rg, hrd x hx, Option.getD_some, Go.intOf]
      rw [h3]
      have h4 := congrArg (List.map keyI) hkeys
      simpa [List.map_map, Function.comp_def, keyI] using h4
    rw [h2] at h1
    exact h1
  have hsz : Go.Maps.size (.map ((es.toList.map (Go.WideElems.rg Tryz.prog 3 R)).foldr DataW.insert [])) = l.length := by
    rw [Go.Maps.size_eq, (Go.WideShapes.sorted_perm _).length_eq, List.length_map, hlen]
  refine (Tryz.sortedKeys r b es.size _ R w (by rw [cell_hcell]; exact hb) (hcell_lt hb) hown (by rw [hsz]; unfold maxLen; omega) (by rw [hsz]; omega)).mono ?_
  rintro e w' ⟨v, ss, rfl, hS, ⟨hrl, hrow⟩, hnil, hbel⟩
  have hss := hS.trans hperm
  have hsl : ss.length = l.length := by rw [hss.length_eq, List.length_map]
  have hso : (ss.mergeSort (fun x y => decide (x ≤ y))) = sorted (l.map (·.1)) := mergeSort_of_perm_i hss
  rw [hso] at hrow
  have hext : Ext [] w.heap w'.heap := ⟨hbel.size, fun k hk _ => hbel.block k hk⟩
  refine ⟨v, rfl, ⟨hbel.os, hbel.tape, hbel.output⟩, ?_⟩
  rcases hrow with ⟨rfl, h0⟩ | ⟨g, cap, cur, rfl, hg, hgb, hc1, hc2, hc3, hc4⟩
  · have : l = [] := List.length_eq_zero_iff.1 (by omega)
    subst this
    exact ⟨none, 0, rfl, by simpa [sorted, ints] using Own.nil _ _, hext, by simp [blkOf]⟩
  · refine ⟨some ⟨g, 0, none⟩, cap, by rw [hsl], ⟨by rw [ints_length, sorted_len, List.length_map, Nat.mul_one], by omega, hc2, .inr ⟨g, cur.toList.drop l.length, rfl, ⟨3, ?_⟩, ?_⟩⟩, hext, fun k hk => ?_⟩
    · rw [hgb]
      congr 2
      apply Array.ext'
      rw [Nat.mul_one, hsl] at hc4
      show cur.toList = _
      rw [show ints (sorted (l.map (·.1))) = cur.toList.take l.length by rw [hc4]; rfl, List.take_append_drop]
    · rw [show ints (sorted (l.map (·.1))) = cur.toList.take l.length by rw [Nat.mul_one, hsl] at hc4; rw [hc4]; rfl, List.take_append_drop]
      simpa using hc3
    · simp only [blkOf, List.mem_singleton] at hk; omega
end Go.Proofs
end

section
open Go Go.Vc
namespace Go.Proofs

/-! ### The journal, plainly -/
structure Jn where
  h : Hd
  used : Int
  taken : List Wr
  dead : Bool

def tSet : List Wr → Int → Octs → List Wr
  | [], k, x => [(k, x)]
  | p :: r, k, x => if p.1 = k then (k, x) :: r else p :: tSet r k x
def tGet : List Wr → Int → Option Octs
  | [], _ => none
  | p :: r, k => if p.1 = k then some p.2 else tGet r k
def tAll (t : List Wr) (l : List Wr) : List Wr := l.foldl (fun t w => tSet t w.1 w.2) t

theorem tGet_set (t : List Wr) (k j : Int) (x : Octs) : tGet (tSet t k x) j = if j = k then some x else tGet t j := by
  induction t with
  | nil =>
    simp only [tSet, tGet]
    by_cases h : j = k
    · rw [if_pos h, if_pos h.symm]
    · rw [if_neg h, if_neg (fun e => h e.symm)]
  | cons p r ih =>
    simp only [tSet]
    by_cases hp : p.1 = k
    · rw [if_pos hp]
      simp only [tGet]
      by_cases h : j = k
      · rw [if_pos h, if_pos h.symm]
      · rw [if_neg h, if_neg (fun e => h e.symm), hp, if_neg (fun e => h e.symm)]
    · rw [if_neg hp]
      simp only [tGet]
      by_cases hj : p.1 = j
      · rw [if_pos hj, if_neg (fun e => hp (hj.trans e)), if_pos hj]
      · rw [if_neg hj, ih, if_neg hj]

theorem tSet_keys (t : List Wr) (k : Int) (x : Octs) (j : Int) : j ∈ (tSet t k x).map (·.1) ↔ j = k ∨ j ∈ t.map (·.1) := by
  induction t with
  | nil => simp [tSet]
  | cons p r ih =>
    simp only [tSet]
    by_cases hp : p.1 = k
    · rw [if_pos hp]; simp only [List.map_cons, List.mem_cons, hp]; constructor
      · rintro (h | h)
        · exact .inl h
        · exact .inr (.inr h)
      · rintro (h | h | h)
        · exact .inl h
        · exact .inl h
        · exact .inr h
    · rw [if_neg hp]; simp only [List.map_cons, List.mem_cons, ih]; constructor
      · rintro (h | h | h)
        · exact .inr (.inl h)
        · exact .inl h
        · exact .inr (.inr h)
      · rintro (h | h | h)
        · exact .inr (.inl h)
        · exact .inl h
        · exact .inr (.inr h)
theorem tSet_nodup {t : List Wr} (h : (t.map (·.1)).Nodup) (k : Int) (x : Octs) : ((tSet t k x).map (·.1)).Nodup := by
  induction t with
  | nil => simp [tSet]
  | cons p r ih =>
    simp only [List.map_cons, List.nodup_cons] at h
    simp only [tSet]
    by_cases hp : p.1 = k
    · rw [if_pos hp]; simp only [List.map_cons, List.nodup_cons]; exact ⟨by rw [← hp]; exact h.1, h.2⟩
    · rw [if_neg hp]
      simp only [List.map_cons, List.nodup_cons]
      refine ⟨fun hm => ?_, ih h.2⟩
      rcases (tSet_keys r k x p.1).1 hm with e | e
      · exact hp e
      · exact h.1 e
theorem tSet_mem {t : List Wr} {k : Int} {x : Octs} {w : Wr} (h : w ∈ tSet t k x) : w = (k, x) ∨ w ∈ t := by
  induction t with
  | nil => simp only [tSet, List.mem_singleton] at h; exact .inl h
  | cons p r ih =>
    simp only [tSet] at h
    by_cases hp : p.1 = k
    · rw [if_pos hp] at h
      rcases List.mem_cons.1 h with h | h
      · exact .inl h
      · exact .inr (by simp [h])
    · rw [if_neg hp] at h
      rcases List.mem_cons.1 h with h | h
      · exact .inr (by simp [h])
      · rcases ih h with h | h
        · exact .inl h
        · exact .inr (by simp [h])
theorem tGet_mem {t : List Wr} {k : Int} (h : k ∈ t.map (·.1)) : ∃ x, tGet t k = some x ∧ (k, x) ∈ t := by
  induction t with
  | nil => simp at h
  | cons p r ih =>
    simp only [tGet]
    by_cases hp : p.1 = k
    · rw [if_pos hp]; exact ⟨p.2, rfl, by rw [← hp]; simp⟩
    · rw [if_neg hp]
      simp only [List.map_cons, List.mem_cons] at h
      rcases h with h | h
      · exact absurd h.symm hp
      · obtain ⟨x, h1, h2⟩ := ih h
        exact ⟨x, h1, by simp [h2]⟩
theorem tGet_none {t : List Wr} {k : Int} (h : k ∉ t.map (·.1)) : tGet t k = none := by
  induction t with
  | nil => rfl
  | cons p r ih =>
    simp only [List.map_cons, List.mem_cons, not_or] at h
    simp only [tGet]
    rw [if_neg (fun e => h.1 e.symm), ih h.2]

/-- What is taken may stand. -/
def TOk (t : List Wr) (homes : Int) : Prop := (∀ w ∈ t, 0 ≤ w.1 ∧ w.1 < homes ∧ w.2.length = 128) ∧ (t.map (·.1)).Nodup
theorem TOk.nil (homes : Int) : TOk [] homes := ⟨by simp, by simp⟩
theorem TOk.set {t : List Wr} {homes : Int} (h : TOk t homes) {k : Int} {x : Octs} (h0 : 0 ≤ k) (h1 : k < homes) (hx : x.length = 128) : TOk (tSet t k x) homes := by
  refine ⟨fun w hw => ?_, tSet_nodup h.2 k x⟩
  rcases tSet_mem hw with rfl | hw
  · exact ⟨h0, h1, hx⟩
  · exact h.1 w hw
theorem TOk.few {t : List Wr} {homes : Int} (h : TOk t homes) {n : Nat} (hn : homes ≤ n) : t.length ≤ n := by
  have := nodup_bound (t.map (·.1)) n h.2 (fun k hk => by
    obtain ⟨w, hw, rfl⟩ := List.mem_map.1 hk
    have := h.1 w hw
    omega)
  simpa using this

/-! ### What the operations do -/
/-- The taken blocks written home, one by one; then a Flush. -/
def goW (n : Nat) (size : Int) (t : List Wr) : List Int → Dev → Dev × Int
  | [], D => flushD D
  | k :: ks, D => if (writeD D n (1 + size + k) ((tGet t k).getD [])).2 ≠ 0 then writeD D n (1 + size + k) ((tGet t k).getD []) else goW n size t ks (writeD D n (1 + size + k) ((tGet t k).getD [])).1
def goHomeM (n : Nat) (J : Jn) (D : Dev) : Dev × Int := goW n J.h.size J.taken (sorted (J.taken.map (·.1))) D

/-- A header that is begun: the device, the journal, the answer. -/
def beginM (n : Nat) (h : Hd) (J : Jn) (D : Dev) : Dev × Jn × Int :=
  if (writeD D n 0 (hdrB h)).2 ≠ 0 then ((writeD D n 0 (hdrB h)).1, J, (writeD D n 0 (hdrB h)).2)
  else if (flushD (writeD D n 0 (hdrB h)).1).2 ≠ 0 then ((flushD (writeD D n 0 (hdrB h)).1).1, J, (flushD (writeD D n 0 (hdrB h)).1).2)
  else ((flushD (writeD D n 0 (hdrB h)).1).1, { J with h := h, used := 0, taken := [] }, 0)

/-- The transactions that are whole. -/
def recL : Nat → Hd → List Octs → List Wr → Int → Hd × List Wr
  | 0, h, _, t, _ => (h, t)
  | f + 1, h, bs, t, homes => if (wholeB h bs homes).2 = 0 then (h, t) else recL f { h with seq := h.seq + 1 } (bs.drop (wholeB h bs homes).2.toNat) (tAll t (wholeB h bs homes).1) homes

def jblocks (D : Dev) (size : Int) : List Octs := (D.now.drop 1).take size.toNat

def recoverM (n : Nat) (J : Jn) (D : Dev) : Dev × Jn × Int :=
  if D.dead = true then (D, J, 4)
  else
    let r := recL ((jblocks D J.h.size).length + 1) J.h (jblocks D J.h.size) J.taken (homeN n J.h.size)
    let J1 : Jn := { J with h := r.1, taken := r.2 }
    let g := goHomeM n J1 D
    if g.2 ≠ 0 then (g.1, J1, g.2) else beginM n ⟨r.1.epoch + 1, 1, r.1.size⟩ J1 g.1

/-- The header of a block. -/
def parseH (b : Octs) : Hd := ⟨numU (rdU (b, false) 4).2 4, numU (rdU (rdU (b, false) 4).2 4).2 4, numU (rdU (rdU (rdU (b, false) 4).2 4).2 4).2 4⟩
def readM (n : Nat) (D : Dev) : Hd × Int :=
  if D.dead = true then (Hd.zero, 4)
  else
    let b := D.now[0]?.getD []
    if hdrB (parseH b) ≠ b ∨ homeN n (parseH b).size < 0 ∨ (parseH b).seq = 0 then (Hd.zero, 2) else (parseH b, 0)

def openM (n : Nat) (D : Dev) : Dev × Option Jn × Int :=
  if (readM n D).2 ≠ 0 then (D, none, (readM n D).2)
  else
    let r := recoverM n ⟨(readM n D).1, 0, [], false⟩ D
    if r.2.2 ≠ 0 then (r.1, none, r.2.2) else (r.1, some r.2.1, 0)

def endsM (J : Jn) (e : Int) : Jn := { J with dead := J.dead || decide (e = 4) }

/-- Blocks written, one behind the other. -/
def layW (n : Nat) : List Octs → Int → Dev → Dev × Int × Int
  | [], u, D => (D, u, 0)
  | b :: r, u, D => if (writeD D n (1 + u) b).2 ≠ 0 then ((writeD D n (1 + u) b).1, u, (writeD D n (1 + u) b).2) else layW n r (u + 1) (writeD D n (1 + u) b).1
def layM (n : Nat) (l : List Wr) (J : Jn) (D : Dev) : Dev × Jn × Int :=
  let r := layW n (laidB J.h l) J.used D
  if r.2.2 ≠ 0 then (r.1, { J with used := r.2.1 }, r.2.2)
  else (r.1, { J with used := r.2.1, taken := tAll J.taken l, h := { J.h with seq := J.h.seq + 1 } }, 0)

def ckptM (n : Nat) (J : Jn) (D : Dev) : Dev × Jn × Int :=
  if (flushD D).2 ≠ 0 then ((flushD D).1, J, (flushD D).2)
  else if (goHomeM n J (flushD D).1).2 ≠ 0 then ((goHomeM n J (flushD D).1).1, J, (goHomeM n J (flushD D).1).2)
  else beginM n J.h J (goHomeM n J (flushD D).1).1
def checkpointM (n : Nat) (J : Jn) (D : Dev) : Dev × Jn × Int :=
  if J.dead = true then (D, J, 4) else ((ckptM n J D).1, endsM (ckptM n J D).2.1 (ckptM n J D).2.2, (ckptM n J D).2.2)
def syncM (J : Jn) (D : Dev) : Dev × Jn × Int :=
  if J.dead = true then (D, J, 4) else ((flushD D).1, endsM J (flushD D).2, (flushD D).2)

def layE (n : Nat) (l : List Wr) (J : Jn) (D : Dev) : Dev × Jn × Int := ((layM n l J D).1, endsM (layM n l J D).2.1 (layM n l J D).2.2, (layM n l J D).2.2)
def commitM (n : Nat) (l : List Wr) (J : Jn) (D : Dev) : Dev × Jn × Int :=
  if mayB l (homeN n J.h.size) = false then (D, J, 1)
  else if J.dead = true then (D, J, 4)
  else if J.h.size < needsN l.length then (D, J, 5)
  else if J.h.size - J.used < needsN l.length then
    if (checkpointM n J D).2.2 ≠ 0 then checkpointM n J D else layE n l (checkpointM n J D).2.1 (checkpointM n J D).1
  else layE n l J D

/-- A home block that is read: the journal, the answer. -/
def jreadM (n : Nat) (k : Int) (J : Jn) (D : Dev) : Jn × Option Octs × Int :=
  if k < 0 ∨ homeN n J.h.size ≤ k then (J, none, 1)
  else if J.dead = true then (J, none, 4)
  else match tGet J.taken k with
    | some x => (J, some x, 0)
    | none => if D.dead = true then (endsM J 4, none, 4) else (endsM J 0, D.now[(1 + J.h.size + k).toNat]?, 0)

def fmtW (n : Nat) : Nat → Int → Dev → Dev × Int
  | 0, _, D => (D, 0)
  | m + 1, k, D => if (writeD D n (1 + k) zeros).2 ≠ 0 then writeD D n (1 + k) zeros else fmtW n m (k + 1) (writeD D n (1 + k) zeros).1
def formatM (n : Nat) (size : Int) (D : Dev) : Dev × Int :=
  if homeN n size < 0 then (D, 1)
  else
    let r := fmtW n size.toNat 0 D
    if r.2 ≠ 0 then r
    else if (writeD r.1 n 0 (hdrB ⟨1, 1, size⟩)).2 ≠ 0 then writeD r.1 n 0 (hdrB ⟨1, 1, size⟩)
    else flushD (writeD r.1 n 0 (hdrB ⟨1, 1, size⟩)).1
end Go.Proofs
end

section
open Go Go.Vc
namespace Go.Proofs

/-- A value that holds a row of bytes of one's own. -/
def TV (H : Heap) (F : Nat → Prop) (pj r : Nat) (v : Value) (x : Octs) : Prop :=
  ∃ a c, v = .slice a x.length c ∧ SRow H 1 x.length (.slice a x.length c) (bytesV x) ∧ ∀ k ∈ blkOf a, F k ∧ k ≠ pj ∧ k ≠ r
def TVs (H : Heap) (F : Nat → Prop) (pj r : Nat) : List (Int × Value) → List Wr → Prop
  | [], [] => True
  | p :: l, w :: t => (p.1 = w.1 ∧ TV H F pj r p.2 w.2) ∧ TVs H F pj r l t
  | _, _ => False

theorem TV.mono {H H' : Heap} {F F' M : Nat → Prop} {pj r pj' r' : Nat} {v : Value} {x : Octs} (h : TV H F pj r v x) (he : ExtP M H H') (hm : ∀ k, F k → k ≠ pj → k ≠ r → ¬ M k ∧ F' k ∧ k ≠ pj' ∧ k ≠ r') : TV H' F' pj' r' v x := by
  obtain ⟨a, c, e, h1, h2⟩ := h
  exact ⟨a, c, e, h1.extP he (fun k hk => (hm k (h2 k hk).1 (h2 k hk).2.1 (h2 k hk).2.2).1), fun k hk => (hm k (h2 k hk).1 (h2 k hk).2.1 (h2 k hk).2.2).2⟩
theorem TVs.mono {H H' : Heap} {F F' M : Nat → Prop} {pj r pj' r' : Nat} : ∀ {l : List (Int × Value)} {t : List Wr}, TVs H F pj r l t → ExtP M H H' → (∀ k, F k → k ≠ pj → k ≠ r → ¬ M k ∧ F' k ∧ k ≠ pj' ∧ k ≠ r') → TVs H' F' pj' r' l t
  | [], [], _, _, _ => trivial
  | _ :: _, _ :: _, h, he, hm => ⟨⟨h.1.1, h.1.2.mono he hm⟩, TVs.mono h.2 he hm⟩
  | [], _ :: _, h, _, _ => h.elim
  | _ :: _, [], h, _, _ => h.elim
theorem TVs.len {H : Heap} {F : Nat → Prop} {pj r : Nat} : ∀ {l : List (Int × Value)} {t : List Wr}, TVs H F pj r l t → l.length = t.length ∧ l.map (·.1) = t.map (·.1)
  | [], [], _ => ⟨rfl, rfl⟩
  | _ :: _, _ :: _, h => by
    have := h.2.len
    simp only [List.length_cons, List.map_cons, this.1, this.2, h.1.1, and_self]
  | [], _ :: _, h => h.elim
  | _ :: _, [], h => h.elim
theorem TVs.get {H : Heap} {F : Nat → Prop} {pj r : Nat} (k : Int) (z : Value) : ∀ {l : List (Int × Value)} {t : List Wr}, TVs H F pj r l t →
    (tGet t k = none ∧ mapGet l k z = z ∧ mapHas l k = false) ∨ (∃ x, tGet t k = some x ∧ TV H F pj r (mapGet l k z) x ∧ mapHas l k = true)
  | [], [], _ => .inl ⟨rfl, rfl, rfl⟩
  | p :: l, w :: t, h => by
    have hk := h.1.1
    simp only [tGet, mapGet, mapHas, List.any_cons]
    by_cases e : w.1 = k
    · exact .inr ⟨w.2, by rw [if_pos e], by rw [if_pos (hk.trans e)]; exact h.1.2, by simp [hk, e]⟩
    · have e' : ¬ p.1 = k := fun q => e (hk.symm.trans q)
      rw [if_neg e, if_neg e']
      rcases TVs.get k z h.2 with h' | h'
      · exact .inl ⟨h'.1, h'.2.1, by have := h'.2.2; unfold mapHas at this; simp [e', this]⟩
      · obtain ⟨x, a, b, c⟩ := h'
        exact .inr ⟨x, a, b, by unfold mapHas at c; simp [c]⟩
  | [], _ :: _, h => h.elim
  | _ :: _, [], h => h.elim
theorem TVs.set {H : Heap} {F : Nat → Prop} {pj r : Nat} (k : Int) {v : Value} {x : Octs} (hv : TV H F pj r v x) : ∀ {l : List (Int × Value)} {t : List Wr}, TVs H F pj r l t → TVs H F pj r (mapSet l k v) (tSet t k x)
  | [], [], _ => ⟨⟨rfl, hv⟩, trivial⟩
  | p :: l, w :: t, h => by
    have hk := h.1.1
    simp only [tSet, mapSet]
    by_cases e : w.1 = k
    · rw [if_pos e, if_pos (hk.trans e)]; exact ⟨⟨rfl, hv⟩, h.2⟩
    · rw [if_neg e, if_neg (fun q => e (hk.symm.trans q))]; exact ⟨h.1, TVs.set k hv h.2⟩
  | [], _ :: _, h => h.elim
  | _ :: _, [], h => h.elim

def Jn.cells (J : Jn) (pd r : Nat) : List Value := [.pointer (some ⟨pd, 0, none⟩), .int .i64 J.h.epoch, .int .i64 J.h.seq, .int .i64 J.h.size, .int .i64 J.used, .map (some r), .bool J.dead]

/-- A journal in memory. -/
structure IsJn (H : Heap) (F : Nat → Prop) (pj pd : Nat) (J : Jn) (r : Nat) (l : List (Int × Value)) : Prop where
  head : Blk H pj (J.cells pd r)
  map : MapIs H r l
  vals : TVs H F pj r l J.taken
  hj : F pj
  hr : F r
  ne : pj ≠ r
  lt : ∀ k, F k → k < H.size

theorem IsJn.extP {H H' : Heap} {F F' M : Nat → Prop} {pj pd : Nat} {J : Jn} {r : Nat} {l : List (Int × Value)} (h : IsJn H F pj pd J r l) (he : ExtP M H H') (hm : ∀ k, F k → ¬ M k) (hF : ∀ k, F k → F' k) (hlt : ∀ k, F' k → k < H'.size) : IsJn H' F' pj pd J r l := by
  refine ⟨h.head.extP he (hm _ h.hj), ?_, h.vals.mono he (fun k hk h1 h2 => ⟨hm k hk, hF k hk, h1, h2⟩), hF _ h.hj, hF _ h.hr, h.ne, hlt⟩
  obtain ⟨es, c, h1, h2⟩ := h.map
  exact ⟨es, c, by rw [he.keep r (h.lt r h.hr) (hm r h.hr)]; exact h1, h2⟩

/-- One cell of the journal put. -/
theorem IsJn.poke {H H' : Heap} {F : Nat → Prop} {pj pd : Nat} {J J' : Jn} {r : Nat} {l : List (Int × Value)} (h : IsJn H F pj pd J r l) {o : Nat} {v : Value} (hp : Puts H pj o [v] H') (ho : o < 7) (hc : (J.cells pd r).set o v = J'.cells pd r) (ht : J'.taken = J.taken) : IsJn H' F pj pd J' r l ∧ Ext [pj] H H' := by
  have he := hp.ext
  have hb := hp.blk h.head (by simp only [List.length_cons, List.length_nil, Jn.cells]; omega)
  rw [splice_one _ _ _ (by simp only [Jn.cells, List.length_cons, List.length_nil]; omega), hc] at hb
  refine ⟨⟨hb, ?_, ?_, h.hj, h.hr, h.ne, fun k hk => Nat.lt_of_lt_of_le (h.lt k hk) he.size⟩, he⟩
  · obtain ⟨es, c, h1, h2⟩ := h.map
    exact ⟨es, c, by rw [he.keep r (h.lt r h.hr) (by simpa using fun e => h.ne e.symm)]; exact h1, h2⟩
  · rw [ht]
    exact h.vals.mono he.toP (fun k hk h1 h2 => ⟨by simpa using h1, hk, h1, h2⟩)

/-- A block taken. -/
theorem IsJn.take {H H' : Heap} {F : Nat → Prop} {pj pd : Nat} {J : Jn} {r : Nat} {l : List (Int × Value)} (h : IsJn H F pj pd J r l) {k : Int} {v : Value} {x : Octs} (hv : TV H F pj r v x) (hp : MapPut H r (mapSet l k v) H') : IsJn H' F pj pd { J with taken := tSet J.taken k x } r (mapSet l k v) ∧ Ext [r] H H' := by
  obtain ⟨hm, he⟩ := MapPut.is hp (h.lt r h.hr)
  refine ⟨⟨h.head.extP he.toP (by simpa using h.ne), hm, ?_, h.hj, h.hr, h.ne, fun k hk => Nat.lt_of_lt_of_le (h.lt k hk) he.size⟩, he⟩
  exact (TVs.set k hv h.vals).mono he.toP (fun k hk h1 h2 => ⟨by simpa using h2, hk, h1, h2⟩)

/-- A journal and its device. -/
def JD (H : Heap) (F : Nat → Prop) (pj pd : Nat) (J : Jn) (D : Dev) : Prop :=
  ∃ Fd Fj r l, IsDev H Fd pd D ∧ IsJn H Fj pj pd J r l ∧ (∀ k, Fd k → ¬ Fj k) ∧ (∀ k, Fd k → F k) ∧ (∀ k, Fj k → F k) ∧ ∀ k, F k → k < H.size
theorem JD.lt {H : Heap} {F : Nat → Prop} {pj pd : Nat} {J : Jn} {D : Dev} (h : JD H F pj pd J D) : ∀ k, F k → k < H.size := by
  obtain ⟨_, _, _, _, _, _, _, _, _, h⟩ := h; exact h
theorem JD.up {H : Heap} {F F' : Nat → Prop} {pj pd : Nat} {J : Jn} {D : Dev} (h : JD H F pj pd J D) (hF : ∀ k, F k → F' k) (hlt : ∀ k, F' k → k < H.size) : JD H F' pj pd J D := by
  obtain ⟨Fd, Fj, r, l, h1, h2, h3, h4, h5, h6⟩ := h
  exact ⟨Fd, Fj, r, l, h1, h2, h3, fun k hk => hF k (h4 k hk), fun k hk => hF k (h5 k hk), hlt⟩
theorem JD.ext {H H' : Heap} {F M : Nat → Prop} {pj pd : Nat} {J : Jn} {D : Dev} (h : JD H F pj pd J D) (he : ExtP M H H') (hm : ∀ k, F k → ¬ M k) : JD H' F pj pd J D := by
  obtain ⟨Fd, Fj, r, l, h1, h2, h3, h4, h5, h6⟩ := h
  exact ⟨Fd, Fj, r, l, h1.ext he (fun k hk => hm k (h4 k hk)), h2.extP he (fun k hk => hm k (h5 k hk)) (fun k hk => hk) (fun k hk => Nat.lt_of_lt_of_le (h2.lt k hk) he.size), h3, h4, h5, fun k hk => Nat.lt_of_lt_of_le (h6 k hk) he.size⟩
theorem JD.dev {H : Heap} {F : Nat → Prop} {pj pd : Nat} {J : Jn} {D : Dev} (h : JD H F pj pd J D) : IsDev H F pd D := by
  obtain ⟨Fd, Fj, r, l, h1, h2, h3, h4, h5, h6⟩ := h
  exact h1.up h4 h6

/-- What a journal must be like. -/
structure Jn.Wf (J : Jn) (n : Nat) : Prop where
  size : 4 ≤ J.h.size ∧ J.h.size ≤ n - 4
  seq : 0 ≤ J.h.seq ∧ J.h.seq ≤ 1000000000000
  epoch : 0 ≤ J.h.epoch ∧ J.h.epoch ≤ 1000000000000
  used : 0 ≤ J.used ∧ J.used ≤ J.h.size
  took : TOk J.taken (homeN n J.h.size)
theorem homeN_of {n : Nat} {size : Int} (h : 4 ≤ size ∧ size ≤ n - 4) : homeN n size = n - 1 - size := by unfold homeN; rw [if_neg (by omega)]

/-! ### The device stays well -/
theorem Dev.Wf.up {D : Dev} {n B B' : Nat} (h : D.Wf n B) (hB : B ≤ B') : D.Wf n B' := ⟨h.len, h.few, h.size, h.pin, Nat.le_trans h.pfew hB, h.fuse, ⟨h.works.1, by have := h.works.2; omega⟩⟩
theorem goW_wf {n : Nat} {size : Int} {t : List Wr} : ∀ (ks : List Int) {D : Dev} {B : Nat}, D.Wf n B → (goW n size t ks D).1.Wf n (B + ks.length + 1)
  | [], D, B, h => (flushWf h).up (by simp)
  | k :: ks, D, B, h => by
    have h1 := writeWf h (1 + size + k) ((tGet t k).getD [])
    rw [goW]
    split
    · exact h1.up (by simp only [List.length_cons]; omega)
    · exact (goW_wf ks h1).up (by simp only [List.length_cons]; omega)
theorem goHome_wf {n B : Nat} {J : Jn} {D : Dev} (h : D.Wf n B) (hj : TOk J.taken (homeN n J.h.size)) (hn : homeN n J.h.size ≤ 4096) : (goHomeM n J D).1.Wf n (B + 4097) := by
  have := goW_wf (size := J.h.size) (t := J.taken) (sorted (J.taken.map (·.1))) h
  have hl := hj.few (n := 4096) hn
  rw [sorted_len, List.length_map] at this
  exact this.up (by omega)
theorem begin_wf {n B : Nat} {h : Hd} {J : Jn} {D : Dev} (hd : D.Wf n B) : (beginM n h J D).1.Wf n (B + 2) := by
  have h1 := writeWf hd 0 (hdrB h)
  have h2 := flushWf h1
  unfold beginM
  split
  · exact h1.up (by omega)
  · split
    · exact h2
    · exact h2
theorem layW_wf {n : Nat} : ∀ (bs : List Octs) (u : Int) {D : Dev} {B : Nat}, D.Wf n B → (layW n bs u D).1.Wf n (B + bs.length)
  | [], u, D, B, h => h.up (by simp)
  | b :: bs, u, D, B, h => by
    have h1 := writeWf h (1 + u) b
    rw [layW]
    split
    · exact h1.up (by simp only [List.length_cons]; omega)
    · exact (layW_wf bs (u + 1) h1).up (by simp only [List.length_cons]; omega)
theorem fmtW_wf {n : Nat} : ∀ (m : Nat) (k : Int) {D : Dev} {B : Nat}, D.Wf n B → (fmtW n m k D).1.Wf n (B + m)
  | 0, k, D, B, h => h.up (by simp)
  | m + 1, k, D, B, h => by
    have h1 := writeWf h (1 + k) zeros
    rw [fmtW]
    split
    · exact h1.up (by omega)
    · exact (fmtW_wf m (k + 1) h1).up (by omega)
end Go.Proofs
end

section
open Go Go.Vc
namespace Go.Proofs

theorem grow_in {F G : Nat → Prop} {A B C D : Heap} (h : ∀ k, F k → G k) (h1 : C.size ≤ A.size) (h2 : B.size ≤ D.size) : ∀ k, grow F A B k → grow G C D k := by
  rintro k (hk | hk)
  · exact .inl (h k hk)
  · exact .inr ⟨by omega, by omega⟩
theorem MapIs.extP {M : Nat → Prop} {H H' : Heap} {r : Nat} {l : List (Int × Value)} (h : MapIs H r l) (he : ExtP M H H') (hm : ¬ M r) : MapIs H' r l := by
  obtain ⟨es, c, h1, h2⟩ := h
  exact ⟨es, c, by rw [he.keep r (Array.getElem?_eq_some_iff.1 h1).1 hm]; exact h1, h2⟩

/-- All that was taken goes home. -/
theorem goHome_ok {H : Heap} {F : Nat → Prop} {pj pd : Nat} {J : Jn} {D : Dev} {n B : Nat} (h : JD H F pj pd J D) (hw : D.Wf n B) (hB : B ≤ 900000000) (hn : n ≤ 4096) (hj : J.Wf n) :
    Does Tryz.prog 70 [.pointer (some ⟨pj, 0, none⟩)] H fun v H' => v = .int .i64 (goHomeM n J D).2 ∧ JD H' (grow F H H') pj pd J (goHomeM n J D).1 ∧ ExtP F H H' := by
  obtain ⟨Fd, Fj, r, l, hd, hJ, hdis, hfd, hfj, hlt⟩ := h
  have hsz := hj.size
  have hho := homeN_of hsz
  have htk := hj.took
  have hkk := hJ.vals.len
  refine Fn_of_vc Tryz.mixed (vc_gohome _ _ _) ?_
  refine ⟨pj, 0, rfl, some r, hJ.head.cell 5, (keys_ok r H).mono ?_⟩
  rintro _ H5 ⟨rfl, hn5⟩
  have hx5 := hn5.ext
  have hm5 := MapIs.ext hJ.map hx5 (by simp)
  have hb5 := hn5.blk
  have hin : ∀ p ∈ l, In64 p.1 := fun p hp => by
    have : p.1 ∈ J.taken.map (·.1) := by rw [← hkk.2]; exact List.mem_map.2 ⟨p, hp, rfl⟩
    obtain ⟨w, hw, e⟩ := List.mem_map.1 this
    have := htk.1 w hw
    exact ⟨by omega, by omega⟩
  have hfew := htk.few (n := 4096) (by omega)
  refine ⟨_, rfl, (sorted_ok (by rw [hb5.cell]; rfl) hm5 hin (by rw [hkk.1]; omega)).mono ?_⟩
  rintro _ H8 ⟨a9, c11, rfl, ho8, hx58, hf8⟩
  have hx8 := hx5.trans hx58
  have hs8 := hx8.size
  rw [hkk.2] at ho8
  refine ⟨_, _, _, rfl, ?_⟩
  unfold goHomeM
  have hks : (sorted (J.taken.map (·.1))).length = l.length := by rw [sorted_len, List.length_map, hkk.1]
  have hkm : ∀ k ∈ sorted (J.taken.map (·.1)), k ∈ J.taken.map (·.1) := fun k hk => by
    unfold sorted at hk
    rwa [List.mem_mergeSort] at hk
  generalize sorted (J.taken.map (·.1)) = ks at *
  have hd8 := hd.ext hx8.toP (by simp)
  have hJ8 := hJ.extP hx8.toP (by simp) (fun _ h => h) (fun k hk => Nat.lt_of_lt_of_le (hJ.lt k hk) hs8)
  have fin : ∀ {H' : Heap} {D' : Dev}, IsDev H' (grow Fd H8 H') pd D' → ExtP Fd H8 H' → JD H' (grow F H H') pj pd J D' ∧ ExtP F H H' := by
    intro H' D' hd' hx'
    have hs' := hx'.size
    refine ⟨⟨_, Fj, r, l, hd', hJ8.extP hx' (fun k hk hk' => hdis k hk' hk) (fun _ h => h) (fun k hk => by have := hJ.lt k hk; omega), ?_, grow_in hfd hs8 (Nat.le_refl _), fun k hk => .inl (hfj k hk), grow_lt hlt (by omega)⟩, hx8.anyP.trans (hx'.mono (fun k _ hk => hfd k hk))⟩
    rintro k (hk | hk) hk'
    · exact hdis k hk hk'
    · have := hJ.lt k hk'; omega
  refine ⟨fun i H' => ∃ (j : Nat) (D' : Dev), i = j ∧ j ≤ l.length ∧ goW n J.h.size J.taken ks D = goW n J.h.size J.taken (ks.drop j) D' ∧ D'.Wf n (B + j) ∧ IsDev H' (grow Fd H8 H') pd D' ∧ ExtP Fd H8 H', fun i _ => l.length - i.toNat,
    ⟨0, D, rfl, by omega, rfl, hw, hd8.up (fun _ => .inl) (grow_lt (fun k hk => hd8.lt k hk) (Nat.le_refl _)), ExtP.refl _ _⟩, ?_⟩
  rintro _ H15 ⟨j, D', rfl, hjl, hgo, hw', hd', hx'⟩
  have hs' := hx'.size
  have hfar : ∀ k ∈ blkOf a9, ¬ Fd k := fun k hk hk' => by have := hf8 k hk; have := hd.lt k hk'; have := hx5.size; omega
  have hJ15 := hJ8.extP hx' (fun k hk hk' => hdis k hk' hk) (fun _ h => h) (fun k hk => by have := hJ.lt k hk; omega)
  refine ⟨fun hlt1 => ?_, fun hge => ?_⟩
  · have hi : ks[j]? = some (ks[j]'(by omega)) := List.getElem?_eq_getElem (by omega)
    have hdr : ks.drop j = ks[j]'(by omega) :: ks.drop (j + 1) := List.drop_eq_getElem_cons (by omega)
    have hmem := hkm _ (List.getElem_mem (l := ks) (n := j) (by omega))
    generalize ks[j]'(by omega) = k at *
    obtain ⟨b16, o17, e16, hc16⟩ := (ho8.extP hx' hfar).row l.length c11 |>.get (ints_at hi)
    obtain ⟨x, hx, hxm⟩ := tGet_mem hmem
    have htk1 := htk.1 _ hxm
    simp only at htk1
    rcases TVs.get k (.slice none 0 0) hJ15.vals with h' | ⟨x', hx2, ⟨a30, c32, ev, hrow, hfa⟩, _⟩
    · rw [hx] at h'; cases h'.1
    rw [hx] at hx2
    cases hx2
    refine ⟨by omega, by omega, b16, o17, e16, k, by rw [Int.toNat_natCast]; exact hc16, pj, 0, rfl, _, hJ15.head.cell 0, pj, 0, rfl, _, hJ15.head.cell 3, ⟨by omega, by omega⟩, ⟨by omega, by omega⟩, pj, 0, rfl, _, hJ15.head.cell 5, r, l, rfl, hJ15.map, a30, _, c32, ev.symm, ?_⟩
    refine (dwrite_ok hd' hw' (by omega) (1 + J.h.size + k) (KeptB.of hrow (fun i hi hg => ?_))).mono ?_
    · have h1 := (hfa i hi).1
      rcases hg with hg | hg
      · exact hdis i hg h1
      · have := hJ.lt i h1; omega
    rintro _ H34 ⟨rfl, hd34, hx34⟩
    have hs34 := hx34.size
    have hx34' : ExtP Fd H8 H34 := hx'.trans' hx34 (fun i hi => by
      rcases hi with hi | hi
      · exact .inr hi
      · exact .inl hi.1)
    have hd34' : IsDev H34 (grow Fd H8 H34) pd (writeD D' n (1 + J.h.size + k) x).1 := hd34.up (grow_sub hs' hs34) (grow_lt (fun k hk => hd8.lt k hk) (by omega))
    have hw34 := writeWf hw' (1 + J.h.size + k) x
    rw [hdr, goW, hx, Option.getD_some] at hgo
    refine ⟨_, rfl, fun he => ?_, fun he => ⟨⟨by omega, by omega⟩, ⟨j + 1, (writeD D' n (1 + J.h.size + k) x).1, by omega, by omega, ?_, hw34.up (by omega), hd34', hx34'⟩, by simp only []; omega⟩⟩
    · rw [if_pos he] at hgo
      rw [hgo]
      exact ⟨rfl, fin hd34' hx34'⟩
    · rw [if_neg he] at hgo
      exact hgo
  · have : j = l.length := by omega
    subst this
    rw [List.drop_eq_nil_of_le (by omega), goW] at hgo
    refine ⟨pj, 0, rfl, _, hJ15.head.cell 0, (dflush_ok hd' hw' (by omega)).mono ?_⟩
    rintro _ H40 ⟨rfl, hd40, hx40⟩
    have hs40 := hx40.size
    rw [hgo]
    exact ⟨_, rfl, rfl, fin (hd40.up (grow_sub hs' hs40) (grow_lt (fun k hk => hd8.lt k hk) (by omega))) (hx'.trans' hx40 (fun i hi => by
      rcases hi with hi | hi
      · exact .inr hi
      · exact .inl hi.1))⟩

/-- The journal begun anew. -/
theorem begin_ok {H : Heap} {F : Nat → Prop} {pj pd : Nat} {J : Jn} {D : Dev} {n B : Nat} (h : JD H F pj pd J D) (hw : D.Wf n B) (hB : B ≤ 900000000) (hd0 : Hd) :
    Does Tryz.prog 71 [.pointer (some ⟨pj, 0, none⟩), hd0.v] H fun v H' => v = .int .i64 (beginM n hd0 J D).2.2 ∧ JD H' (grow F H H') pj pd (beginM n hd0 J D).2.1 (beginM n hd0 J D).1 ∧ ExtP F H H' := by
  obtain ⟨Fd, Fj, r, l, hd, hJ, hdis, hfd, hfj, hlt⟩ := h
  refine Fn_of_vc Tryz.mixed (vc_begin _ _ _ _ _ _) ?_
  intro b1 H2 hn2
  have e1 := hn2.eq
  have hx2 := hn2.ext
  have hs2 := hn2.size
  have hb2 : Blk H2 b1 hd0.cells := hn2.blk
  have hJ2 := hJ.extP hx2.toP (by simp) (fun _ h => h) (fun k hk => by have := hJ.lt k hk; omega)
  refine ⟨pj, 0, rfl, _, hJ2.head.cell 0, _, hb2.cell 0, _, hb2.cell 1, _, hb2.cell 2, (hlay_ok hd0 H2).mono ?_⟩
  rintro _ H10 ⟨⟨a11, c13, rfl, ho10, hf10⟩, hx10⟩
  have hX10 := hx2.trans hx10
  have hs10 := hX10.size
  have hd10 := hd.ext hX10.toP (by simp)
  have hJ10 := hJ.extP hX10.toP (by simp) (fun _ h => h) (fun k hk => by have := hJ.lt k hk; omega)
  refine ⟨_, _, _, rfl, ⟨hJ10.head.cell 0, trivial⟩, (dwrite_ok hd10 hw (by omega) 0 (KeptB.of (ho10.row _ c13) (fun i hi hg => by have := hf10 i hi; have := hd.lt i hg; omega))).mono ?_⟩
  rintro _ H15 ⟨rfl, hd15, hx15⟩
  have hs15 := hx15.size
  have hw15 := writeWf hw 0 (hdrB hd0)
  have hJ15 := hJ10.extP hx15 (fun k hk hk' => hdis k hk' hk) (fun _ h => h) (fun k hk => by have := hJ.lt k hk; omega)
  have fin : ∀ {H' : Heap} {D' : Dev}, IsDev H' (grow Fd H10 H') pd D' → ExtP Fd H10 H' → JD H' (grow F H H') pj pd J D' ∧ ExtP F H H' := by
    intro H' D' hd' hx'
    have hs' := hx'.size
    refine ⟨⟨_, Fj, r, l, hd', hJ10.extP hx' (fun k hk hk' => hdis k hk' hk) (fun _ h => h) (fun k hk => by have := hJ.lt k hk; omega), ?_, grow_in hfd hs10 (Nat.le_refl _), fun k hk => .inl (hfj k hk), grow_lt hlt (by omega)⟩, hX10.anyP.trans (hx'.mono (fun k _ hk => hfd k hk))⟩
    rintro k (hk | hk) hk'
    · exact hdis k hk hk'
    · have := hJ.lt k hk'; omega
  refine ⟨_, rfl, fun he => ?_, fun he => ?_⟩
  · unfold beginM
    rw [if_pos he]
    exact ⟨rfl, fin hd15 hx15⟩
  refine ⟨pj, 0, rfl, _, hJ15.head.cell 0, (dflush_ok hd15 hw15 (by omega)).mono ?_⟩
  rintro _ H21 ⟨rfl, hd21, hx21⟩
  have hs21 := hx21.size
  have hx1021 : ExtP Fd H10 H21 := hx15.trans' hx21 (fun i hi => by
      rcases hi with hi | hi
      · exact .inr hi
      · exact .inl hi.1)
  have hd21' := hd21.up (grow_sub (F := Fd) hs15 hs21) (grow_lt (fun k hk => hd10.lt k hk) (by omega))
  refine ⟨_, rfl, fun he2 => ?_, fun he2 => ?_⟩
  · unfold beginM
    rw [if_neg he, if_pos he2]
    exact ⟨rfl, fin hd21' hx1021⟩
  have hb21 : Blk H21 b1 hd0.cells := (hb2.ext hx10 (by simp)).extP hx1021 (fun hf => by have := hd.lt _ hf; omega)
  have hJ21 := hJ10.extP hx1021 (fun k hk hk' => hdis k hk' hk) (fun _ h => h) (fun k hk => by have := hJ.lt k hk; omega)
  refine ⟨_, hb21.cell 0, _, hb21.cell 1, _, hb21.cell 2, fun r26 H27 hnm => ?_⟩
  have e26 : r26 = H21.size := hnm.1
  have hx27 := NewMap.ext hnm
  have hs27 : H27.size = H21.size + 1 := by obtain ⟨_, rfl⟩ := hnm; simp
  have hm27 : MapIs H27 r26 [] := by
    obtain ⟨rfl, rfl⟩ := hnm
    exact ⟨#[], 0, by simp, rfl, MapKept.stamped_empty _⟩
  have hh27 := hJ21.head.ext hx27 (by simp)
  refine ⟨pj, 0, rfl, hh27.cells 3 1 (by simp [Jn.cells]), fun H30 hp30 => ?_⟩
  have hh30 := hp30.blk hh27 (by simp [Jn.cells])
  refine ⟨pj, 0, rfl, hh30.cells 1 4 (by simp [Jn.cells, splice]), fun H33 hp33 => ?_⟩
  have hh33 := hp33.blk hh30 (by simp [Jn.cells, splice])
  refine ⟨pj, 0, rfl, hh33.cells 1 5 (by simp [Jn.cells, splice]), fun H36 hp36 => ?_⟩
  have hh36 := hp36.blk hh33 (by simp [Jn.cells, splice])
  have hxp : Ext [pj] H27 H36 := (hp30.ext.trans hp33.ext).trans hp36.ext
  have hs36 := hxp.size
  have hpj := hJ.lt _ hJ.hj
  have hx1036 : ExtP (fun k => Fd k ∨ k = pj) H10 H36 := (hx1021.mono (fun k _ hk => .inl hk)).trans' ((hx27.toP.mono (N := fun k => k = pj) (by simp)).trans' (hxp.toP.mono (N := fun k => k = pj) (by simp)) (fun i hi => .inr hi)) (fun i hi => .inr (.inr hi))
  have hx2136 : ExtP (fun k => k = pj) H21 H36 := (hx27.toP.mono (N := fun k => k = pj) (by simp)).trans' (hxp.toP.mono (N := fun k => k = pj) (by simp)) (fun i hi => .inr hi)
  unfold beginM
  rw [if_neg he, if_neg he2]
  refine ⟨rfl, ⟨_, fun k => k = pj ∨ k = r26, r26, [], hd21'.ext hx2136 ?_, ⟨?_, ?_, trivial, .inl rfl, .inr rfl, by omega, ?_⟩, ?_, grow_in hfd hs10 (by omega), ?_, grow_lt hlt (by omega)⟩, ?_⟩
  · rintro k (hk | hk) rfl
    · exact hdis _ hk hJ.hj
    · omega
  · simpa [Jn.cells, splice] using hh36
  · exact MapIs.extP hm27 hxp.toP (by simp; omega)
  · rintro k (rfl | rfl) <;> omega
  · rintro k (hk | hk) (rfl | rfl)
    · exact hdis _ hk hJ.hj
    · have := hd.lt _ hk; omega
    · omega
    · omega
  · rintro k (rfl | rfl)
    · exact .inl (hfj _ hJ.hj)
    · exact .inr ⟨by omega, by omega⟩
  · exact hX10.anyP.trans (hx1036.mono (fun k _ hk => by
      rcases hk with hk | rfl
      · exact hfd k hk
      · exact hfj _ hJ.hj))
end Go.Proofs
end

section
open Go Go.Vc
namespace Go.Proofs

set_option maxHeartbeats 1000000 in
theorem hread_ok {H : Heap} {F : Nat → Prop} {pd : Nat} {D : Dev} {n B : Nat} (hd : IsDev H F pd D) (hw : D.Wf n B) (h8 : 0 < n) :
    Does Tryz.prog 51 [.pointer (some ⟨pd, 0, none⟩)] H fun v H' => v = .tuple #[(readM n D).1.v, .int .i64 (readM n D).2] ∧ Ext [] H H' := by
  refine Fn_of_vc Tryz.mixed (vc_hread _ _ _) ?_
  intro b1 H2 hn2
  have e1 := hn2.eq
  have hx2 := hn2.ext
  have hs2 := hn2.size
  have hb2 : Blk H2 b1 Hd.zero.cells := hn2.blk
  have put : ∀ {A : Heap} (h : Hd), Ext [] H2 A → Blk A b1 Hd.zero.cells ∧ ∀ C : Heap, Puts A b1 0 [.int .i64 h.epoch, .int .i64 h.seq, .int .i64 h.size] C → Blk C b1 h.cells ∧ Ext [] H C := fun {A} h ha => by
    have hb := hb2.ext ha (by simp)
    refine ⟨hb, fun C hp => ⟨by simpa [splice, Hd.cells] using hp.blk hb (by simp [Hd.cells]), ext_new (hx2.trans ha) hp.ext (by simp; omega)⟩⟩
  refine (dread_ok (hd.ext hx2.toP (by simp)) hw 0).mono ?_
  rintro _ H4 ⟨hx4, ⟨hno, _⟩ | ⟨_, hdd, rfl⟩ | ⟨_, hdd, a5, c7, b, hb0, rfl, ho4, hf4⟩⟩
  · omega
  · refine ⟨_, _, _, _, rfl, fun _ => ?_, fun he => absurd (by decide) he⟩
    obtain ⟨g1, g2⟩ := put Hd.zero hx4
    refine ⟨g1.cells 3 0 (by simp [Hd.cells]), fun H9 hp => ?_⟩
    obtain ⟨g3, g4⟩ := g2 H9 hp
    refine ⟨_, g3.cell 0, _, g3.cell 1, _, g3.cell 2, ?_, g4⟩
    unfold readM
    rw [if_pos hdd]; rfl
  · refine ⟨_, _, _, _, rfl, fun he => absurd rfl he, fun _ => ?_⟩
    have hl128 : b.length = 128 := nowSize hw b (List.mem_of_getElem? hb0)
    have hb0' : D.now[0]?.getD [] = b := by rw [show ((0 : Int).toNat) = 0 from rfl] at hb0; rw [hb0]; rfl
    have hX4 := hx2.trans hx4
    refine (nrB_ok (by omega) (ho4.row _ c7)).mono ?_
    rintro _ H14 ⟨p, rfl, hr14, hx14⟩
    refine ⟨_, rfl, (ruB_ok (n := 4) (.inr ⟨rfl, rfl⟩) hr14).mono ?_⟩
    rintro _ H17 ⟨rfl, hr17, hx17⟩
    refine ⟨_, rfl, (ruB_ok (n := 4) (.inr ⟨rfl, rfl⟩) hr17).mono ?_⟩
    rintro _ H20 ⟨rfl, hr20, hx20⟩
    refine ⟨_, rfl, (ruB_ok (n := 4) (.inr ⟨rfl, rfl⟩) hr20).mono ?_⟩
    rintro _ H23 ⟨rfl, hr23, hx23⟩
    refine ⟨_, rfl, (ruB_ok (n := 4) (.inr ⟨rfl, rfl⟩) hr23).mono ?_⟩
    rintro _ H26 ⟨rfl, hr26, hx26⟩
    refine ⟨_, rfl, fun b28 H29 hn29 => ⟨hn29.blk.cells 3 0 (by simp), fun H30 hp30 => ?_⟩⟩
    have hx426 : Ext [] H4 H26 := hx14.transP (((hx17.trans hx20).trans hx23).trans hx26) (fun i hi => hi)
    have hph : (⟨numU (rdU (b, false) 4).2 4, numU (rdU (rdU (b, false) 4).2 4).2 4, numU (rdU (rdU (rdU (b, false) 4).2 4).2 4).2 4⟩ : Hd) = parseH b := rfl
    have hb30 : Blk H30 b28 (parseH b).cells := by simpa [splice, parseH, Hd.cells] using hp30.blk hn29.blk (by simp)
    have e28 := hn29.eq
    have hx430 : Ext [] H4 H30 := hx426.trans (ext_new hn29.ext hp30.ext (by simp; omega))
    refine ⟨_, hb30.cell 0, _, hb30.cell 1, _, hb30.cell 2, (hlay_ok (parseH b) H30).mono ?_⟩
    rintro _ H35 ⟨⟨a36, c38, rfl, ho35, hf35⟩, hx35⟩
    refine ⟨_, _, _, rfl, (eqB_ok (by rw [hdrB_len]; decide) (ho35.row _ c38) ((ho4.row _ c7).ext (hx430.trans hx35) (by simp))).mono ?_⟩
    rintro _ _ ⟨rfl, rfl⟩
    have hx235 : Ext [] H2 H35 := hx4.trans (hx430.trans hx35)
    have hd35 := hd.ext (hx2.trans hx235).toP (by simp)
    have hb35 := hb30.ext hx35 (by simp)
    have bad : (readM n D) = (Hd.zero, 2) → ∀ {A : Heap}, Ext [] H2 A → ∀ {C : Heap}, Puts A b1 0 [.int .i64 0, .int .i64 0, .int .i64 0] C → hcell C b1 0 = some (.int .i64 0) ∧ hcell C b1 (0 + 1) = some (.int .i64 0) ∧ hcell C b1 ((0 + 1) + 1) = some (.int .i64 0) ∧ Value.tuple #[(.agg #[.int .i64 0, .int .i64 0, .int .i64 0]), .int .i64 2] = .tuple #[(readM n D).1.v, .int .i64 (readM n D).2] ∧ Ext [] H C := fun hr {A} ha {C} hp => by
      obtain ⟨g1, g2⟩ := put Hd.zero ha
      obtain ⟨g3, g4⟩ := g2 C hp
      exact ⟨g3.cell 0, g3.cell 1, g3.cell 2, by rw [hr]; rfl, g4⟩
    have hM : readM n D = if hdrB (parseH b) ≠ b ∨ homeN n (parseH b).size < 0 ∨ (parseH b).seq = 0 then (Hd.zero, 2) else (parseH b, 0) := by
      unfold readM
      rw [if_neg (by rw [hdd]; decide), hb0']
    refine ⟨_, rfl, fun ef => ⟨(put Hd.zero hx235).1.cells 3 0 (by simp [Hd.cells]), fun H42 hp => ?_⟩, fun et => ⟨_, hb35.cell 2, (home_ok hd35 hw (parseH b).size).mono ?_⟩⟩
    · obtain ⟨q0, q1, q2, q3⟩ := bad (by rw [hM, if_pos (.inl (by simpa using ef))]) hx235 hp
      exact ⟨_, q0, _, q1, _, q2, q3⟩
    rintro _ _ ⟨rfl, rfl⟩
    have et' : hdrB (parseH b) = b := by simpa using et
    refine ⟨_, rfl, fun hneg => ⟨(put Hd.zero hx235).1.cells 3 0 (by simp [Hd.cells]), fun H50 hp => ?_⟩, fun hpos => ⟨_, hb35.cell 1, fun hz => ⟨(put Hd.zero hx235).1.cells 3 0 (by simp [Hd.cells]), fun H55 hp => ?_⟩, fun hnz => ⟨_, hb35.cell 0, _, hb35.cell 1, _, hb35.cell 2, (put Hd.zero hx235).1.cells 3 0 (by simp [Hd.cells]), fun H62 hp => ?_⟩⟩⟩
    · obtain ⟨q0, q1, q2, q3⟩ := bad (by rw [hM, if_pos (.inr (.inl hneg))]) hx235 hp
      exact ⟨_, q0, _, q1, _, q2, q3⟩
    · obtain ⟨q0, q1, q2, q3⟩ := bad (by rw [hM, if_pos (.inr (.inr hz))]) hx235 hp
      exact ⟨_, q0, _, q1, _, q2, q3⟩
    · obtain ⟨g1, g2⟩ := put (parseH b) hx235
      obtain ⟨g3, g4⟩ := g2 H62 hp
      refine ⟨_, g3.cell 0, _, g3.cell 1, _, g3.cell 2, ?_, g4⟩
      rw [hM, if_neg (by rintro (h | h | h); exact h et'; exact hpos h; exact hnz h)]
      rfl

section
variable {H : Heap} {F : Nat → Prop} {pj pd : Nat} {J : Jn} {D : Dev} {n B : Nat}
theorem jhome_ok (h : JD H F pj pd J D) (hw : D.Wf n B) : Does Tryz.prog 31 [.pointer (some ⟨pj, 0, none⟩)] H fun v H' => v = .int .i64 (homeN n J.h.size) ∧ H = H' := by
  obtain ⟨Fd, Fj, r, l, hd, hJ, _⟩ := h
  refine Fn_of_vc Tryz.mixed (vc_jhome _ _ _) ?_
  refine ⟨pj, 0, rfl, _, hJ.head.cell 0, pj, 0, rfl, _, hJ.head.cell 3, (home_ok hd hw J.h.size).mono ?_⟩
  rintro _ _ ⟨rfl, rfl⟩
  exact ⟨_, rfl, rfl, rfl⟩
theorem jfree_ok (h : JD H F pj pd J D) (hj : J.Wf n) (hn : n ≤ 4096) : Does Tryz.prog 32 [.pointer (some ⟨pj, 0, none⟩)] H fun v H' => v = .int .i64 (J.h.size - J.used) ∧ H = H' := by
  obtain ⟨Fd, Fj, r, l, hd, hJ, _⟩ := h
  have h1 := hj.size
  have h2 := hj.used
  refine Fn_of_vc Tryz.mixed (vc_free _ _ _) ?_
  exact ⟨pj, 0, rfl, _, hJ.head.cell 3, pj, 0, rfl, _, hJ.head.cell 4, ⟨by omega, by omega⟩, rfl, rfl⟩
theorem jdead_ok (h : JD H F pj pd J D) : Does Tryz.prog 58 [.pointer (some ⟨pj, 0, none⟩)] H fun v H' => v = .bool J.dead ∧ H = H' := by
  obtain ⟨Fd, Fj, r, l, hd, hJ, _⟩ := h
  refine Fn_of_vc Tryz.mixed (vc_jdead _ _ _) ?_
  exact ⟨pj, 0, rfl, _, hJ.head.cell 6, rfl, rfl⟩
theorem ends_ok (h : JD H F pj pd J D) (e : Int) : Does Tryz.prog 41 [.pointer (some ⟨pj, 0, none⟩), .int .i64 e] H fun v H' => v = .int .i64 e ∧ JD H' F pj pd (endsM J e) D ∧ ExtP F H H' := by
  obtain ⟨Fd, Fj, r, l, hd, hJ, hdis, hfd, hfj, hlt⟩ := h
  refine Fn_of_vc Tryz.mixed (vc_ends _ _ _ _) ?_
  have key : ∀ {v : Bool} {H' : Heap}, Puts H pj (0 + 6) [.bool v] H' → v = (endsM J e).dead → JD H' F pj pd (endsM J e) D ∧ ExtP F H H' := fun {v H'} hp hv => by
    subst hv
    obtain ⟨hJ', hx⟩ := hJ.poke (J' := endsM J e) hp (by decide) (by simp [Jn.cells, endsM]) rfl
    have hxp : ExtP (fun k => k = pj) H H' := hx.toP.mono (by simp)
    exact ⟨⟨Fd, Fj, r, l, hd.ext hxp (fun k hk e => hdis k hk (e ▸ hJ.hj)), hJ', hdis, hfd, hfj, fun k hk => Nat.lt_of_lt_of_le (hlt k hk) hx.size⟩, hxp.mono (fun k _ e => e ▸ hfj _ hJ.hj)⟩
  refine ⟨pj, 0, rfl, _, hJ.head.cell 6, fun hd => ⟨pj, 0, rfl, hJ.head.cells 1 6 (by simp [Jn.cells]), fun H6 hp => ⟨rfl, key hp ?_⟩⟩, fun hd => ⟨pj, 0, rfl, hJ.head.cells 1 6 (by simp [Jn.cells]), fun H9 hp => ⟨rfl, key hp ?_⟩⟩⟩
  · simp [endsM, hd]
  · simp only [endsM, hd, Bool.false_or]
    exact dec_eq Iff.rfl
end
end Go.Proofs
end

section
open Go Go.Vc
namespace Go.Proofs

theorem ft1 : ∀ (vs : List (List Value)) (k : Nat), (∀ r ∈ vs, r.length = 1) → (vs.drop k).flatten = vs.flatten.drop k := by
  intro vs
  induction vs with
  | nil => intro k _; simp
  | cons r rs ih =>
    intro k hk
    cases k with
    | zero => simp
    | succ k =>
      have h1 := hk r (by simp)
      match r, h1 with
      | [u], _ => simp only [List.drop_succ_cons, List.flatten_cons, List.cons_append, List.nil_append]; rw [ih k (fun r hr => hk r (by simp [hr]))]
theorem SeqV.drop1 {H : Heap} {a : Option Addr} {c : Nat} {xs : List Octs} (h : SeqV bytesC H a xs) {k : Nat} (hk : k ≤ xs.length) (hc : xs.length ≤ c) : SeqV bytesC H (if c = k then a else Option.map (fun x => Addr.add x (k * 1)) a) (xs.drop k) := by
  obtain ⟨vs, h1, h2, h3⟩ := h
  have hrows : ∀ r ∈ vs, r.length = 1 := by
    intro r hr
    obtain ⟨i, hi, rfl⟩ := List.mem_iff_getElem.1 hr
    obtain ⟨v, q1, q2⟩ := h3 i _ (List.getElem?_eq_getElem (by omega))
    rw [List.getElem?_eq_getElem hi, Option.some.injEq] at q1
    rw [q1]
    exact bytesC.len q2
  refine ⟨vs.drop k, ?_, by rw [List.length_drop, List.length_drop, h2], fun i x hx => ?_⟩
  · rw [ft1 vs k hrows, List.length_drop]
    have h1' : SRow H 1 xs.length (.slice a xs.length c) vs.flatten := by
      obtain ⟨g1, g2⟩ := h1
      exact ⟨g1, by cases a <;> exact g2⟩
    exact SRow.drop1 h1' hk hc
  · rw [List.getElem?_drop] at hx
    obtain ⟨v, q1, q2⟩ := h3 (k + i) x hx
    exact ⟨v, by rw [List.getElem?_drop]; exact q1, q2⟩

def KeptS {α : Type} (E : Elem α) (F : Nat → Prop) (H : Heap) (a : Option Addr) (xs : List α) : Prop := ∀ H', ExtP F H H' → SeqV E H' a xs
theorem KeptS.at_ {α : Type} {E : Elem α} {F : Nat → Prop} {H : Heap} {a : Option Addr} {xs : List α} (h : KeptS E F H a xs) : SeqV E H a xs := h H (ExtP.refl _ _)
theorem KeptS.ext {α : Type} {E : Elem α} {F : Nat → Prop} {H H' : Heap} {a : Option Addr} {xs : List α} (h : KeptS E F H a xs) (he : ExtP F H H') : KeptS E F H' a xs := fun _ hx => h _ (he.trans hx)
theorem MySeq.kept {α : Type} {E : Elem α} {n0 : Nat} {H : Heap} {a : Option Addr} {n c : Nat} {xs : List α} {F : Nat → Prop} (h : MySeq E n0 H a n c xs) (hF : ∀ k, F k → k < n0) : KeptS E F H a xs := fun _ hx => (h.extP hx (fun k _ h0 hk => by have := hF k hk; omega)).view
theorem KeptS.drop {F : Nat → Prop} {H : Heap} {a : Option Addr} {c : Nat} {xs : List Octs} (h : KeptS bytesC F H a xs) {k : Nat} (hk : k ≤ xs.length) (hc : xs.length ≤ c) : KeptS bytesC F H (if c = k then a else Option.map (fun x => Addr.add x (k * 1)) a) (xs.drop k) := fun _ hx => (h _ hx).drop1 hk hc

/-- A write among one's own. -/
theorem MySeq.wr {n0 : Nat} {H : Heap} {a : Option Addr} {n c : Nat} {xs : List Wr} (h : MySeq writeE n0 H a n c xs) {i : Nat} {x : Wr} (hx : xs[i]? = some x) : ∃ b o a' c', a = some ⟨b, o, none⟩ ∧ hcell H b (o + i * 2) = some (.int .i64 x.1) ∧ hcell H b (o + i * 2 + 1) = some (.slice a' x.2.length c') ∧ SRow H 1 x.2.length (.slice a' x.2.length c') (bytesV x.2) ∧ ∀ k ∈ blkOf a', n0 ≤ k ∧ k < H.size := by
  obtain ⟨G, h1, h2, h3⟩ := h
  obtain ⟨b, o, v, e, hc, ⟨a', n, c', rfl, h4, h5⟩, hf⟩ := h1.get hx
  have hn : x.2.length = n := by have := h4.1; rw [bytesV_length] at this; omega
  subst hn
  have q0 := hc 0 _ rfl
  have q1 := hc 1 _ rfl
  exact ⟨b, o, a', c', e, by simpa [writeE] using q0, by simpa [writeE] using q1, h4, fun k hk => ⟨(h2 k (hf k hk)).1, h5 k hk⟩⟩

theorem wholeB_spec (h : Hd) (bs : List Octs) (homes : Int) : (wholeB h bs homes).2 = 0 ∨ (0 < (wholeB h bs homes).2 ∧ (wholeB h bs homes).2 ≤ bs.length ∧ MayP (wholeB h bs homes).1 homes ∧ laidB h (wholeB h bs homes).1 = bs.take (wholeB h bs homes).2.toNat) := by
  unfold wholeB
  cases bs with
  | nil => exact .inl rfl
  | cons b0 r =>
    have := (numU_lt2 (rdU (b0, false) 10).2).1
    simp only
    generalize numU (rdU (b0, false) 10).2 2 = c at *
    split
    · exact .inl rfl
    · rename_i h1
      split
      · rename_i h2
        by_cases hc : c = 0
        · exact .inl hc
        · exact .inr ⟨by simp only; omega, by simp only; omega, of_decide_eq_true h2.1, h2.2⟩
      · exact .inl rfl
theorem TOk.all {homes : Int} : ∀ (l : List Wr) {t : List Wr}, TOk t homes → (∀ w ∈ l, 0 ≤ w.1 ∧ w.1 < homes ∧ w.2.length = 128) → TOk (tAll t l) homes
  | [], t, h, _ => h
  | w :: l, t, h, hl => by
    have := hl w (by simp)
    exact TOk.all l (h.set this.1 this.2.1 this.2.2) (fun x hx => hl x (by simp [hx]))
theorem tAll_snoc (t l : List Wr) (w : Wr) : tAll t (l ++ [w]) = tSet (tAll t l) w.1 w.2 := by unfold tAll; rw [List.foldl_append]; rfl

def recJ (J : Jn) (r : Hd × List Wr) : Jn := { J with h := r.1, taken := r.2 }

set_option maxHeartbeats 2000000 in
theorem recover_ok {H : Heap} {F : Nat → Prop} {pj pd : Nat} {J : Jn} {D : Dev} {n B : Nat} (h : JD H F pj pd J D) (hw : D.Wf n B) (hB : B ≤ 800000000) (hn : n ≤ 4096) (hj : J.Wf n) (hseq : J.h.seq ≤ 900000000000) (he9 : J.h.epoch ≤ 900000000000) :
    Does Tryz.prog 52 [.pointer (some ⟨pj, 0, none⟩)] H fun v H' => v = .int .i64 (recoverM n J D).2.2 ∧ JD H' (grow F H H') pj pd (recoverM n J D).2.1 (recoverM n J D).1 ∧ ExtP F H H' := by
  obtain ⟨Fd, Fj, r, l, hd, hJ, hdis, hfd, hfj, hlt⟩ := h
  have hsz := hj.size
  have hho := homeN_of hsz
  have hnow : D.now.length = n := by rw [← hw.len]; exact laid_length _ _
  refine Fn_of_vc Tryz.mixed (vc_recover _ _ _) ?_
  refine ⟨pj, 0, rfl, _, hJ.head.cell 3, fun a6 l7 c8 i H' => ∃ j : Nat, i = j ∧ j = l7 ∧ j ≤ J.h.size ∧ (0 < j → D.dead = false) ∧ MySeq bytesC H.size H' a6 l7 c8 ((D.now.drop 1).take j) ∧ Ext [] H H', fun _ _ _ i _ => J.h.size.toNat - i.toNat,
    ⟨0, rfl, rfl, by omega, by omega, MySeq.nil _ _ _, Ext.refl _ _⟩, ?_⟩
  rintro a6 l7 c8 _ H10 ⟨j, rfl, rfl, hjs, hjd, hm10, hx10⟩
  have hs10 := hx10.size
  have hd10 := hd.ext hx10.toP (by simp)
  have hJ10 := hJ.extP hx10.toP (by simp) (fun _ h => h) (fun k hk => by have := hJ.lt k hk; omega)
  refine ⟨fun hlt1 => ?_, fun hge => ?_⟩
  · refine ⟨pj, 0, rfl, _, hJ10.head.cell 0, ⟨by omega, by omega⟩, (dread_ok hd10 hw (1 + (j : Int))).mono ?_⟩
    rintro _ H15 ⟨hx15, ⟨hno, _⟩ | ⟨_, hdd, rfl⟩ | ⟨_, hdd, a16, c18, b, hb, rfl, ho15, hf15⟩⟩
    · omega
    · refine ⟨_, _, _, _, rfl, fun _ => ?_, fun he => absurd (by decide) he⟩
      have hX := hx10.trans hx15
      unfold recoverM
      rw [if_pos hdd]
      exact ⟨rfl, ⟨Fd, Fj, r, l, hd.ext hX.toP (by simp), hJ.extP hX.toP (by simp) (fun _ h => h) (fun k hk => by have := hJ.lt k hk; have := hX.size; omega), hdis, fun k hk => .inl (hfd k hk), fun k hk => .inl (hfj k hk), grow_lt hlt hX.size⟩, hX.anyP⟩
    · refine ⟨_, _, _, _, rfl, fun he => absurd rfl he, fun _ b20 H21 hn21 => ?_⟩
      have hX15 := hx10.trans hx15
      have hs15 := hx15.size
      have hidx : ((1 + (j : Int)).toNat) = 1 + j := by omega
      rw [hidx] at hb
      have hi : (D.now.drop 1)[j]? = some b := by rw [List.getElem?_drop]; exact hb
      have htk : (D.now.drop 1).take (j + 1) = (D.now.drop 1).take j ++ [b] := by rw [List.take_add_one, hi]; rfl
      refine (hm10.ext hx15).push (E := bytesC) (x := b) (v := [.slice a16 b.length c18]) ⟨a16, _, c18, rfl, ho15.2.1, ho15.row _ _, ho15.lt⟩ (fun k hk => ⟨by have := hf15 k hk; omega, fun hm => by
        have := hf15 k hk
        obtain ⟨G, g1, _⟩ := hm10
        have := g1.lt k hm
        omega⟩) (by omega) rfl (by omega) (fun a24 c25 H26 g1 _ g2 => ⟨⟨by omega, by omega⟩, ⟨j + 1, by omega, rfl, by omega, fun _ => hdd, by rw [htk]; exact g1, ?_⟩, by simp only []; omega⟩) b20 H21 hn21
      exact ext_new hX15 g2 (fun i hi => by obtain ⟨G, _, _, g3⟩ := hm10; exact g3 i hi)
  have hjj : (j : Int) = J.h.size := by omega
  have hdd : D.dead = false := hjd (by omega)
  have hbs : jblocks D J.h.size = (D.now.drop 1).take j := by unfold jblocks; rw [← hjj, Int.toNat_natCast]
  have hbl : (jblocks D J.h.size).length = j := by rw [hbs, List.length_take, List.length_drop]; omega
  have hb128 : ∀ x ∈ jblocks D J.h.size, x.length = 128 := fun x hx => nowSize hw x (by rw [hbs] at hx; exact List.mem_of_mem_drop (List.mem_of_mem_take hx))
  have hcap : j ≤ c8 := by obtain ⟨G, g1, _⟩ := hm10; exact g1.cap.1
  rw [← hbs] at hm10
  have hRM : recoverM n J D = (let rr := recL (j + 1) J.h (jblocks D J.h.size) J.taken (homeN n J.h.size)
    let J1 : Jn := recJ J rr
    let g := goHomeM n J1 D
    if g.2 ≠ 0 then (g.1, J1, g.2) else beginM n ⟨rr.1.epoch + 1, 1, rr.1.size⟩ J1 g.1) := by
    unfold recoverM
    rw [if_neg (by rw [hdd]; decide), hbl]; rfl
  rw [hRM]
  have hFjlt : ∀ k, Fj k → k < H.size := hJ.lt
  generalize jblocks D J.h.size = bs0 at *
  refine ⟨fun a29 l30 c31 H' => ∃ (bs : List Octs) (f : Nat) (h' : Hd) (t' : List Wr) (l' : List (Int × Value)), bs.length = l30 ∧ l30 ≤ c31 ∧ l30 ≤ j ∧ l30 + 1 ≤ f ∧ (∀ x ∈ bs, x.length = 128) ∧ KeptS bytesC Fj H' a29 bs ∧ recL (j + 1) J.h bs0 J.taken (homeN n J.h.size) = recL f h' bs t' (homeN n J.h.size) ∧ h'.epoch = J.h.epoch ∧ h'.size = J.h.size ∧ 0 ≤ h'.seq ∧ h'.seq + l30 ≤ J.h.seq + j ∧ TOk t' (homeN n J.h.size) ∧
      IsDev H' Fd pd D ∧ IsJn H' (grow Fj H H') pj pd (recJ J (h', t')) r l' ∧ ExtP Fj H H', fun _ l30 _ _ => l30,
    ⟨bs0, j + 1, J.h, J.taken, l, hbl, hcap, Nat.le_refl _, Nat.le_refl _, hb128, hm10.kept hFjlt, rfl, rfl, rfl, hj.seq.1, Int.le_refl _, hj.took, hd10, hJ10.extP (ExtP.refl (fun _ => False) _) (by simp) (fun _ => .inl) (grow_lt hFjlt hs10), hx10.anyP⟩, ?_⟩
  rintro a29 l30 c31 H32 ⟨bs, f, h', t', l', rfl, hc31, hlj, hf, hbb, hk32, hrec, he', hz', hs0, hsq, hto, hd32, hJ32, hx32⟩
  have hs32 := hx32.size
  have hjd32 : JD H32 (grow F H H32) pj pd (recJ J (h', t')) D := ⟨Fd, _, r, l', hd32, hJ32, fun k hk hk' => by
    rcases hk' with hk' | hk'
    · exact hdis k hk hk'
    · have := hd.lt k hk; omega, fun k hk => .inl (hfd k hk), grow_in hfj (Nat.le_refl _) (Nat.le_refl _), grow_lt hlt hs32⟩
  refine ⟨pj, 0, rfl, h'.epoch, hJ32.head.cell 1, h'.seq, hJ32.head.cell 2, h'.size, hJ32.head.cell 3, (jhome_ok hjd32 hw).mono ?_⟩
  rintro _ _ ⟨rfl, rfl⟩
  have hho' : homeN n (recJ J (h', t')).h.size = homeN n J.h.size := by show homeN n h'.size = _; rw [hz']
  rw [hho']
  refine ⟨_, rfl, ⟨hJ32.head.cell 1, hJ32.head.cell 2, hJ32.head.cell 3, trivial⟩, (whole_ok h' (homeN n J.h.size) hbb (by omega) hc31 (by omega) hk32.at_).mono ?_⟩
  rintro _ H42 ⟨a43, c45, rfl, hm42, hx42⟩
  have hs42 := hx42.size
  have hspec := wholeB_spec h' bs (homeN n J.h.size)
  have hX42 : ExtP Fj H H42 := hx32.trans hx42.anyP
  have hd42 := hd32.ext hx42.toP (by simp)
  have hJ42 := hJ32.extP (F' := grow Fj H H42) hx42.toP (by simp) (grow_in (fun _ h => h) (Nat.le_refl _) hs42) (grow_lt hFjlt (by omega))
  refine ⟨_, _, _, _, rfl, fun hz => ?_, fun hnz => ?_⟩
  · have hrec2 : recL (j + 1) J.h bs0 J.taken (homeN n J.h.size) = (h', t') := by
      rw [hrec]
      obtain ⟨f, rfl⟩ : ∃ k, f = k + 1 := ⟨f - 1, by omega⟩
      rw [recL, if_pos hz]
    rw [hrec2]
    have hjd42 : JD H42 (grow F H H42) pj pd (recJ J (h', t')) D := ⟨Fd, _, r, l', hd42, hJ42, fun k hk hk' => by
      rcases hk' with hk' | hk'
      · exact hdis k hk hk'
      · have := hd.lt k hk; omega, fun k hk => .inl (hfd k hk), grow_in hfj (Nat.le_refl _) (Nat.le_refl _), grow_lt hlt (by omega)⟩
    have hjw : (recJ J (h', t')).Wf n := ⟨by show 4 ≤ h'.size ∧ h'.size ≤ _; omega, by show 0 ≤ h'.seq ∧ h'.seq ≤ _; omega, by show 0 ≤ h'.epoch ∧ h'.epoch ≤ _; have := hj.epoch; omega, by show 0 ≤ J.used ∧ J.used ≤ h'.size; have := hj.used; omega, by show TOk t' (homeN n h'.size); rw [hz']; exact hto⟩
    have hXF : ExtP F H H42 := hX42.mono (fun k _ hk => hfj k hk)
    refine (goHome_ok hjd42 hw (by omega) hn hjw).mono ?_
    rintro _ H48 ⟨rfl, hjd48, hx48⟩
    have hs48 := hx48.size
    have hgw := goHome_wf hw hjw.took (by rw [hho']; omega)
    have hXF48 : ExtP F H H48 := hXF.trans' hx48 (fun i hi => by
      rcases hi with hi | hi
      · exact .inr hi
      · exact .inl hi.1)
    have hjd48' := hjd48.up (F' := grow F H H48) (grow_sub (by omega) hs48) (grow_lt hlt (by omega))
    simp only
    refine ⟨_, rfl, fun hne => ?_, fun he0 => ?_⟩
    · rw [if_pos hne]
      exact ⟨rfl, hjd48', hXF48⟩
    · rw [if_neg he0]
      have hgJ := hjd48
      obtain ⟨_, _, _, _, _, hJ48, _⟩ := hgJ
      refine ⟨pj, 0, rfl, h'.epoch, hJ48.head.cell 1, ⟨by have := hj.epoch; omega, by omega⟩, pj, 0, rfl, h'.size, hJ48.head.cell 3, (begin_ok hjd48' hgw (by omega) ⟨h'.epoch + 1, 1, h'.size⟩).mono ?_⟩
      rintro _ H57 ⟨rfl, hjd57, hx57⟩
      have hs57 := hx57.size
      exact ⟨_, rfl, rfl, hjd57.up (grow_sub (by omega) hs57) (grow_lt hlt (by omega)), hXF48.trans' hx57 (fun i hi => by
        rcases hi with hi | hi
        · exact .inr hi
        · exact .inl hi.1)⟩
  · rcases hspec with hspec | ⟨hw0, hw1, hmay, hlaid⟩
    · exact absurd hspec hnz
    have hrec2 : recL (j + 1) J.h bs0 J.taken (homeN n J.h.size) = recL (f - 1) { h' with seq := h'.seq + 1 } (bs.drop (wholeB h' bs (homeN n J.h.size)).2.toNat) (tAll t' (wholeB h' bs (homeN n J.h.size)).1) (homeN n J.h.size) := by
      rw [hrec]
      obtain ⟨f, rfl⟩ : ∃ k, f = k + 1 := ⟨f - 1, by omega⟩
      rw [recL, if_neg hnz]; rfl
    generalize (wholeB h' bs (homeN n J.h.size)).2 = q at *
    generalize (wholeB h' bs (homeN n J.h.size)).1 = wl at *
    have hwl := hmay.few (n := 4096) (by omega)
    refine ⟨fun i H' => ∃ (k : Nat) (l'' : List (Int × Value)), i = k ∧ k ≤ wl.length ∧ IsJn H' (grow Fj H H') pj pd (recJ J (h', tAll t' (wl.take k))) r l'' ∧ ExtP (fun k => k = pj ∨ k = r) H42 H', fun i _ => wl.length - i.toNat,
      ⟨0, l', rfl, by omega, hJ42, ExtP.refl _ _⟩, ?_⟩
    rintro _ H62 ⟨i, l'', rfl, hil, hJ62, hx62⟩
    have hs62 := hx62.size
    have hpj := hJ.lt _ hJ.hj
    have hr := hJ.lt _ hJ.hr
    refine ⟨fun hlt2 => ?_, fun hge2 => ?_⟩
    · have hi : wl[i]? = some wl[i] := List.getElem?_eq_getElem (by omega)
      have htk : wl.take (i + 1) = wl.take i ++ [wl[i]] := by rw [List.take_add_one, hi]; rfl
      obtain ⟨b63, o64, a66, c68, ea, g0, g1, gr, gf⟩ := (hm42.extP hx62 (fun k hk h0 hm => by omega)).wr hi
      generalize wl[i] = w at *
      refine ⟨by omega, hlt2, b63, o64, ea, _, by rw [Int.toNat_natCast]; exact g0, a66, _, c68, by rw [Int.toNat_natCast]; exact g1, fun b69 H70 hn70 => ⟨hn70.blk.cells _ _ (by simp), fun H71 hp71 => ?_⟩⟩
      have hb71 : Blk H71 b69 [.int .i64 w.1, .slice a66 w.2.length c68] := by simpa [splice] using hp71.blk hn70.blk (by simp)
      have e69 := hn70.eq
      have hx71 : Ext [] H62 H71 := ext_new hn70.ext hp71.ext (by simp; omega)
      have hs71 := hx71.size
      have hJ71 := hJ62.extP (F' := grow Fj H H71) hx71.toP (by simp) (grow_in (fun _ h => h) (Nat.le_refl _) hs71) (grow_lt hFjlt (by omega))
      refine ⟨pj, 0, rfl, _, hJ71.head.cell 5, w.1, hb71.cell 0, a66, _, c68, hb71.cell 1, r, l'', rfl, hJ71.map, fun H81 hp81 => ?_⟩
      obtain ⟨hJ81, hx81⟩ := hJ71.take (k := w.1) (x := w.2) ⟨a66, c68, rfl, gr.ext hx71 (by simp), fun k hk => by
        have := gf k hk
        exact ⟨.inr ⟨by omega, by omega⟩, by omega, by omega⟩⟩ hp81
      have hs81 : H81.size = H71.size := by obtain ⟨_, _, _, rfl, _⟩ := hp81; simp
      refine ⟨⟨by omega, by omega⟩, ⟨i + 1, mapSet l'' w.1 (.slice a66 w.2.length c68), by omega, by omega, ?_, hx62.trans (hx71.anyP.trans (hx81.toP.mono (fun k _ hk => .inr (by simpa using hk))))⟩, by simp only []; omega⟩
      rw [htk, tAll_snoc]
      have : grow Fj H H81 = grow Fj H H71 := by unfold grow; rw [hs81]
      rw [this]
      exact hJ81
    · have : i = wl.length := by omega
      subst this
      rw [List.take_length] at hJ62
      refine ⟨by omega, by omega, ?_⟩
      rintro _ rfl
      refine ⟨pj, 0, rfl, h'.seq, hJ62.head.cell 2, ⟨by omega, by omega⟩, pj, 0, rfl, hJ62.head.cells 1 2 (by simp [Jn.cells]), fun H88 hp88 => ?_⟩
      obtain ⟨hJ88, hx88⟩ := hJ62.poke (J' := recJ J ({ h' with seq := h'.seq + 1 }, tAll t' wl)) hp88 (by decide) (by simp [Jn.cells, recJ]) rfl
      have hs88 : H88.size = H62.size := hp88.size
      have hxj : ExtP (fun k => k = pj ∨ k = r) H42 H88 := hx62.trans (hx88.toP.mono (fun k _ hk => .inl (by simpa using hk)))
      have hpr : ∀ k, k = pj ∨ k = r → Fj k := fun k hk => by
        rcases hk with rfl | rfl
        · exact hJ.hj
        · exact hJ.hr
      have hxF : ExtP Fj H42 H88 := hxj.mono (fun k _ hk => hpr k hk)
      refine ⟨⟨bs.drop q.toNat, f - 1, { h' with seq := h'.seq + 1 }, tAll t' wl, l'', by rw [List.length_drop], by omega, by omega, by omega, fun x hx => hbb x (List.mem_of_mem_drop hx), ?_, hrec2, he', hz', by show 0 ≤ h'.seq + 1; omega, by show h'.seq + 1 + _ ≤ _; omega, hto.all wl hmay.2.1, hd42.ext hxj (fun k hk hk' => hdis k hk (hpr k hk')), ?_, hX42.trans hxF⟩, by simp only []; omega⟩
      · exact ((hk32.ext hx42.anyP).ext hxF).drop (by omega) hc31
      · have : grow Fj H H88 = grow Fj H H62 := by unfold grow; rw [hs88]
        rw [this]
        exact hJ88
end Go.Proofs
end

section
open Go Go.Vc
namespace Go.Proofs

theorem numU4 (s : Octs × Bool) : 0 ≤ numU s 4 ∧ numU s 4 < 4294967296 := numU_lt4 s
theorem readM_ok {n : Nat} {D : Dev} (h : (readM n D).2 = 0) : D.dead = false ∧ (readM n D).1 = parseH (D.now[0]?.getD []) ∧ hdrB (readM n D).1 = D.now[0]?.getD [] ∧ 4 ≤ (readM n D).1.size ∧ (readM n D).1.size ≤ n - 4 ∧ 0 < (readM n D).1.seq ∧ (readM n D).1.seq < 4294967296 ∧ 0 ≤ (readM n D).1.epoch ∧ (readM n D).1.epoch < 4294967296 := by
  unfold readM at h ⊢
  split at h
  · simp at h
  · rename_i h1
    simp only at h ⊢
    split at h
    · simp at h
    · rename_i h2
      rw [if_neg h1, if_neg h2]
      simp only [not_or, Decidable.not_not] at h2
      obtain ⟨g1, g2, g3⟩ := h2
      have k1 := numU4 (rdU (D.now[0]?.getD [], false) 4).2
      have k2 := numU4 (rdU (rdU (D.now[0]?.getD [], false) 4).2 4).2
      have k3 : ¬ homeN n (parseH (D.now[0]?.getD [])).size < 0 := g2
      have k4 : 4 ≤ (parseH (D.now[0]?.getD [])).size ∧ (parseH (D.now[0]?.getD [])).size ≤ n - 4 := by
        unfold homeN at k3
        split at k3
        · exact absurd (by decide) k3
        · omega
      refine ⟨by simpa using h1, rfl, g1, k4.1, k4.2, ?_, k2.2, k1.1, k1.2⟩
      have : 0 ≤ (parseH (D.now[0]?.getD [])).seq := k2.1
      show 0 < (parseH (D.now[0]?.getD [])).seq
      omega

/-- What an opening gives. -/
def OpenR (n : Nat) (H : Heap) (F : Nat → Prop) (pd : Nat) (D : Dev) (v : Value) (H' : Heap) : Prop :=
  (∃ e, openM n D = ((openM n D).1, none, e) ∧ e ≠ 0 ∧ v = .tuple #[.pointer none, .int .i64 e] ∧ IsDev H' (grow F H H') pd (openM n D).1) ∨
  (∃ pj J, openM n D = ((openM n D).1, some J, 0) ∧ v = .tuple #[.pointer (some ⟨pj, 0, none⟩), .int .i64 0] ∧ JD H' (grow F H H') pj pd J (openM n D).1)

theorem open_nil (H : Heap) : Does Tryz.prog 18 [.pointer none] H fun v H' => v = .tuple #[.pointer none, .int .i64 1] ∧ H = H' := by
  refine Fn_of_vc Tryz.mixed (vc_open _ _ _) ?_
  exact ⟨fun _ => ⟨rfl, rfl⟩, fun h => absurd rfl h⟩

set_option maxHeartbeats 1000000 in
theorem open_ok {H : Heap} {F : Nat → Prop} {pd : Nat} {D : Dev} {n B : Nat} (hd : IsDev H F pd D) (hw : D.Wf n B) (hB : B ≤ 800000000) (hn : n ≤ 4096) (h8 : 0 < n) :
    Does Tryz.prog 18 [.pointer (some ⟨pd, 0, none⟩)] H fun v H' => OpenR n H F pd D v H' ∧ ExtP F H H' := by
  refine Fn_of_vc Tryz.mixed (vc_open _ _ _) ?_
  refine ⟨fun h => by simp at h, fun _ => (hread_ok hd hw h8).mono ?_⟩
  rintro _ H2 ⟨rfl, hx2⟩
  refine ⟨_, _, _, _, rfl, fun b7 H8 hn8 => ⟨hn8.blk.cells 3 0 (by simp), fun H9 hp9 => ?_⟩⟩
  have e7 := hn8.eq
  have hb9 : Blk H9 b7 (readM n D).1.cells := by simpa [splice, Hd.cells] using hp9.blk hn8.blk (by simp)
  have hx9 : Ext [] H H9 := hx2.trans (ext_new hn8.ext hp9.ext (by simp; omega))
  have hs9 := hx9.size
  refine ⟨fun hne => ⟨.inl ⟨(readM n D).2, ?_, hne, rfl, ?_⟩, hx9.anyP⟩, fun he0 => ?_⟩
  · unfold openM; rw [if_pos hne]
  · have : (openM n D).1 = D := by unfold openM; rw [if_pos hne]
    rw [this]
    exact (hd.ext hx9.toP (by simp)).up (fun _ => .inl) (grow_lt hd.lt hs9)
  have he0' : (readM n D).2 = 0 := by simpa using he0
  obtain ⟨hdd, _, _, z0, z1, q0, q1, p0, p1⟩ := readM_ok he0'
  have hO : openM n D = (if (recoverM n ⟨(readM n D).1, 0, [], false⟩ D).2.2 ≠ 0 then ((recoverM n ⟨(readM n D).1, 0, [], false⟩ D).1, none, (recoverM n ⟨(readM n D).1, 0, [], false⟩ D).2.2) else ((recoverM n ⟨(readM n D).1, 0, [], false⟩ D).1, some (recoverM n ⟨(readM n D).1, 0, [], false⟩ D).2.1, 0)) := by
    unfold openM; rw [if_neg he0]
  rw [show OpenR n H F pd D = fun v H' => OpenR n H F pd D v H' from rfl]
  unfold OpenR
  rw [hO]
  generalize (readM n D).1 = h at *
  refine ⟨_, hb9.cell 0, _, hb9.cell 1, _, hb9.cell 2, fun r13 H14 hnm => fun b15 H16 hn16 => ?_⟩
  have e13 : r13 = H9.size := hnm.1
  have hx14 := NewMap.ext hnm
  have hs14 : H14.size = H9.size + 1 := by obtain ⟨_, rfl⟩ := hnm; simp
  have hm14 : MapIs H14 r13 [] := by
    obtain ⟨rfl, rfl⟩ := hnm
    exact ⟨#[], 0, by simp, rfl, MapKept.stamped_empty _⟩
  have e15 := hn16.eq
  have hs16 := hn16.size
  have hX16 := (hx9.trans hx14).trans hn16.ext
  have hb16 : Blk H16 b15 ((⟨h, 0, [], false⟩ : Jn).cells pd r13) := hn16.blk
  have hjd : JD H16 (grow F H H16) b15 pd ⟨h, 0, [], false⟩ D := ⟨F, fun k => k = b15 ∨ k = r13, r13, [], hd.ext hX16.toP (by simp), ⟨hb16, MapIs.ext hm14 hn16.ext (by simp), trivial, .inl rfl, .inr rfl, by omega, fun k hk => by rcases hk with rfl | rfl <;> omega⟩, fun k hk hk' => by
      have := hd.lt k hk
      rcases hk' with rfl | rfl <;> omega, fun k hk => .inl hk, fun k hk => by rcases hk with rfl | rfl <;> exact .inr ⟨by omega, by omega⟩, grow_lt hd.lt (by omega)⟩
  have hjw : (⟨h, 0, [], false⟩ : Jn).Wf n := ⟨⟨z0, z1⟩, ⟨by show 0 ≤ h.seq; omega, by show h.seq ≤ _; omega⟩, ⟨p0, by show h.epoch ≤ _; omega⟩, ⟨Int.le_refl _, by show 0 ≤ h.size; omega⟩, TOk.nil _⟩
  refine (recover_ok hjd hw hB hn hjw (by show h.seq ≤ _; omega) (by show h.epoch ≤ _; omega)).mono ?_
  rintro _ H18 ⟨rfl, hjd18, hx18⟩
  have hs18 := hx18.size
  have hjd18' := hjd18.up (F' := grow F H H18) (grow_sub (by omega) hs18) (grow_lt hd.lt (by omega))
  have hX18 : ExtP F H H18 := hX16.anyP.trans' hx18 (fun i hi => by
    rcases hi with hi | hi
    · exact .inr hi
    · exact .inl hi.1)
  refine ⟨_, rfl, fun hne => ⟨.inl ⟨_, ?_, hne, rfl, ?_⟩, hX18⟩, fun he => ⟨.inr ⟨b15, (recoverM n ⟨h, 0, [], false⟩ D).2.1, ?_, rfl, ?_⟩, hX18⟩⟩
  · rw [if_pos hne]
  · rw [if_pos hne]; exact hjd18'.dev
  · rw [if_neg he]
  · rw [if_neg he]; exact hjd18'

theorem format_nil (size : Int) (H : Heap) : Does Tryz.prog 17 [.pointer none, .int .i64 size] H fun v H' => v = .int .i64 1 ∧ H = H' := by
  refine Fn_of_vc Tryz.mixed (vc_format _ _ _ _) ?_
  exact ⟨fun _ => ⟨rfl, rfl⟩, fun h => absurd rfl h⟩

theorem format_ok {H : Heap} {F : Nat → Prop} {pd : Nat} {D : Dev} {n B : Nat} (hd : IsDev H F pd D) (hw : D.Wf n B) (hB : B ≤ 800000000) (hn : n ≤ 4096) (size : Int) :
    Does Tryz.prog 17 [.pointer (some ⟨pd, 0, none⟩), .int .i64 size] H fun v H' => v = .int .i64 (formatM n size D).2 ∧ IsDev H' (grow F H H') pd (formatM n size D).1 ∧ ExtP F H H' := by
  refine Fn_of_vc Tryz.mixed (vc_format _ _ _ _) ?_
  have hlt := hd.lt
  refine ⟨fun h => by simp at h, fun _ => (home_ok hd hw size).mono ?_⟩
  rintro _ _ ⟨rfl, rfl⟩
  unfold formatM
  refine ⟨_, rfl, fun hneg => ?_, fun hpos => ?_⟩
  · rw [if_pos hneg]
    exact ⟨rfl, hd.up (fun _ => .inl) (grow_lt hlt (Nat.le_refl _)), ExtP.refl _ _⟩
  rw [if_neg hpos]
  have hsz : 4 ≤ size ∧ size ≤ n - 4 := by
    unfold homeN at hpos
    split at hpos
    · exact absurd (by decide) hpos
    · omega
  have step : ∀ {A C : Heap}, ExtP F H A → ExtP (grow F H A) A C → ExtP F H C := fun h1 h2 => h1.trans' h2 (fun i hi => by
    rcases hi with hi | hi
    · exact .inr hi
    · exact .inl hi.1)
  refine ⟨fun i H' => ∃ (j : Nat) (D' : Dev), i = j ∧ j ≤ size.toNat ∧ fmtW n size.toNat 0 D = fmtW n (size.toNat - j) j D' ∧ D'.Wf n (B + j) ∧ IsDev H' (grow F H H') pd D' ∧ ExtP F H H', fun i _ => size.toNat - i.toNat,
    ⟨0, D, rfl, by omega, rfl, hw, hd.up (fun _ => .inl) (grow_lt hlt (Nat.le_refl _)), ExtP.refl _ _⟩, ?_⟩
  rintro _ H7 ⟨j, D', rfl, hj, hf, hw', hd', hx'⟩
  have hs' := hx'.size
  refine ⟨fun h1 => ⟨⟨by omega, by omega⟩, by decide, by decide, by decide, fun b8 H9 hn9 => ?_⟩, fun h1 => ?_⟩
  · have e128 : Int.toNat 128 = 128 := rfl
    rw [e128] at hn9 ⊢
    have e8 := hn9.eq
    have hs9 := hn9.size
    have hel := new_elem hn9
    obtain ⟨a0, m0, c0, ev, _, hrow, _⟩ := hel
    cases ev
    have hX9 := hx'.trans hn9.ext.anyP
    have hd9 := (hd'.ext hn9.ext.toP (by simp)).up (F' := grow F H H9) (grow_in (fun _ h => h) (Nat.le_refl _) (by omega)) (grow_lt hlt (by omega))
    refine (dwrite_ok (hd'.ext hn9.ext.toP (by simp)) hw' (by omega) (1 + (j : Int)) (KeptB.of hrow (fun i hi hg => by
      simp only [blkOf, List.mem_singleton] at hi
      subst hi
      have := hd'.lt _ hg
      omega))).mono ?_
    rintro _ H11 ⟨rfl, hd11, hx11⟩
    have hs11 := hx11.size
    have hX11 : ExtP F H H11 := hX9.trans' hx11 (fun i hi => by
      rcases hi with hi | hi
      · exact .inr hi
      · exact .inl hi.1)
    have hd11' := hd11.up (F' := grow F H H11) (fun k hk => by
      rcases hk with (hk | hk) | hk
      · exact .inl hk
      · exact .inr ⟨hk.1, by omega⟩
      · exact .inr ⟨by omega, hk.2⟩) (grow_lt hlt (by omega))
    have hfj : fmtW n (size.toNat - j) j D' = if (writeD D' n (1 + (j : Int)) zeros).2 ≠ 0 then writeD D' n (1 + (j : Int)) zeros else fmtW n (size.toNat - (j + 1)) ((j + 1 : Nat) : Int) (writeD D' n (1 + (j : Int)) zeros).1 := by
      obtain ⟨m, hm⟩ : ∃ m, size.toNat - j = m + 1 := ⟨size.toNat - j - 1, by omega⟩
      rw [hm, fmtW, show size.toNat - (j + 1) = m by omega]; rfl
    refine ⟨_, rfl, fun hne => ?_, fun he => ⟨⟨by omega, by omega⟩, ⟨j + 1, _, by omega, by omega, ?_, (writeWf hw' (1 + (j : Int)) zeros).up (by omega), hd11', hX11⟩, by simp only []; omega⟩⟩
    · rw [hf, hfj, if_pos hne, if_pos hne]
      exact ⟨rfl, hd11', hX11⟩
    · rw [hf, hfj, if_neg he]
  · have : j = size.toNat := by omega
    subst this
    have hf0 : fmtW n size.toNat 0 D = (D', 0) := by rw [hf, Nat.sub_self]; rfl
    rw [hf0]
    simp only [ne_eq, not_true, if_false]
    refine (hlay_ok ⟨1, 1, size⟩ H7).mono ?_
    rintro _ H14 ⟨⟨a15, c17, rfl, ho14, hf14⟩, hx14⟩
    have hs14 := hx14.size
    refine ⟨_, _, _, rfl, (dwrite_ok (hd'.ext hx14.toP (by simp)) hw' (by omega) 0 (KeptB.of (ho14.row _ c17) (fun i hi hg => by have := hf14 i hi; have := hd'.lt i hg; omega))).mono ?_⟩
    rintro _ H19 ⟨rfl, hd19, hx19⟩
    have hs19 := hx19.size
    have hX19 : ExtP F H H19 := (hx'.trans hx14.anyP).trans' hx19 (fun i hi => by
      rcases hi with hi | hi
      · exact .inr hi
      · exact .inl hi.1)
    have hd19' := hd19.up (F' := grow F H H19) (fun k hk => by
      rcases hk with (hk | hk) | hk
      · exact .inl hk
      · exact .inr ⟨hk.1, by omega⟩
      · exact .inr ⟨by omega, hk.2⟩) (grow_lt hlt (by omega))
    have hw19 := writeWf hw' 0 (hdrB ⟨1, 1, size⟩)
    refine ⟨_, rfl, fun hne => ?_, fun he => (dflush_ok hd19' hw19 (by omega)).mono ?_⟩
    · rw [if_pos hne]
      exact ⟨rfl, hd19', hX19⟩
    · rintro _ H22 ⟨rfl, hd22, hx22⟩
      rw [if_neg he]
      refine ⟨_, rfl, rfl, hd22.up (grow_sub (by omega) hx22.size) (grow_lt hlt (by have := hx22.size; omega)), step hX19 hx22⟩
end Go.Proofs
end

