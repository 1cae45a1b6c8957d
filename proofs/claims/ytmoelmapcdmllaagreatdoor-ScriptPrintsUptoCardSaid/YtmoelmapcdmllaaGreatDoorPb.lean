/-
  The contracts of the functions that the law reaches, part 2. No condition.
-/
import Derived.Test.YtmoelmapcdmllaaGreatDoorPa
import Derived.Test.YtmoelmapcdmllaaGreatDoorVb
import Derived.Test.YtmoelmapcdmllaaGreatDoorProg

section
open Go Go.Vc Go.RowKit
namespace Go.Proofs

/-! ### The library's functions -/
abbrev From (n : Nat) : Nat → Prop := fun k => n ≤ k
theorem below_ext {n : Nat} {w w' : World} (h : Below n w w') : ExtP (From n) w.heap w'.heap := ⟨h.size, fun k _ hn => h.block k (by
  have : ¬ n ≤ k := hn
  omega)⟩
theorem below_sim {n : Nat} {w w' : World} (h : Below n w w') : Sim w w' := ⟨h.os, h.tape, h.output⟩
theorem _root_.Go.Vc.ExtP.new {n : Nat} {H H' : Heap} (h : ExtP (From n) H H') (hn : H.size ≤ n) : Ext [] H H' := ⟨h.size, fun k hk _ => h.keep k hk (fun hm => by
  have : n ≤ k := hm
  omega)⟩
theorem below_new {w w' : World} (h : Below w.heap.size w w') : Ext [] w.heap w'.heap := (below_ext h).new (Nat.le_refl _)

theorem isBuilder_heap {T e : TypeId} {B b : Nat} {bs : List Value} {w w' : World} (h : w'.heap = w.heap) (k : Lib.IsBuilder T e B b bs w) : Lib.IsBuilder T e B b bs w' := by
  simpa only [Lib.IsBuilder, Lib.BuilderAt, World.ownsRow, h] using k
def IsBld (n b : Nat) (H : Heap) (bs : List UInt8) : Prop := n ≤ H.size ∧ ∀ w : World, w.heap = H → Lib.IsBuilder 98 5 n b (Lib.byteCells bs) w

theorem bld_new {H H2 : Heap} {b : Nat} (h : New H b [.pointer none, .slice none 0 0] 98 H2) : IsBld H.size b H2 [] := by
  obtain ⟨rfl, rfl⟩ := h
  refine ⟨by simp, fun w hw => .inl ⟨Nat.le_refl _, .slice none 0 0, ?_, ⟨rfl, .inl ⟨rfl, rfl⟩⟩, by simp [Value.ownBlock]⟩⟩
  rw [hw]
  simp
theorem wbyte_ok {n b : Nat} {H : Heap} {bs : List UInt8} (h : IsBld n b H bs) (c : UInt8) {q : Int} (hq : q = (c.toNat : Int)) (hl : bs.length + 1 ≤ 140737488355328) : Does Tryz.prog 84 [.pointer (some ⟨b, 0, none⟩), .int .u8 q] H fun v H' => v = .nilIface ∧ IsBld n b H' (bs ++ [c]) ∧ ExtP (From n) H H' := by
  intro w hw
  subst hq
  refine (Tryz.Builder_WriteByte n b (Lib.byteCells bs) c.toNat w (h.2 w hw) (by simpa [Lib.byteCells] using hl) (by rw [hw]; exact h.1)).mono ?_
  rintro e w' ⟨rfl, h1, h2⟩
  have hx := below_ext h2
  rw [hw] at hx
  refine ⟨_, rfl, below_sim h2, rfl, ⟨Nat.le_trans h.1 hx.size, fun u hu => isBuilder_heap hu (.inr ?_)⟩, hx⟩
  have e : Lib.byteCells (bs ++ [c]) = Lib.byteCells bs ++ [.int .u8 c.toNat] := by simp [Lib.byteCells]
  rw [e]
  exact h1
theorem bstr_ok {n b : Nat} {H : Heap} {bs : List UInt8} (h : IsBld n b H bs) : Does Tryz.prog 57 [.pointer (some ⟨b, 0, none⟩)] H fun v H' => v = .string ⟨bs.toArray⟩ ∧ ExtP (From n) H H' := by
  intro w hw
  refine (Tryz.Builder_String_any n b bs w (h.2 w hw) (by rw [hw]; exact h.1)).mono ?_
  rintro e w' ⟨rfl, h2⟩
  have hx := below_ext h2
  rw [hw] at hx
  exact ⟨_, rfl, below_sim h2, rfl, hx⟩

theorem decDigits_eq : ∀ (n : Nat), Lib.decDigits n = decL n := by
  intro n
  induction n using Nat.strongRecOn with
  | ind n ih =>
    rw [Lib.decDigits, decL_step n]
    by_cases h : n < 10
    · rw [dif_pos h, if_pos h]
    · rw [dif_neg h, if_neg h, ih (n / 10) (by omega)]
theorem itoa_eq (n : Int) : (⟨(Lib.itoa n).toArray⟩ : ByteArray) = intS n := by
  unfold Lib.itoa intS
  split
  · rw [decDigits_eq]
  · rw [decDigits_eq, show n.toNat = n.natAbs by omega]
theorem grow_below (w : World) (k : Nat) (os : Array Obj) : Below w.heap.size w (Sort.grow (w.drewN k) os) :=
  ⟨rfl, rfl, rfl, by simp [Sort.grow, World.drewN], fun j hj => by simp [Sort.grow, World.drewN, Array.getElem?_append, hj]⟩
theorem itoa_ok {n : Int} (hn : In64 n) {H : Heap} (g : Glob H) : Does Tryz.prog 58 [.int .i64 n] H fun v H' => v = .string (intS n) ∧ Ext [] H H' := by
  intro w hw
  refine (Tryz.strconv_Itoa n hn.1 hn.2 w ?_).mono ?_
  · obtain ⟨t, f, h⟩ := g.p10
    have hg : Tryz.prog.globalNamed "internal/strconv.uint64pow10" = some 4 := by kernel_rfl
    unfold Lib.TabIs World.var?
    rw [hg, Option.bind_some, hw, h]
  · rintro e w' ⟨rfl, k, os, rfl⟩
    have hb := grow_below w k os
    have hx := below_new hb
    rw [hw] at hx
    exact ⟨_, rfl, below_sim hb, by rw [itoa_eq], hx⟩

/-! Numbers of texts -/
theorem valL_mono : ∀ (l : List UInt8) (acc : Nat), acc ≤ valL acc l
  | [], acc => by rw [valL_nil]; exact Nat.le_refl _
  | c :: r, acc => by rw [valL_cons]; exact Nat.le_trans (by omega) (valL_mono r _)
theorem parse_digits : ∀ (l : List UInt8) (acc : Nat), (∀ c ∈ l, 48 ≤ c.toNat ∧ c.toNat ≤ 57) → valL acc l < 1844674407370955162 → Lib.parseUint10 acc l = .ok (valL acc l)
  | [], acc, _, _ => by rw [valL_nil]; rfl
  | c :: r, acc, hd, hv => by
    have h1 := hd c (by simp)
    have hm := valL_mono r (acc * 10 + (c.toNat - 48))
    rw [valL_cons] at hv ⊢
    unfold Lib.parseUint10
    rw [if_pos h1, if_neg (by omega), if_neg (by omega)]
    exact parse_digits r _ (fun x hx => hd x (by simp [hx])) hv
theorem atoi_dec {k : Int} (h0 : 0 ≤ k) (h1 : k ≤ 999999) : Lib.atoiAll (intS k).data.toList = .ok k := by
  rw [intS_pos h0]
  show Lib.atoiAll (decL k.toNat).toArray.toList = _
  rw [List.toList_toArray]
  have hd := decL_dig k.toNat
  have hp := decL_pos k.toNat
  have hv := valL_dec k.toNat
  generalize decL k.toNat = l at hd hp hv
  cases l with
  | nil => simp at hp
  | cons c r =>
    have hc := hd c (by simp)
    unfold Lib.atoiAll
    simp only []
    rw [if_neg (by omega)]
    unfold Lib.parseMag
    rw [if_neg (by simp), parse_digits _ 0 hd (by omega), hv]
    simp only []
    rw [if_neg (by omega), if_neg (by omega), if_neg (by omega), Int.toNat_of_nonneg h0]
theorem atoiAll_in {l : List UInt8} {v : Int} (h : Lib.atoiAll l = .ok v) : In64 v := by
  unfold Lib.atoiAll at h
  split at h
  · cases h
  · rename_i c r
    simp only [] at h
    split at h
    · cases h
    · cases h
    · rename_i u hu
      split at h
      · cases h
      · rename_i h1
        split at h
        · cases h
        · rename_i h2
          simp only [Lib.NumEnd.ok.injEq] at h
          split at h
          · exact ⟨by omega, by omega⟩
          · exact ⟨by omega, by omega⟩
theorem atoi_ok (s : ByteArray) (hs : s.size ≤ 1000000000) {H : Heap} (g : Glob H) : Does Tryz.prog 97 [.string s] H fun v H' => ∃ n ev, v = .tuple #[.int .i64 n, ev] ∧ In64 n ∧ IsInt s n ∧ (ev = .nilIface ∨ ∃ t p, ev = .iface t p) ∧ Ext [] H H' := by
  intro w hw
  have no : ∀ n : Int, (∀ k : Int, Lib.atoiAll s.data.toList ≠ .ok k) → IsInt s n := fun n hno k k0 k1 e => by
    subst e
    exact absurd (atoi_dec k0 k1) (hno k)
  have hv7 : ∃ t p, w.cell? ⟨7, 0, none⟩ = some (.iface t p) := by obtain ⟨⟨t, p, h⟩, _⟩ := g.err; exact ⟨t, p, by rw [cell_hcell, hw]; exact h⟩
  have hv8 : ∃ t p, w.cell? ⟨8, 0, none⟩ = some (.iface t p) := by obtain ⟨_, ⟨t, p, h⟩⟩ := g.err; exact ⟨t, p, by rw [cell_hcell, hw]; exact h⟩
  obtain ⟨t7, p7, hv7⟩ := hv7
  obtain ⟨t8, p8, hv8⟩ := hv8
  cases ha : Lib.atoiAll s.data.toList with
  | ok v =>
    refine (Tryz.strconv_Atoi_ok s (by omega) v ha w).mono ?_
    rintro e w' ⟨rfl, hww⟩
    have hb : Below w.heap.size w w' := by
      rcases hww with rfl | ⟨t, rfl⟩
      · exact Below.refl _ _
      · exact Lib.bytesWorld_below _ _ _
    have hx := below_new hb
    rw [hw] at hx
    refine ⟨_, rfl, below_sim hb, v, _, rfl, atoiAll_in ha, fun k k0 k1 e => ?_, .inl rfl, hx⟩
    subst e
    rw [atoi_dec k0 k1] at ha
    cases ha
    rfl
  | range =>
    refine (Tryz.strconv_Atoi_range s (by omega) ha _ w hv8 (.inr ⟨_, _, rfl⟩)).mono ?_
    rintro e w' ⟨N, rfl, _, _, hb⟩
    have hx := below_new hb
    rw [hw] at hx
    refine ⟨_, rfl, below_sim hb, _, _, rfl, ?_, no _ (by rw [ha]; simp), .inr ⟨_, _, rfl⟩, hx⟩
    unfold Lib.atoiSat
    split
    · exact ⟨by decide, by decide⟩
    · exact ⟨by decide, by decide⟩
  | _ =>
    refine (Tryz.strconv_Atoi_syntax s (by omega) _ ha (fun v h => by cases h) (fun h => by cases h) _ w hv7 (.inr ⟨_, _, rfl⟩)).mono ?_
    rintro e w' ⟨N, rfl, _, _, hb⟩
    have hx := below_new hb
    rw [hw] at hx
    exact ⟨_, rfl, below_sim hb, 0, _, rfl, ⟨by decide, by decide⟩, no _ (by rw [ha]; simp), .inr ⟨_, _, rfl⟩, hx⟩

/-! Cutting, splitting, joining -/
theorem drewN_heap : ∀ (n : Nat) (w : World), (w.drewN n).heap = w.heap ∧ Sim w (w.drewN n) := by
  intro n w
  exact ⟨rfl, ⟨rfl, rfl, rfl⟩⟩
theorem cut_ok (s sep : ByteArray) (hs : s.size < 4294967281) {H : Heap} (g : Glob H) : Does Tryz.prog 71 [.string s, .string sep] H fun v H' => v = .tuple #[.string ⟨(Lib.cut s.data.toList sep.data.toList).1.toArray⟩, .string ⟨(Lib.cut s.data.toList sep.data.toList).2.1.toArray⟩, .bool (Lib.cut s.data.toList sep.data.toList).2.2] ∧ H = H' := by
  intro w hw
  obtain ⟨m, hm⟩ := g.maxl
  refine (Tryz.strings_Cut s sep m w hs (by rw [cell_hcell, hw]; exact hm)).mono ?_
  rintro e w' ⟨rfl, n, rfl⟩
  exact ⟨_, rfl, (drewN_heap n w).2, rfl, by rw [(drewN_heap n w).1, hw]⟩

theorem index_blank : ∀ (l : List UInt8), (Lib.index l [32] = -1 ∧ splitL l = [l]) ∨ ∃ i : Nat, Lib.index l [32] = i ∧ i < l.length ∧ splitL l = l.take i :: splitL (l.drop (i + 1))
  | [] => .inl ⟨by decide, rfl⟩
  | c :: r => by
    by_cases hc : c = 32
    · subst hc
      refine .inr ⟨0, ?_, by simp, by simp [splitL]⟩
      unfold Lib.index
      simp [List.isPrefixOf]
    · have hp : ([32] : List UInt8).isPrefixOf (c :: r) = false := by simp [List.isPrefixOf]; exact fun h => hc h.symm
      have e : Lib.index (c :: r) [32] = if Lib.index r [32] == -1 then -1 else Lib.index r [32] + 1 := by
        conv => lhs; unfold Lib.index
        rw [hp]; rfl
      rcases index_blank r with ⟨h1, h2⟩ | ⟨i, h1, h2, h3⟩
      · left
        refine ⟨by rw [e, h1]; rfl, ?_⟩
        simp only [splitL, if_neg hc, h2]
      · right
        refine ⟨i + 1, ?_, by simp; omega, ?_⟩
        · rw [e, h1]
          have : ¬ ((i : Int) == -1) = true := by simp
          rw [if_neg this]; rfl
        · simp only [splitL, if_neg hc, h3]
          simp
theorem splitK_blank : ∀ (k : Nat) (s : List UInt8), s.length ≤ k → Lib.splitK [32] 0 k s = splitL s
  | 0, s, h => by
    have : s = [] := List.eq_nil_of_length_eq_zero (by omega)
    subst this
    rfl
  | k + 1, s, h => by
    unfold Lib.splitK
    rcases index_blank s with ⟨h1, h2⟩ | ⟨i, h1, h2, h3⟩
    · rw [h1, h2]; rfl
    · rw [h1]
      have : ¬ ((i : Int) == -1) = true := by simp
      rw [if_neg this, h3]
      simp only [Int.toNat_natCast, Nat.add_zero, List.length_singleton]
      rw [splitK_blank k _ (by simp; omega)]
/-- More instances than there are change nothing. -/
theorem splitK_count : ∀ (fuel : Nat) (s : List UInt8), s.length < fuel → Lib.splitK [32] 0 (Lib.countFrom [32] fuel s) s = splitL s
  | 0, s, h => by omega
  | f + 1, s, h => by
    rcases index_blank s with ⟨h1, h2⟩ | ⟨i, h1, h2, h3⟩
    · unfold Lib.countFrom
      rw [h1, h2]
      rfl
    · unfold Lib.countFrom
      rw [h1]
      have hne : ¬ ((i : Int) == -1) = true := by simp
      rw [if_neg hne, Nat.add_comm, Lib.splitK, h1, if_neg hne, h3]
      simp only [Int.toNat_natCast, Nat.add_zero, List.length_singleton]
      rw [splitK_count f _ (by simp; omega)]

theorem mk_data (s : ByteArray) : (⟨s.data.toList.toArray⟩ : ByteArray) = s := by
  apply ByteArray.ext; simp
theorem splitB_words (s : ByteArray) : Lib.splitB ⟨#[32]⟩ 0 (Lib.countB s ⟨#[32]⟩) s = wordsS s := by
  have h := Lib.splitB_data ⟨#[32]⟩ 0 (Lib.countB s ⟨#[32]⟩) s
  have h2 : Lib.splitK [32] 0 (Lib.countB s ⟨#[32]⟩) s.data.toList = splitL s.data.toList := splitK_count _ _ (by omega)
  have h3 : (Lib.splitB ⟨#[32]⟩ 0 (Lib.countB s ⟨#[32]⟩) s).map (·.data.toList) = splitL s.data.toList := h.trans h2
  unfold wordsS
  rw [← h3, List.map_map]
  conv => lhs; rw [← List.map_id (Lib.splitB _ _ _ _)]
  refine List.map_congr_left fun w _ => ?_
  simp
theorem split_ok (s : ByteArray) (hs : s.size < 4294967281) {H : Heap} (g : Glob H) : Does Tryz.prog 23 [.string s, .string ⟨#[32]⟩] H fun v H' => v = .slice (some ⟨H.size, 0, none⟩) (wordsS s).length (wordsS s).length ∧ Blk H' H.size ((wordsS s).map Value.string) ∧ Ext [] H H' ∧ H'.size = H.size + 1 := by
  intro w hw
  obtain ⟨m, hm⟩ := g.maxl
  refine (Tryz.strings_Split s ⟨#[32]⟩ m w hs (by rw [cell_hcell, hw]; exact hm) (by decide)).mono ?_
  rintro e w' ⟨rfl, rfl⟩
  have hl := Lib.splitB_all ⟨#[32]⟩ (by decide) 0 _ s rfl
  rw [splitB_words] at hl ⊢
  rw [← hl, hw]
  refine ⟨_, rfl, ⟨rfl, rfl, rfl⟩, rfl, ⟨9, ?_⟩, ⟨?_, fun k hk _ => ?_⟩, ?_⟩
  · show (w.heap.push _)[H.size]? = _
    rw [← hw]; simp
  · show H.size ≤ (w.heap.push _).size
    rw [← hw]; simp
  · show (w.heap.push _)[k]? = _
    rw [hw, Array.getElem?_push, if_neg (by omega)]
  · show (w.heap.push _).size = _
    rw [hw]; simp

theorem join_list : ∀ (xs : List (List UInt8)), Lib.join xs [32] = joinL xs
  | [] => rfl
  | [w] => by rw [Lib.join_one]; rfl
  | w :: v :: r => by
    have ih := join_list (v :: r)
    rw [Lib.join_cons, joinL, ← ih, Lib.join_cons]
    simp [Lib.joinTail]
theorem join_ok {H : Heap} {a : Option Addr} {c : Nat} {ws : List ByteArray} (h : Own H 1 a ws.length c (ws.map Value.string)) (hne : ws ≠ []) (hn : ws.length ≤ 1000000000) (hj : (joinW ws).size ≤ 140737488355328) : Does Tryz.prog 34 [.slice a ws.length c, .string ⟨#[32]⟩] H fun v H' => v = .string (joinW ws) ∧ Ext [] H H' := by
  intro w hw
  obtain ⟨h1, h2, h3, h4⟩ := h
  have hpos : 0 < ws.length := List.length_pos_iff.2 hne
  rcases h4 with ⟨rfl, rfl⟩ | ⟨b, tail, rfl, hb, hl⟩
  · omega
  have hlt := hb.lt
  have hjl : (Lib.join (ws.map (·.data.toList)) [32]).length ≤ 140737488355328 := by
    rw [join_list]
    have : (joinW ws).size = (joinL (ws.map fun w => w.data.toList)).length := by show (List.toArray _).size = _; simp
    rw [← this]; exact hj
  refine (Tryz.strings_Join b 0 c ws ⟨#[32]⟩ w (fun j x hx => ?_) (by rw [hw]; exact hlt) (by omega) h2 hjl).mono ?_
  · rw [cell_hcell, hw, hb.cell, Nat.zero_add]
    have hj : j < ws.length := (List.getElem?_eq_some_iff.1 hx).1
    rw [List.getElem?_append_left (by simpa using hj), List.getElem?_map, hx]
    rfl
  · rintro e w' ⟨rfl, hb⟩
    have hx := below_new hb
    rw [hw] at hx
    refine ⟨_, rfl, below_sim hb, ?_, hx⟩
    show Value.string ⟨(Lib.join (ws.map (·.data.toList)) [32]).toArray⟩ = _
    rw [join_list]
    rfl
theorem ixb_ok (s : ByteArray) (c : UInt8) {q : Int} (hq : q = (c.toNat : Int)) (H : Heap) : Does Tryz.prog 99 [.string s, .int .u8 q] H fun v H' => v = .int .i64 (Lib.indexByte s.data.toList c) ∧ H = H' := by
  intro w hw
  subst hq
  refine (Tryz.strings_IndexByte s (c.toNat : Int) w).mono ?_
  rintro e w' ⟨rfl, rfl⟩
  refine ⟨_, rfl, ⟨rfl, rfl, rfl⟩, ?_, hw.symm⟩
  rw [Int.toNat_natCast]
  simp

end Go.Proofs
end

section
open Go Go.Vc
namespace Go.Proofs

/-! ### Texts -/
theorem okB_iff (c : UInt8) : okB c = true ↔ ((97 ≤ (c.toNat : Int) ∧ (c.toNat : Int) ≤ 122) ∨ (48 ≤ (c.toNat : Int) ∧ (c.toNat : Int) ≤ 57) ∨ (c.toNat : Int) = 47 ∨ (c.toNat : Int) = 46 ∨ (c.toNat : Int) = 45 ∨ (c.toNat : Int) = 95) := by
  unfold okB
  simp only [Bool.or_eq_true, Bool.and_eq_true, decide_eq_true_eq, beq_iff_eq]
  omega
theorem okB_next {s : List UInt8} {n : Nat} (h : s.take n |>.all okB) (hn : n < s.length) (ho : okB (s.getD n 0) = true) : (s.take (n + 1)).all okB := by
  rw [List.take_add_one, List.all_append, h]
  simp [List.getD_eq_getElem?_getD, List.getElem?_eq_getElem hn] at ho ⊢
  exact ho
theorem plain_no {s : List UInt8} {n : Nat} (hn : n < s.length) (ho : ¬ okB (s.getD n 0) = true) : s.all okB = false := by
  rw [List.all_eq_false]
  refine ⟨s.getD n 0, ?_, ho⟩
  simp [List.getD_eq_getElem?_getD, List.getElem?_eq_getElem hn]

theorem plain_okT (s : ByteArray) (hs : s.size ≤ 1000000000) (H : Heap) : Does Tryz.prog 83 [.string s] H fun v H' => v = .bool (plainT s) ∧ Ext [] H H' := by
  have hl : s.data.toList.length = s.size := Array.length_toList
  refine Fn_of_vc Tryz.mixed (PlainTV _ _ _) ?_
  intro c b H3 hn
  refine ⟨fun n H' => ∃ k : Nat, n = k ∧ k ≤ s.size ∧ H' = H3 ∧ (s.data.toList.take k).all okB, fun n _ => s.size - n.toNat, ⟨0, rfl, by omega, rfl, by simp⟩, ?_⟩
  rintro _ H7 ⟨k, rfl, hk, rfl, hall⟩
  refine ⟨fun hlt => ⟨by omega, hlt, b, 0, rfl, _, by rw [Nat.zero_add, Int.toNat_natCast]; exact hn.cell (by omega), ?_⟩, fun hge => ?_⟩
  · have key := okB_iff (s.data.toList.getD k 0)
    have yes : okB (s.data.toList.getD k 0) = true → In64 ((k : Int) + 1) ∧ (∃ j : Nat, (k : Int) + 1 = j ∧ j ≤ s.size ∧ H7 = H7 ∧ (s.data.toList.take j).all okB) ∧ s.size - ((k : Int) + 1).toNat < s.size - (k : Int).toNat := fun h =>
      ⟨⟨by omega, by omega⟩, ⟨k + 1, by omega, by omega, rfl, okB_next hall (by omega) h⟩, by omega⟩
    have no : ¬ okB (s.data.toList.getD k 0) = true → Value.bool false = .bool (plainT s) ∧ Ext [] H H7 := fun h => ⟨by
      unfold plainT
      rw [plain_no (n := k) (by omega) h]
      simp, hn.ext⟩
    generalize ((s.data.toList.getD k 0).toNat : Int) = x at key ⊢
    refine ⟨fun a1 => ⟨fun a2 => yes (key.2 (by omega)), fun a2 => ⟨fun a3 => ⟨fun a4 => yes (key.2 (by omega)), fun a4 => ⟨fun a5 => yes (key.2 (by omega)), fun a5 => ⟨fun a6 => yes (key.2 (by omega)), fun a6 => ⟨fun a7 => yes (key.2 (by omega)), fun a7 => ⟨fun a8 => no (fun h => by have := key.1 h; omega), fun a8 => yes (key.2 (by omega))⟩⟩⟩⟩⟩, fun a3 => ⟨fun a5 => yes (key.2 (by omega)), fun a5 => ⟨fun a6 => yes (key.2 (by omega)), fun a6 => ⟨fun a7 => yes (key.2 (by omega)), fun a7 => ⟨fun a8 => no (fun h => by have := key.1 h; omega), fun a8 => yes (key.2 (by omega))⟩⟩⟩⟩⟩⟩, fun a1 => ⟨fun a3 => ⟨fun a4 => yes (key.2 (by omega)), fun a4 => ⟨fun a5 => yes (key.2 (by omega)), fun a5 => ⟨fun a6 => yes (key.2 (by omega)), fun a6 => ⟨fun a7 => yes (key.2 (by omega)), fun a7 => ⟨fun a8 => no (fun h => by have := key.1 h; omega), fun a8 => yes (key.2 (by omega))⟩⟩⟩⟩⟩, fun a3 => ⟨fun a5 => yes (key.2 (by omega)), fun a5 => ⟨fun a6 => yes (key.2 (by omega)), fun a6 => ⟨fun a7 => yes (key.2 (by omega)), fun a7 => ⟨fun a8 => no (fun h => by have := key.1 h; omega), fun a8 => yes (key.2 (by omega))⟩⟩⟩⟩⟩⟩
  · have hk' : k = s.size := by omega
    subst hk'
    rw [← hl, List.take_length] at hall
    refine ⟨fun hne => ⟨?_, hn.ext⟩, fun he => ⟨?_, hn.ext⟩⟩
    · have h0 : s.size ≠ 0 := fun h0 => hne (ByteArray.ext (Array.eq_empty_of_size_eq_zero h0))
      refine congrArg Value.bool ?_
      unfold plainT
      rw [hall]
      rw [Bool.and_true]
      have : (s.size != 0) = true := by simpa using h0
      rw [this, Bool.true_and]
      exact dec_eq (by rw [decide_eq_true_eq]; omega)
    · rw [Classical.not_not.1 he]
      rfl

theorem nyb_hi (c : UInt8) : Int.fdiv ((c.toNat : Nat) : Int) (2 ^ (min (Int.toNat 4) (IntKind.bits .u8))) = ((c.toNat / 16 : Nat) : Int) := by
  have : (2 : Int) ^ (min (Int.toNat 4) (IntKind.bits .u8)) = 16 := by decide
  rw [this, Int.fdiv_eq_ediv_of_nonneg _ (by decide)]
  omega
theorem nyb_lo : ∀ c : Fin 256, bits .and .u8 ((c.val : Nat) : Int) 15 = ((c.val % 16 : Nat) : Int) := by decide +kernel
theorem dig_nat16 {n : Nat} (h : n < 16) : ((digN n : Nat) : Int) = ((UInt8.ofNat (digN n)).toNat : Int) := by
  have := (digN_ne n h).2
  simp
  omega
theorem size16 : (((ByteArray.mk #[48, 49, 50, 51, 52, 53, 54, 55, 56, 57, 97, 98, 99, 100, 101, 102]).size : Nat) : Int) = 16 := rfl
theorem dig_at : ∀ n : Nat, n < 16 → ((ByteArray.mk #[48, 49, 50, 51, 52, 53, 54, 55, 56, 57, 97, 98, 99, 100, 101, 102]).data.toList.getD n 0).toNat = digN n := by decide

theorem hexed_ok {H : Heap} {a : Option Addr} {n c : Nat} {bs : List UInt8} (hr : SRow H 1 n (.slice a n c) (bytesV bs)) (hn : n ≤ 1000000000) : Does Tryz.prog 63 [.slice a n c] H fun v H' => v = .string (hexB bs) ∧ Ext [] H H' := by
  have hl := srow_len hr
  rw [bytesV_length] at hl
  refine Fn_of_vc Tryz.mixed (HexedV _ _ _ _ _) ?_
  intro b H2 hnew
  have hb0 := hnew.eq
  refine (wbyte_ok (bld_new hnew) 37 (by decide) (by simp)).mono ?_
  rintro v3 H4 ⟨hv3, hB4, hx4⟩
  refine ⟨v3, rfl, fun i H' => ∃ k : Nat, i = k ∧ k ≤ n ∧ IsBld H.size b H' (37 :: (bs.take k).flatMap hex2) ∧ ExtP (From H.size) H H', fun i _ => n - i.toNat, ⟨0, rfl, by omega, by simpa using hB4, (hnew.ext.anyP).trans hx4⟩, ?_⟩
  rintro _ H9 ⟨k, rfl, hk, hB, hx9⟩
  refine ⟨fun hlt => ⟨by omega, hlt, ?_⟩, fun hge => ?_⟩
  · obtain ⟨bb, o, ha, hc⟩ := srow_byte (srow_ext hr (hx9.new (Nat.le_refl _))) (i := k) (by omega)
    have hlen : ((bs.take k).flatMap hex2).length = 2 * k := by
      rw [List.length_flatMap]
      have : ∀ l : List UInt8, (l.map fun c => (hex2 c).length).sum = 2 * l.length := by
        intro l; induction l with
        | nil => rfl
        | cons c l ih =>
          rw [List.map_cons, List.sum_cons, ih]
          simp [hex2]; omega
      rw [this, List.length_take]; omega
    refine ⟨bb, o, ha, _, by rw [Int.toNat_natCast]; exact hc, by decide, ?_⟩
    intro q13 e13
    rw [nyb_hi] at e13
    subst e13
    have hc16 : (bs.getD k 0).toNat / 16 < 16 := by have := (bs.getD k 0).toNat_lt; omega
    refine ⟨by omega, by rw [size16]; omega, ?_⟩
    intro q14 e14
    rw [Int.toNat_natCast, dig_at _ hc16] at e14
    subst e14
    refine (wbyte_ok hB (UInt8.ofNat (digN ((bs.getD k 0).toNat / 16))) (dig_nat16 hc16) (by simp [hlen]; omega)).mono ?_
    rintro v15 H16 ⟨hv15, hB16, hx16⟩
    refine ⟨v15, rfl, ?_⟩
    intro q18 e18
    have hlo := nyb_lo ⟨(bs.getD k 0).toNat, (bs.getD k 0).toNat_lt⟩
    simp only [] at hlo
    rw [hlo] at e18
    subst e18
    have hc16' : (bs.getD k 0).toNat % 16 < 16 := Nat.mod_lt _ (by decide)
    refine ⟨by omega, by rw [size16]; omega, ?_⟩
    intro q19 e19
    rw [Int.toNat_natCast, dig_at _ hc16'] at e19
    subst e19
    refine (wbyte_ok hB16 (UInt8.ofNat (digN ((bs.getD k 0).toNat % 16))) (dig_nat16 hc16') (by simp [hlen]; omega)).mono ?_
    rintro v20 H21 ⟨hv20, hB21, hx21⟩
    refine ⟨v20, rfl, ⟨by omega, by omega⟩, ⟨k + 1, by omega, by omega, ?_, (hx9.trans hx16).trans hx21⟩, by dsimp only; omega⟩
    have e : (bs.take (k + 1)).flatMap hex2 = (bs.take k).flatMap hex2 ++ hex2 (bs.getD k 0) := by
      rw [List.take_add_one, List.flatMap_append]
      simp [List.getD_eq_getElem?_getD, List.getElem?_eq_getElem (show k < bs.length by omega)]
    rw [e]
    simpa [hex2] using hB21
  · have hk' : k = n := by omega
    subst hk'
    rw [List.take_of_length_le (by omega)] at hB
    refine (bstr_ok hB).mono ?_
    rintro _ H24 ⟨rfl, hx24⟩
    exact ⟨_, rfl, rfl, (hx9.trans hx24).new (Nat.le_refl _)⟩

theorem NewB.srow {H H' : Heap} {b c : Nat} {s : ByteArray} {e : TypeId} (h : NewB H b s c e H') : SRow H' 1 s.size (.slice (some ⟨b, 0, none⟩) s.size c) (bytesV s.data.toList) := by
  have hl : s.data.toList.length = s.size := Array.length_toList
  refine ⟨by rw [bytesV_length, hl, Nat.mul_one], .inr rfl, fun j u hj => ?_⟩
  have hlt := (List.getElem?_eq_some_iff.1 hj).1
  rw [bytesV_length, hl] at hlt
  rw [bytesV_get _ _ (by omega), Option.some.injEq] at hj
  subst hj
  show hcell H' b (0 + j) = _
  rw [Nat.zero_add]
  exact h.cell hlt

theorem textW_ok (s : ByteArray) (hs : s.size ≤ 1000000000) (H : Heap) : Does Tryz.prog 62 [.string s] H fun v H' => v = .string (textW s) ∧ Ext [] H H' := by
  refine Fn_of_vc Tryz.mixed (TextWV _ _ _) ?_
  refine (plain_okT s hs H).mono ?_
  rintro _ H2 ⟨rfl, hx2⟩
  refine ⟨_, rfl, fun hp => ⟨?_, hx2⟩, fun hp => ?_⟩
  · unfold textW; rw [if_pos hp]
  · intro c b H6 hn
    refine (hexed_ok (NewB.srow hn) hs).mono ?_
    rintro _ H8 ⟨rfl, hx8⟩
    exact ⟨_, rfl, by unfold textW; rw [hp]; rfl, (hx2.trans hn.ext).trans hx8⟩

/-! ### Lines -/
section
variable {F : Nat → Prop} {H : Heap} {b : Nat} {ws : List ByteArray} {wr : Bool}

theorem word_ok (h : LineIs F H b ws wr) (s : ByteArray) (hl : ws.length ≤ 1000000000) : Does Tryz.prog 35 [.pointer (some ⟨b, 0, none⟩), .string s] H fun v H' => v = .tuple #[] ∧ LineTo F H b (ws ++ [s]) wr H' := by
  refine Fn_of_vc Tryz.mixed (WordV _ _ _ _) ?_
  have h0 := h.big
  obtain ⟨hlt, g0, a, c, hb, ho, hnb, hg⟩ := h
  refine ⟨b, 0, rfl, a, _, c, by rw [hb.cell]; rfl, ?_⟩
  intro b6 H7 hn7
  have ho7 := ho.ext hn7.ext (by simp)
  have hb7 := hb.ext hn7.ext (by simp)
  refine ⟨ws.map Value.string, [.string s], ho7.row _ _, ⟨rfl, .inr rfl, fun i u hi => ?_⟩, by simp [Value.oneCell'], by omega, fun hle => by simpa using ho7.room (n := 1) hle, ?_⟩
  · show hcell H7 b6 (0 + i) = some u
    rw [Nat.zero_add, hn7.blk.cell]; exact hi
  intro a10 c11 H12 happ
  obtain ⟨ho12, hx12, hfr12⟩ := happ.own ho7 (ho7.row _ _) rfl rfl
  have hb12 := hb7.ext hx12 hnb
  refine ⟨b, 0, rfl, hb12.cells _ _ (by simp), fun H15 hp => ?_⟩
  have hb15 := hp.blk hb12 (by simp)
  have hs7 := hn7.size
  have hs12 := hx12.size
  have hbl := hb.lt
  have hnb10 : b ∉ blkOf a10 := by
    intro hm
    rcases hfr12 b hm with h' | h'
    · exact hnb h'
    · omega
  have ho15 := ho12.ext hp.ext (fun k hk hm => by simp only [List.mem_singleton] at hm; subst hm; exact hnb10 hk)
  have hx15 : ExtP F H H15 := ((hn7.ext.anyP (N := F)).trans (hx12.lift (fun k _ hk => hg k hk))).trans (hp.ext.lift (fun k _ hk => by simp only [List.mem_singleton] at hk; subst hk; exact g0))
  refine ⟨rfl, ⟨grow_in hlt h0 hx15.size, .inl g0, a10, c11, ?_, ?_, hnb10, fun k hk => ?_⟩, hx15⟩
  · simpa [splice] using hb15
  · simpa using ho15
  · rcases hfr12 k hk with h' | h'
    · exact .inl (hg k h')
    · refine .inr ⟨by omega, ?_⟩
      exact ho15.lt k hk

theorem LineIs.wrg (h : LineIs F H b ws wr) : hcell H b (0 + 1) = some (.bool wr) := by
  obtain ⟨_, _, a, c, hb, _⟩ := h
  rw [hb.cell]; rfl
theorem LineIs.cellw (h : LineIs F H b ws wr) : Cells H b (0 + 1) 1 := by
  obtain ⟨_, _, a, c, hb, _⟩ := h
  exact hb.cells _ _ (by simp)

theorem number_ok (h : LineIs F H b ws wr) {n : Int} (hn : In64 n) (g : Glob H) (hl : ws.length ≤ 1000000000) : Does Tryz.prog 36 [.pointer (some ⟨b, 0, none⟩), .int .i64 n] H fun v H' => v = .tuple #[] ∧ LineTo F H b (ws ++ [(numF n).1]) (wr || (numF n).2) H' := by
  refine Fn_of_vc Tryz.mixed (NumberV _ _ _ _) ?_
  have go : ∀ (x : Bool) (H6 : Heap), LineTo F H b ws x H6 → x = (wr || (numF n).2) → Does Tryz.prog 58 [.int .i64 n] H6 fun v7 H8 => ∃ s9 : ByteArray, v7 = (.string s9) ∧ Does Tryz.prog 35 [.pointer (some ⟨b, 0, none⟩), .string s9] H8 fun v10 H11 => v10 = (.tuple #[]) ∧ Value.tuple #[] = .tuple #[] ∧ LineTo F H b (ws ++ [(numF n).1]) (wr || (numF n).2) H11 := by
    intro x H6 h6 hx
    refine (itoa_ok hn (g.keep h6.2 h.low)).mono ?_
    rintro _ H8 ⟨rfl, hx8⟩
    refine ⟨_, rfl, (word_ok (h6.1.more hx8) (intS n) hl).mono ?_⟩
    rintro _ H11 ⟨rfl, h11⟩
    rw [hx] at h6 h11
    exact ⟨rfl, rfl, h6.step h.lt h.big (LineTo.pre hx8 h6.1.lt h6.1.big h11)⟩
  refine ⟨b, 0, rfl, wr, h.wrg, fun e => ⟨b, 0, rfl, h.cellw, fun H6 hp => go true H6 (h.wrongs hp) (by simp [e])⟩, fun e => ⟨fun h0 => ⟨b, 0, rfl, h.cellw, fun H6 hp => go true H6 (h.wrongs hp) (by simp [e, numF]; omega)⟩, fun h0 => ⟨b, 0, rfl, h.cellw, fun H6 hp => go _ H6 (h.wrongs hp) ?_⟩⟩⟩
  rw [e, Bool.false_or]
  exact dec_eq (by simp only [numF, decide_eq_true_eq]; omega)

theorem textL_ok (h : LineIs F H b ws wr) (s : ByteArray) (hs : s.size ≤ 1000000000) (hl : ws.length ≤ 1000000000) : Does Tryz.prog 38 [.pointer (some ⟨b, 0, none⟩), .string s] H fun v H' => v = .tuple #[] ∧ LineTo F H b (ws ++ [(textF s).1]) (wr || (textF s).2) H' := by
  refine Fn_of_vc Tryz.mixed (TextLV _ _ _ _) ?_
  have go : ∀ (x : Bool) (H6 : Heap), LineTo F H b ws x H6 → x = (wr || (textF s).2) → Does Tryz.prog 62 [.string s] H6 fun v7 H8 => ∃ s9 : ByteArray, v7 = (.string s9) ∧ Does Tryz.prog 35 [.pointer (some ⟨b, 0, none⟩), .string s9] H8 fun v10 H11 => v10 = (.tuple #[]) ∧ Value.tuple #[] = .tuple #[] ∧ LineTo F H b (ws ++ [(textF s).1]) (wr || (textF s).2) H11 := by
    intro x H6 h6 hx
    refine (textW_ok s hs H6).mono ?_
    rintro _ H8 ⟨rfl, hx8⟩
    refine ⟨_, rfl, (word_ok (h6.1.more hx8) (textW s) hl).mono ?_⟩
    rintro _ H11 ⟨rfl, h11⟩
    rw [hx] at h6 h11
    exact ⟨rfl, rfl, h6.step h.lt h.big (LineTo.pre hx8 h6.1.lt h6.1.big h11)⟩
  refine ⟨b, 0, rfl, wr, h.wrg, fun e => ⟨b, 0, rfl, h.cellw, fun H6 hp => go true H6 (h.wrongs hp) (by simp [e])⟩, fun e => ⟨b, 0, rfl, h.cellw, fun H6 hp => go _ H6 (h.wrongs hp) ?_⟩⟩
  rw [e, Bool.false_or]
  exact dec_eq (by simp only [textF, decide_eq_true_eq]; omega)

theorem bytesL_ok (h : LineIs F H b ws wr) {a : Option Addr} {n c : Nat} {bs : List UInt8} (hk : KeptB F H a n c bs) (hn : n ≤ 1000000000) (hl : ws.length ≤ 1000000000) : Does Tryz.prog 39 [.pointer (some ⟨b, 0, none⟩), .slice a n c] H fun v H' => v = .tuple #[] ∧ LineTo F H b (ws ++ [(bytesF bs).1]) (wr || (bytesF bs).2) H' := by
  have hbl : bs.length = n := by have := srow_len (hk H (ExtP.refl _ _)); rwa [bytesV_length] at this
  refine Fn_of_vc Tryz.mixed (BytesLV _ _ _ _ _ _) ?_
  have go : ∀ (x : Bool) (H6 : Heap), LineTo F H b ws x H6 → x = (wr || (bytesF bs).2) → Does Tryz.prog 63 [.slice a n c] H6 fun v7 H8 => ∃ s9 : ByteArray, v7 = (.string s9) ∧ Does Tryz.prog 35 [.pointer (some ⟨b, 0, none⟩), .string s9] H8 fun v10 H11 => v10 = (.tuple #[]) ∧ Value.tuple #[] = .tuple #[] ∧ LineTo F H b (ws ++ [(bytesF bs).1]) (wr || (bytesF bs).2) H11 := by
    intro x H6 h6 hx
    refine (hexed_ok (hk H6 h6.2) hn).mono ?_
    rintro _ H8 ⟨rfl, hx8⟩
    refine ⟨_, rfl, (word_ok (h6.1.more hx8) (hexB bs) hl).mono ?_⟩
    rintro _ H11 ⟨rfl, h11⟩
    rw [hx] at h6 h11
    exact ⟨rfl, rfl, h6.step h.lt h.big (LineTo.pre hx8 h6.1.lt h6.1.big h11)⟩
  refine ⟨b, 0, rfl, wr, h.wrg, fun e => ⟨b, 0, rfl, h.cellw, fun H6 hp => go true H6 (h.wrongs hp) (by simp [e])⟩, fun e => ⟨b, 0, rfl, h.cellw, fun H6 hp => go _ H6 (h.wrongs hp) ?_⟩⟩
  rw [e, Bool.false_or]
  exact dec_eq (by simp only [bytesF, decide_eq_true_eq]; omega)
end
end Go.Proofs
end

section
open Go Go.Vc
namespace Go.Proofs

/-! ### Fields -/
def letB : Fld → UInt8
  | .name => 115 | .to => 111 | .more => 114 | .n => 110 | .mask => 107 | .path => 112 | .cto => 113 | .mode => 109 | .time => 116 | .pos => 97 | .cn => 122 | .data => 100
def letS (fs : List Fld) : ByteArray := ⟨(fs.map letB).toArray⟩
theorem fldOf_let (f : Fld) : fldOf ((letB f).toNat : Int) = some f := by cases f <;> rfl

section
variable {F : Nat → Prop} {H : Heap} {b : Nat} {ws : List ByteArray} {wr : Bool} {e : Ev} {da ma : Option Addr} {dl dc ml mc : Nat}

theorem field_ok (h : LineIs F H b ws wr) (hk : Kept F H e da dl dc ma ml mc) (he : EvOk e) (g : Glob H) (hl : ws.length ≤ 1000000000) (f : Fld) :
    Does Tryz.prog 54 [.pointer (some ⟨b, 0, none⟩), evA e da dl dc ma ml mc, .int .i32 ((letB f).toNat : Int)] H fun v H' => v = .tuple #[] ∧ LineTo F H b (ws ++ [(fldW e f).1]) (wr || (fldW e f).2) H' := by
  refine Fn_of_vc Tryz.mixed (FieldV _ _ _ _ _ _ _ _ _ _ _ _ _ _ _ _ _ _ _ _ _ _) ?_
  intro b1 H2 hn1
  have hb1 := hn1.blk
  refine ⟨_, hb1.cell _, _, hb1.cell _, _, hb1.cell _, _, hb1.cell _, _, hb1.cell _, _, hb1.cell _, _, hb1.cell _, _, _, _, hb1.cell _, ?_⟩
  intro b13 H14 hn13
  refine ⟨hn13.blk.cells _ _ (by simp), fun H15 hp => ?_⟩
  have hs2 := hn1.size
  have e1 := hn1.eq
  have e13 := hn13.eq
  have hx15 : Ext [] H H15 := (hn1.ext.trans hn13.ext).trans' hp.ext (fun i hi => by simp only [List.mem_singleton] at hi; left; omega)
  have hb1' := (hb1.ext hn13.ext (by simp)).ext hp.ext (by simp; omega)
  have hb13 := hp.blk hn13.blk (by simp)
  simp only [splice, List.take_zero, List.nil_append, List.length_cons, List.length_nil, Nat.zero_add, List.drop_succ_cons, List.drop_zero, List.append_nil] at hb13
  have h15 := h.more hx15
  have g15 := g.ext hx15
  have k15 : Kept F H15 e da dl dc ma ml mc := hk.step hx15.anyP (fun k hk => .inr hk)
  have fin : ∀ {v H' w' x}, (v = Value.tuple #[] ∧ LineTo F H15 b w' x H') → v = Value.tuple #[] ∧ Value.tuple #[] = .tuple #[] ∧ LineTo F H b w' x H' := fun q => ⟨q.1, rfl, LineTo.pre hx15 h.lt h.big q.2⟩
  cases f with
  | name => exact ⟨fun _ => ⟨_, hb1'.cell _, (textL_ok h15 _ he.name hl).mono fun v H18 q => fin q⟩, fun hne => absurd rfl hne⟩
  | to => exact ⟨fun h0 => absurd h0 (by decide), fun _ => ⟨fun _ => ⟨_, hb1'.cell _, (textL_ok h15 _ he.to hl).mono fun v H18 q => fin q⟩, fun hne => absurd rfl hne⟩⟩
  | more => exact ⟨fun h0 => absurd h0 (by decide), fun _ => ⟨fun h0 => absurd h0 (by decide), fun _ => ⟨fun _ => ⟨_, hb1'.cell _, (textL_ok h15 _ he.more hl).mono fun v H18 q => fin q⟩, fun hne => absurd rfl hne⟩⟩⟩
  | n => exact ⟨fun h0 => absurd h0 (by decide), fun _ => ⟨fun h0 => absurd h0 (by decide), fun _ => ⟨fun h0 => absurd h0 (by decide), fun _ => ⟨fun _ => ⟨_, hb1'.cell _, (number_ok h15 he.n g15 hl).mono fun v H18 q => fin q⟩, fun hne => absurd rfl hne⟩⟩⟩⟩
  | mask => exact ⟨fun h0 => absurd h0 (by decide), fun _ => ⟨fun h0 => absurd h0 (by decide), fun _ => ⟨fun h0 => absurd h0 (by decide), fun _ => ⟨fun h0 => absurd h0 (by decide), fun _ => ⟨fun _ => ⟨_, _, _, hb1'.cell _, (bytesL_ok h15 (fun H' hx => (k15 H' hx).mask) (by have := hk.now.ml; have := he.mask; omega) hl).mono fun v H18 q => fin q⟩, fun hne => absurd rfl hne⟩⟩⟩⟩⟩
  | path => exact ⟨fun h0 => absurd h0 (by decide), fun _ => ⟨fun h0 => absurd h0 (by decide), fun _ => ⟨fun h0 => absurd h0 (by decide), fun _ => ⟨fun h0 => absurd h0 (by decide), fun _ => ⟨fun h0 => absurd h0 (by decide), fun _ => ⟨fun _ => ⟨_, hb13.cell _, (textL_ok h15 _ he.path hl).mono fun v H18 q => fin q⟩, fun hne => absurd rfl hne⟩⟩⟩⟩⟩⟩
  | cto => exact ⟨fun h0 => absurd h0 (by decide), fun _ => ⟨fun h0 => absurd h0 (by decide), fun _ => ⟨fun h0 => absurd h0 (by decide), fun _ => ⟨fun h0 => absurd h0 (by decide), fun _ => ⟨fun h0 => absurd h0 (by decide), fun _ => ⟨fun h0 => absurd h0 (by decide), fun _ => ⟨fun _ => ⟨_, hb13.cell _, (textL_ok h15 _ he.cto hl).mono fun v H18 q => fin q⟩, fun hne => absurd rfl hne⟩⟩⟩⟩⟩⟩⟩
  | mode => exact ⟨fun h0 => absurd h0 (by decide), fun _ => ⟨fun h0 => absurd h0 (by decide), fun _ => ⟨fun h0 => absurd h0 (by decide), fun _ => ⟨fun h0 => absurd h0 (by decide), fun _ => ⟨fun h0 => absurd h0 (by decide), fun _ => ⟨fun h0 => absurd h0 (by decide), fun _ => ⟨fun h0 => absurd h0 (by decide), fun _ => ⟨fun _ => ⟨_, hb13.cell _, (number_ok h15 he.mode g15 hl).mono fun v H18 q => fin q⟩, fun hne => absurd rfl hne⟩⟩⟩⟩⟩⟩⟩⟩
  | time => exact ⟨fun h0 => absurd h0 (by decide), fun _ => ⟨fun h0 => absurd h0 (by decide), fun _ => ⟨fun h0 => absurd h0 (by decide), fun _ => ⟨fun h0 => absurd h0 (by decide), fun _ => ⟨fun h0 => absurd h0 (by decide), fun _ => ⟨fun h0 => absurd h0 (by decide), fun _ => ⟨fun h0 => absurd h0 (by decide), fun _ => ⟨fun h0 => absurd h0 (by decide), fun _ => ⟨fun _ => ⟨_, hb13.cell _, (text_ok he.time g15.t64).mono fun v H44 q => by
      obtain ⟨rfl, hx44⟩ := q
      refine ⟨_, rfl, (word_ok (h15.more hx44) _ hl).mono fun v H47 q => ?_⟩
      obtain ⟨rfl, q⟩ := q
      refine fin ⟨rfl, ?_⟩
      have := LineTo.pre hx44 h15.lt h15.big q
      simpa [fldW, timeF] using this⟩, fun hne => absurd rfl hne⟩⟩⟩⟩⟩⟩⟩⟩⟩
  | pos => exact ⟨fun h0 => absurd h0 (by decide), fun _ => ⟨fun h0 => absurd h0 (by decide), fun _ => ⟨fun h0 => absurd h0 (by decide), fun _ => ⟨fun h0 => absurd h0 (by decide), fun _ => ⟨fun h0 => absurd h0 (by decide), fun _ => ⟨fun h0 => absurd h0 (by decide), fun _ => ⟨fun h0 => absurd h0 (by decide), fun _ => ⟨fun h0 => absurd h0 (by decide), fun _ => ⟨fun h0 => absurd h0 (by decide), fun _ => ⟨fun _ => ⟨_, hb13.cell _, (number_ok h15 he.pos g15 hl).mono fun v H18 q => fin q⟩, fun hne => absurd rfl hne⟩⟩⟩⟩⟩⟩⟩⟩⟩⟩
  | cn => exact ⟨fun h0 => absurd h0 (by decide), fun _ => ⟨fun h0 => absurd h0 (by decide), fun _ => ⟨fun h0 => absurd h0 (by decide), fun _ => ⟨fun h0 => absurd h0 (by decide), fun _ => ⟨fun h0 => absurd h0 (by decide), fun _ => ⟨fun h0 => absurd h0 (by decide), fun _ => ⟨fun h0 => absurd h0 (by decide), fun _ => ⟨fun h0 => absurd h0 (by decide), fun _ => ⟨fun h0 => absurd h0 (by decide), fun _ => ⟨fun h0 => absurd h0 (by decide), fun _ => ⟨fun _ => ⟨_, hb13.cell _, (number_ok h15 he.cn g15 hl).mono fun v H18 q => fin q⟩, fun hne => absurd rfl hne⟩⟩⟩⟩⟩⟩⟩⟩⟩⟩⟩
  | data => exact ⟨fun h0 => absurd h0 (by decide), fun _ => ⟨fun h0 => absurd h0 (by decide), fun _ => ⟨fun h0 => absurd h0 (by decide), fun _ => ⟨fun h0 => absurd h0 (by decide), fun _ => ⟨fun h0 => absurd h0 (by decide), fun _ => ⟨fun h0 => absurd h0 (by decide), fun _ => ⟨fun h0 => absurd h0 (by decide), fun _ => ⟨fun h0 => absurd h0 (by decide), fun _ => ⟨fun h0 => absurd h0 (by decide), fun _ => ⟨fun h0 => absurd h0 (by decide), fun _ => ⟨fun h0 => absurd h0 (by decide), fun _ => ⟨fun _ => ⟨_, _, _, hb13.cell _, (bytesL_ok h15 (fun H' hx => (k15 H' hx).data) (by have := hk.now.dl; have := he.data; omega) hl).mono fun v H18 q => fin q⟩, fun hne => absurd rfl hne⟩⟩⟩⟩⟩⟩⟩⟩⟩⟩⟩⟩

theorem iter_at {H H' : Heap} {r : Nat} {s : ByteArray} (h : NewIter H r s H') : IterAt H' r s 0 ∧ Ext [] H H' ∧ r = H.size ∧ H'.size = H.size + 1 := by
  obtain ⟨rfl, rfl⟩ := h
  refine ⟨by simp [IterAt], ⟨by simp, fun k hk _ => by simp [Array.getElem?_push]; omega⟩, rfl, by simp⟩
theorem iter_put {H H' : Heap} {r : Nat} {s s' : ByteArray} {n n' : Nat} (h : IterPut H r s n H') (ha : IterAt H r s' n') : IterAt H' r s n ∧ Ext [r] H H' ∧ H'.size = H.size := by
  have hlt : r < H.size := by
    rcases Nat.lt_or_ge r H.size with h' | h'
    · exact h'
    · unfold IterAt at ha; rw [Array.getElem?_eq_none h'] at ha; cases ha
  unfold IterPut at h
  subst h
  refine ⟨by simp [IterAt, hlt], ⟨by simp, fun k hk hm => by simp only [List.mem_singleton] at hm; rw [Array.getElem?_setIfInBounds_ne]; omega⟩, by simp⟩
theorem iter_ext {M : Nat → Prop} {H H' : Heap} {r : Nat} {s : ByteArray} {n : Nat} (h : IterAt H r s n) (hx : ExtP M H H') (hm : ¬ M r) : IterAt H' r s n := by
  have hlt : r < H.size := by
    rcases Nat.lt_or_ge r H.size with h' | h'
    · exact h'
    · unfold IterAt at h; rw [Array.getElem?_eq_none h'] at h; cases h
  exact (hx.keep r hlt hm).trans h
theorem decode_low {s : ByteArray} {n : Nat} (h : (s.get! n).toNat < 128) : Utf8.decode s n = ((s.get! n).toNat, 1) := by
  unfold Utf8.decode
  simp only [Nat.add_zero]
  rw [if_pos h]

theorem letS_size (fs : List Fld) : (letS fs).size = fs.length := by
  show (List.toArray _).size = _
  simp
theorem letS_get {fs : List Fld} {n : Nat} (h : n < fs.length) : (letS fs).get! n = letB (fs[n]) := by
  unfold letS
  show ((fs.map letB).toArray)[n]! = _
  simp [h]
theorem letB_low (f : Fld) : (letB f).toNat < 128 := by cases f <;> decide

theorem lform_ok (h : LineIs F H b ws wr) (hk : Kept F H e da dl dc ma ml mc) (he : EvOk e) (g : Glob H) (hl : ws.length ≤ 1000000) (w : ByteArray) (fs : List Fld) (hfs : fs.length ≤ 1000) :
    Does Tryz.prog 33 [.pointer (some ⟨b, 0, none⟩), evA e da dl dc ma ml mc, .string w, .string (letS fs)] H fun v H' => v = .tuple #[] ∧ LineTo F H b (ws ++ (formF e (w, fs)).map (·.1)) (wr || bad (formF e (w, fs))) H' := by
  refine Fn_of_vc Tryz.mixed (LFormV _ _ _ _ _ _ _ _ _ _ _ _ _ _ _ _ _ _ _ _ _ _ _) ?_
  intro b1 H2 hn1
  have hs2 := hn1.size
  have e1 := hn1.eq
  have h2 := h.more hn1.ext
  have hx2 : ExtP F H H2 := hn1.ext.anyP
  have hb2 : Blk H2 b1 (evL e da dl dc ma ml mc) := hn1.blk
  have hF1 : ¬ F b1 := fun hf => by have := (h.lt b1 hf).2; omega
  refine ⟨fun s H' => s = letS fs ∧ LineTo F H2 b ws (wr || decide (w.size = 0)) H', ?_, ?_⟩
  · refine ⟨b, 0, rfl, wr, h2.wrg, fun ew => ⟨b, 0, rfl, h2.cellw, fun H9 hp => ⟨rfl, by rw [ew]; exact h2.wrongs hp⟩⟩, fun ew => ⟨b, 0, rfl, h2.cellw, fun H9 hp => ⟨rfl, ?_⟩⟩⟩
    have := h2.wrongs hp
    have ed : (wr || decide (w.size = 0)) = @decide (w = ByteArray.mk #[]) (Classical.propDecidable _) := by
      rw [ew, Bool.false_or]
      exact (dec_eq ⟨fun h0 => by rw [h0]; rfl, fun h0 => ByteArray.ext (Array.eq_empty_of_size_eq_zero (of_decide_eq_true h0))⟩).symm
    rw [ed]
    exact this
  · rintro s H14 ⟨rfl, h14⟩
    refine (word_ok h14.1 w (by omega)).mono ?_
    rintro _ H16 ⟨rfl, h16⟩
    have t16 : LineTo F H2 b (ws ++ [w]) (wr || decide (w.size = 0)) H16 := h14.step h2.lt h2.big h16
    refine ⟨rfl, ?_⟩
    intro r H18 hnr
    obtain ⟨hit, hx18, er, hs18⟩ := iter_at hnr
    have hs16 := t16.2.size
    have base : LineTo F H2 b (ws ++ [w]) (wr || decide (w.size = 0)) H18 := t16.post h2.lt h2.big hx18
    -- a footprint that leaves out the copy and the walk
    refine ⟨fun H' => ∃ (k : Nat) (F' : Nat → Prop), k ≤ fs.length ∧ IterAt H' r (letS fs) k ∧ LineIs F' H' b (ws ++ [w] ++ (fs.take k).map (fun f => (fldW e f).1)) (wr || decide (w.size = 0) || (fs.take k).any (fun f => (fldW e f).2)) ∧ (∀ k, F' k → F k ∨ H2.size ≤ k) ∧ ¬ F' r ∧ ExtP F H2 H',
      fun H' => fs.length - (match H'[r]? with | some (.stringIter _ n) => n | _ => 0), ⟨0, grow F H2 H16, by omega, hit, by simpa using t16.1.more hx18, fun k hk => hk.elim .inl fun h => .inr h.1, fun hf => by
        rcases hf with hf | hf
        · have := (h.lt r hf).2; omega
        · omega, base.2⟩, ?_⟩
    rintro H21 ⟨k, F', hkl, hi, hL, hF', hnr', hx21⟩
    have hi' : H21[r]? = some (.stringIter (letS fs) k) := hi
    have hrl : r < H21.size := (Array.getElem?_eq_some_iff.1 hi').1
    have hb21 : Blk H21 b1 (evL e da dl dc ma ml mc) := hb2.extP hx21 hF1
    refine ⟨letS fs, k, hi, fun hlt q H25 eq hput => ⟨fun _ => ?_, fun hf => absurd hf (by decide)⟩, fun hge => ⟨fun hf => absurd hf (by decide), fun _ => ?_⟩⟩
    · rw [letS_size] at hlt
      have hget := letS_get hlt
      have hdec := decode_low (s := letS fs) (n := k) (by rw [hget]; exact letB_low _)
      rw [hdec] at eq hput
      subst eq
      obtain ⟨hi25, hx25, hs25⟩ := iter_put hput hi
      have hb25 : Blk H25 b1 (evL e da dl dc ma ml mc) := hb21.ext hx25 (by simp; omega)
      have hL25 : LineIs F' H25 b _ _ := hL.ext hx25.toP (fun j hj hm => by simp only [List.mem_singleton] at hm; subst hm; exact hnr' hj)
      have hx2_25 : ExtP F H2 H25 := hx21.trans' hx25.toP (fun i hi => by simp only [List.mem_singleton] at hi; left; omega)
      have hk25 : Kept F' H25 e da dl dc ma ml mc := (hk.step hx2 (fun k h => .inr h)).step hx2_25 (fun k h => (hF' k h).symm)
      have g25 : Glob H25 := (g.ext hn1.ext).keep hx2_25 h.low
      refine ⟨_, hb25.cell _, _, hb25.cell _, _, hb25.cell _, _, hb25.cell _, _, hb25.cell _, _, hb25.cell _, _, hb25.cell _, _, hb25.cell _, _, hb25.cell _, _, hb25.cell _, _, hb25.cell _, _, _, _, hb25.cell _, _, hb25.cell _, _, _, _, hb25.cell _, ?_⟩
      rw [hget]
      refine (field_ok hL25 hk25 he g25 (by simp; omega) fs[k]).mono ?_
      rintro _ H45 ⟨rfl, h45⟩
      have hs45 := h45.2.size
      have hi45 : IterAt H45 r (letS fs) (k + 1) := iter_ext hi25 h45.2 hnr'
      have hi45' : H45[r]? = some (.stringIter (letS fs) (k + 1)) := hi45
      have hs21 := hx21.size
      refine ⟨rfl, ⟨k + 1, grow F' H25 H45, by omega, hi45, ?_, fun j hj => ?_, fun hf => ?_, hx2_25.trans' h45.2 (fun j hj => (hF' j hj).symm)⟩, ?_⟩
      · have := h45.1
        have e1 : fs.take (k + 1) = fs.take k ++ [fs[k]] := by rw [List.take_add_one, List.getElem?_eq_getElem hlt]; rfl
        rw [e1]
        simp only [List.map_append, List.map_cons, List.map_nil, List.any_append, List.any_cons, List.any_nil, Bool.or_false]
        rw [← List.append_assoc, ← Bool.or_assoc]
        exact this
      · rcases hj with hj | hj
        · exact hF' j hj
        · right; omega
      · rcases hf with hf | hf
        · exact hnr' hf
        · omega
      · dsimp only
        rw [hi45', hi']
        show fs.length - (k + 1) < fs.length - k
        omega
    · rw [letS_size] at hge
      have hkk : k = fs.length := by omega
      subst hkk
      rw [List.take_length] at hL
      have hs21 := hx21.size
      refine ⟨rfl, ?_⟩
      have e1 : ws ++ (formF e (w, fs)).map (·.1) = ws ++ [w] ++ fs.map (fun f => (fldW e f).1) := by simp [formF, List.map_map, Function.comp_def]
      have e2 : (wr || bad (formF e (w, fs))) = (wr || decide (w.size = 0) || fs.any (fun f => (fldW e f).2)) := by simp [formF, bad, List.any_map, Function.comp_def, Bool.or_assoc]
      rw [e1, e2]
      have hst : LineTo F H2 b (ws ++ [w] ++ fs.map (fun f => (fldW e f).1)) (wr || decide (w.size = 0) || fs.any (fun f => (fldW e f).2)) H21 :=
        ⟨hL.up (fun j hj => (hF' j hj).elim .inl fun hj2 => .inr ⟨hj2, (hL.lt j hj).2⟩) (grow_in h2.lt h2.big hs21), hx21⟩
      exact LineTo.pre hn1.ext h.lt h.big hst
end

/-! ### Forms -/

end Go.Proofs
end

section
open Go Go.Vc
namespace Go.Proofs
set_option maxRecDepth 100000
/-- internal/stringslite.HasPrefix -/
theorem HasP0V (x0 : ByteArray) (x1 : ByteArray) (H : Heap) (R : Value → Heap → Prop) : Walk Tryz.prog 114 [] [(.string x0), (.string x1)] H R = (
 (((((ByteArray.size x1 : Int) : Int) ≤ (ByteArray.size x0 : Int)) → (
 (0 : Int) ≤ (ByteArray.size x1 : Int) ∧ ((ByteArray.size x1 : Int) : Int) ≤ ((ByteArray.size x0) : Int) ∧ (
 R (.bool (@decide (((ByteArray.extract x0 0 (Int.toNat (ByteArray.size x1 : Int))) : ByteArray) = x1) (Classical.propDecidable _))) H))) ∧ (¬ (((ByteArray.size x1 : Int) : Int) ≤ (ByteArray.size x0 : Int)) → (
 R (.bool false) H)))) := by kernel_rfl


/-- strings.HasPrefix -/
theorem HasPV (x0 : ByteArray) (x1 : ByteArray) (H : Heap) (R : Value → Heap → Prop) : Walk Tryz.prog 96 [] [(.string x0), (.string x1)] H R = (
 Does Tryz.prog 114 [(.string x0), (.string x1)] H fun v1 H2 => ∃ t3 : Bool, v1 = (.bool t3) ∧ (
 R (.bool t3) H2)) := by kernel_rfl


/-- internal/stringslite.TrimPrefix -/
theorem TrimP0V (x0 : ByteArray) (x1 : ByteArray) (H : Heap) (R : Value → Heap → Prop) : Walk Tryz.prog 117 [] [(.string x0), (.string x1)] H R = (
 Does Tryz.prog 114 [(.string x0), (.string x1)] H fun v1 H2 => ∃ t3 : Bool, v1 = (.bool t3) ∧ (
 ((t3 = true → (
 (0 : Int) ≤ (ByteArray.size x1 : Int) ∧ ((ByteArray.size x1 : Int) : Int) ≤ ((ByteArray.size x0) : Int) ∧ (
 R (.string (ByteArray.extract x0 (Int.toNat (ByteArray.size x1 : Int)) (ByteArray.size x0))) H2))) ∧ (t3 = false → (
 R (.string x0) H2))))) := by kernel_rfl


/-- strings.TrimPrefix -/
theorem TrimPV (x0 : ByteArray) (x1 : ByteArray) (H : Heap) (R : Value → Heap → Prop) : Walk Tryz.prog 98 [] [(.string x0), (.string x1)] H R = (
 Does Tryz.prog 117 [(.string x0), (.string x1)] H fun v1 H2 => ∃ s3 : ByteArray, v1 = (.string s3) ∧ (
 R (.string s3) H2)) := by kernel_rfl


/-- pentimento/script.untext -/
theorem UntextV (x0 : ByteArray) (H : Heap) (R : Value → Heap → Prop) : Walk Tryz.prog 72 [] [(.string x0)] H R = (
 Does Tryz.prog 96 [(.string x0), (.string (ByteArray.mk #[37]))] H fun v1 H2 => ∃ t3 : Bool, v1 = (.bool t3) ∧ (
 ((t3 = true → (
 Does Tryz.prog 74 [(.string x0)] H2 fun v4 H5 => ∃ a6 : Option Addr, ∃ l7 : Nat, ∃ c8 : Nat, v4 = (.slice a6 l7 c8) ∧ (
 ∃ l9 : List UInt8, SRow H5 1 l7 (.slice a6 l7 c8) (List.map (fun (b : UInt8) => Value.int .u8 b.toNat) l9) ∧ (
 R (.string (ByteArray.mk (List.toArray l9))) H5)))) ∧ (t3 = false → (
 R (.string x0) H2))))) := by kernel_rfl


/-- pentimento/script.number -/
theorem PNumV (x0 : ByteArray) (H : Heap) (R : Value → Heap → Prop) : Walk Tryz.prog 73 [] [(.string x0)] H R = (
 Does Tryz.prog 97 [(.string x0)] H fun v1 H2 => ∃ n3 : Int, ∃ v4 : Value, v1 = (.tuple #[(.int .i64 n3), v4]) ∧ (
 R (.int .i64 n3) H2)) := by kernel_rfl


/-- pentimento/script.unhex -/
theorem UnhexV (x0 : ByteArray) (H : Heap) (R : Value → Heap → Prop) : Walk Tryz.prog 74 [] [(.string x0)] H R = (
 Does Tryz.prog 98 [(.string x0), (.string (ByteArray.mk #[37]))] H fun v1 H2 => ∃ s3 : ByteArray, v1 = (.string s3) ∧ (
 ∃ I4 : Option Addr → Nat → Nat → ByteArray → Heap → Prop, ∃ μ5 : Option Addr → Nat → Nat → ByteArray → Heap → Nat, (I4 none 0 0 s3 H2) ∧
 ∀ a6 : Option Addr, ∀ l7 : Nat, ∀ c8 : Nat, ∀ s9 : ByteArray, ∀ H10 : Heap, I4 a6 l7 c8 s9 H10 → (
 ((((1 : Int) < (ByteArray.size s9 : Int)) → (
 (0 : Int) ≤ 0 ∧ (0 : Int) < (ByteArray.size s9 : Int) ∧ ∀ q11 : Int, q11 = (((ByteArray.data s9).toList.getD (Int.toNat 0) 0).toNat : Int) → (
 (0 : Int) ≤ 1 ∧ (1 : Int) < (ByteArray.size s9 : Int) ∧ ∀ q12 : Int, q12 = (((ByteArray.data s9).toList.getD (Int.toNat 1) 0).toNat : Int) → (
 Does Tryz.prog 99 [(.string (ByteArray.mk #[48, 49, 50, 51, 52, 53, 54, 55, 56, 57, 97, 98, 99, 100, 101, 102])), (.int .u8 q11)] H10 fun v13 H14 => ∃ n15 : Int, v13 = (.int .i64 n15) ∧ (
 (((0 : Int) ≤ 4) ∧
 ∀ q16 : Int, q16 = IntKind.wrap .i64 (n15 * 2 ^ (min (Int.toNat 4) (IntKind.bits .i64))) → (
 Does Tryz.prog 99 [(.string (ByteArray.mk #[48, 49, 50, 51, 52, 53, 54, 55, 56, 57, 97, 98, 99, 100, 101, 102])), (.int .u8 q12)] H14 fun v17 H18 => ∃ n19 : Int, v17 = (.int .i64 n19) ∧ (
 (∀ q20 : Int, q20 = bits .and .i64 n19 15 → (
 ∀ q21 : Int, q21 = bits .or .i64 q16 q20 → (
 ∀ q22 : Int, q22 = IntKind.wrap .u8 q21 → (
 ∀ b23 : Nat, ∀ H24 : Heap, New H18 b23 [(.int .u8 q22)] 5 H24 → (
 (∃ old25 new26 : List Value, SRow H24 1 l7 (.slice a6 l7 c8) old25 ∧ SRow H24 1 1 (.slice (some (⟨b23, 0, none⟩ : Addr)) 1 1) new26 ∧ (∀ u ∈ new26, Value.oneCell' u = true) ∧ (l7 + 1) * 1 ≤ 140737488355328 ∧ (l7 + 1 ≤ c8 → roomOf H24 a6 (l7 * 1) (1 * 1)) ∧ ∀ a27 : Option Addr, ∀ c28 : Nat, ∀ H29 : Heap, App H24 1 5 [(.int .u8 0)] a6 l7 c8 old25 new26 1 a27 c28 H29 → (
 ((0 : Int) ≤ 2 ∧ (2 : Int) ≤ ((ByteArray.size s9) : Int) ∧ (
 (I4 a27 (l7 + 1) c28 (ByteArray.extract s9 (Int.toNat 2) (ByteArray.size s9)) H29) ∧ μ5 a27 (l7 + 1) c28 (ByteArray.extract s9 (Int.toNat 2) (ByteArray.size s9)) H29 < μ5 a6 l7 c8 s9 H10))))))))))))))))) ∧ (¬ ((1 : Int) < (ByteArray.size s9 : Int)) → (
 R (.slice a6 l7 c8) H10)))))) := by kernel_rfl


/-- (*pentimento/script.Event).set -/
theorem SetV (x0 : Option Addr) (x1 : Int) (x2 : ByteArray) (H : Heap) (R : Value → Heap → Prop) : Walk Tryz.prog 51 [] [(.pointer x0), (.int .i32 x1), (.string x2)] H R = (
 ∃ b1 o2 : Nat, x0 = some (⟨b1, o2, none⟩ : Addr) ∧ (
 ((((x1 : Int) = 115) → (
 Does Tryz.prog 72 [(.string x2)] H fun v3 H4 => ∃ s5 : ByteArray, v3 = (.string s5) ∧ (
 ∃ b6 o7 : Nat, x0 = some (⟨b6, o7, none⟩ : Addr) ∧ (
 Cells H4 b6 (o7 + 1) 1 ∧ ∀ H8 : Heap, Puts H4 b6 (o7 + 1) [(.string s5)] H8 → (
 R (.tuple #[]) H8))))) ∧ (¬ ((x1 : Int) = 115) → (
 ((((x1 : Int) = 111) → (
 Does Tryz.prog 72 [(.string x2)] H fun v9 H10 => ∃ s11 : ByteArray, v9 = (.string s11) ∧ (
 ∃ b12 o13 : Nat, x0 = some (⟨b12, o13, none⟩ : Addr) ∧ (
 Cells H10 b12 (o13 + 2) 1 ∧ ∀ H14 : Heap, Puts H10 b12 (o13 + 2) [(.string s11)] H14 → (
 R (.tuple #[]) H14))))) ∧ (¬ ((x1 : Int) = 111) → (
 ((((x1 : Int) = 114) → (
 Does Tryz.prog 72 [(.string x2)] H fun v15 H16 => ∃ s17 : ByteArray, v15 = (.string s17) ∧ (
 ∃ b18 o19 : Nat, x0 = some (⟨b18, o19, none⟩ : Addr) ∧ (
 Cells H16 b18 (o19 + 3) 1 ∧ ∀ H20 : Heap, Puts H16 b18 (o19 + 3) [(.string s17)] H20 → (
 R (.tuple #[]) H20))))) ∧ (¬ ((x1 : Int) = 114) → (
 ((((x1 : Int) = 110) → (
 Does Tryz.prog 73 [(.string x2)] H fun v21 H22 => ∃ n23 : Int, v21 = (.int .i64 n23) ∧ (
 ∃ b24 o25 : Nat, x0 = some (⟨b24, o25, none⟩ : Addr) ∧ (
 Cells H22 b24 (o25 + 12) 1 ∧ ∀ H26 : Heap, Puts H22 b24 (o25 + 12) [(.int .i64 n23)] H26 → (
 R (.tuple #[]) H26))))) ∧ (¬ ((x1 : Int) = 110) → (
 ((((x1 : Int) = 107) → (
 Does Tryz.prog 74 [(.string x2)] H fun v27 H28 => ∃ a29 : Option Addr, ∃ l30 : Nat, ∃ c31 : Nat, v27 = (.slice a29 l30 c31) ∧ (
 ∃ b32 o33 : Nat, x0 = some (⟨b32, o33, none⟩ : Addr) ∧ (
 Cells H28 b32 (o33 + 13) 1 ∧ ∀ H34 : Heap, Puts H28 b32 (o33 + 13) [(.slice a29 l30 c31)] H34 → (
 R (.tuple #[]) H34))))) ∧ (¬ ((x1 : Int) = 107) → (
 ((((x1 : Int) = 112) → (
 Does Tryz.prog 72 [(.string x2)] H fun v35 H36 => ∃ s37 : ByteArray, v35 = (.string s37) ∧ (
 ∃ b38 o39 : Nat, (some (⟨b1, (o2 + 4), none⟩ : Addr)) = some (⟨b38, o39, none⟩ : Addr) ∧ (
 Cells H36 b38 (o39 + 1) 1 ∧ ∀ H40 : Heap, Puts H36 b38 (o39 + 1) [(.string s37)] H40 → (
 R (.tuple #[]) H40))))) ∧ (¬ ((x1 : Int) = 112) → (
 ((((x1 : Int) = 113) → (
 Does Tryz.prog 72 [(.string x2)] H fun v41 H42 => ∃ s43 : ByteArray, v41 = (.string s43) ∧ (
 ∃ b44 o45 : Nat, (some (⟨b1, (o2 + 4), none⟩ : Addr)) = some (⟨b44, o45, none⟩ : Addr) ∧ (
 Cells H42 b44 (o45 + 2) 1 ∧ ∀ H46 : Heap, Puts H42 b44 (o45 + 2) [(.string s43)] H46 → (
 R (.tuple #[]) H46))))) ∧ (¬ ((x1 : Int) = 113) → (
 ((((x1 : Int) = 109) → (
 Does Tryz.prog 73 [(.string x2)] H fun v47 H48 => ∃ n49 : Int, v47 = (.int .i64 n49) ∧ (
 ∃ b50 o51 : Nat, (some (⟨b1, (o2 + 4), none⟩ : Addr)) = some (⟨b50, o51, none⟩ : Addr) ∧ (
 Cells H48 b50 (o51 + 3) 1 ∧ ∀ H52 : Heap, Puts H48 b50 (o51 + 3) [(.int .i64 n49)] H52 → (
 R (.tuple #[]) H52))))) ∧ (¬ ((x1 : Int) = 109) → (
 ((((x1 : Int) = 116) → (
 Does Tryz.prog 75 [(.string x2)] H fun v53 H54 => ∃ f55 : Nat, ∃ t56 : Bool, v53 = (.tuple #[(.float .f64 f55), (.bool t56)]) ∧ (
 ∃ b57 o58 : Nat, (some (⟨b1, (o2 + 4), none⟩ : Addr)) = some (⟨b57, o58, none⟩ : Addr) ∧ (
 Cells H54 b57 (o58 + 4) 1 ∧ ∀ H59 : Heap, Puts H54 b57 (o58 + 4) [(.float .f64 f55)] H59 → (
 R (.tuple #[]) H59))))) ∧ (¬ ((x1 : Int) = 116) → (
 ((((x1 : Int) = 97) → (
 Does Tryz.prog 73 [(.string x2)] H fun v60 H61 => ∃ n62 : Int, v60 = (.int .i64 n62) ∧ (
 ∃ b63 o64 : Nat, (some (⟨b1, (o2 + 4), none⟩ : Addr)) = some (⟨b63, o64, none⟩ : Addr) ∧ (
 Cells H61 b63 (o64 + 5) 1 ∧ ∀ H65 : Heap, Puts H61 b63 (o64 + 5) [(.int .i64 n62)] H65 → (
 R (.tuple #[]) H65))))) ∧ (¬ ((x1 : Int) = 97) → (
 ((((x1 : Int) = 122) → (
 Does Tryz.prog 73 [(.string x2)] H fun v66 H67 => ∃ n68 : Int, v66 = (.int .i64 n68) ∧ (
 ∃ b69 o70 : Nat, (some (⟨b1, (o2 + 4), none⟩ : Addr)) = some (⟨b69, o70, none⟩ : Addr) ∧ (
 Cells H67 b69 (o70 + 6) 1 ∧ ∀ H71 : Heap, Puts H67 b69 (o70 + 6) [(.int .i64 n68)] H71 → (
 R (.tuple #[]) H71))))) ∧ (¬ ((x1 : Int) = 122) → (
 ((((x1 : Int) = 100) → (
 Does Tryz.prog 74 [(.string x2)] H fun v72 H73 => ∃ a74 : Option Addr, ∃ l75 : Nat, ∃ c76 : Nat, v72 = (.slice a74 l75 c76) ∧ (
 ∃ b77 o78 : Nat, (some (⟨b1, (o2 + 4), none⟩ : Addr)) = some (⟨b77, o78, none⟩ : Addr) ∧ (
 Cells H73 b77 (o78 + 7) 1 ∧ ∀ H79 : Heap, Puts H73 b77 (o78 + 7) [(.slice a74 l75 c76)] H79 → (
 R (.tuple #[]) H79))))) ∧ (¬ ((x1 : Int) = 100) → (
 R (.tuple #[]) H)))))))))))))))))))))))))))))))))))))) := by kernel_rfl


/-- (*pentimento/script.Event).take -/
theorem TakeV (x0 : Option Addr) (x1 : ByteArray) (x2 : Option Addr) (x2l : Nat) (x2c : Nat) (H : Heap) (R : Value → Heap → Prop) : Walk Tryz.prog 25 [] [(.pointer x0), (.string x1), (.slice x2 x2l x2c)] H R = (
 ∀ r1 : Nat, ∀ H2 : Heap, NewIter H r1 x1 H2 → (
 ∃ I3 : Option Addr → Nat → Nat → Heap → Prop, ∃ μ4 : Option Addr → Nat → Nat → Heap → Nat, (I3 x2 x2l x2c H2) ∧
 ∀ a5 : Option Addr, ∀ l6 : Nat, ∀ c7 : Nat, ∀ H8 : Heap, I3 a5 l6 c7 H8 → (
 ∃ s9 : ByteArray, ∃ n10 : Nat, IterAt H8 r1 s9 n10 ∧ (n10 < ByteArray.size s9 → ∀ q11 : Int, ∀ H12 : Heap, q11 = ((Utf8.decode s9 n10).1 : Int) → IterPut H8 r1 s9 (n10 + (Utf8.decode s9 n10).2) H12 → (
 ((true = true → (
 ((((0 : Int) < (l6 : Int)) → (
 (0 : Int) ≤ 0 ∧ (0 : Int) < (l6 : Int) ∧ ∃ b13 o14 : Nat, a5 = some (⟨b13, o14, none⟩ : Addr) ∧ (
 ∃ s15 : ByteArray, hcell H12 b13 (o14 + (Int.toNat 0)) = some (.string s15) ∧ (
 Does Tryz.prog 51 [(.pointer x0), (.int .i32 q11), (.string s15)] H12 fun v16 H17 => v16 = (.tuple #[]) ∧ (
 (0 : Int) ≤ 1 ∧ (1 : Int) ≤ (l6 : Int) ∧ ∀ a18 : Option Addr, a18 = (if c7 = (Int.toNat 1) then a5 else Option.map (fun x => Addr.add x ((Int.toNat 1) * 1)) a5) → (
 (I3 a18 (l6 - (Int.toNat 1)) (c7 - (Int.toNat 1)) H17) ∧ μ4 a18 (l6 - (Int.toNat 1)) (c7 - (Int.toNat 1)) H17 < μ4 a5 l6 c7 H8)))))) ∧ (¬ ((0 : Int) < (l6 : Int)) → (
 (I3 a5 l6 c7 H12) ∧ μ4 a5 l6 c7 H12 < μ4 a5 l6 c7 H8))))) ∧ (true = false → (
 R (.slice a5 l6 c7) H12))))) ∧ (¬ n10 < ByteArray.size s9 → (
 ((false = true → (
 False /- ext -/)) ∧ (false = false → (
 R (.slice a5 l6 c7) H8)))))))) := by kernel_rfl


/-- pentimento/script.Parse -/
theorem ParseEV (x0 : ByteArray) (H : Heap) (R : Value → Heap → Prop) : Walk Tryz.prog 9 [(10, [(4, (.slice none 0 0))]), (17, [])] [(.string x0)] H R = (
 ∀ b1 : Nat, ∀ H2 : Heap, New H b1 [(.int .i64 0), (.string (ByteArray.mk #[])), (.string (ByteArray.mk #[])), (.string (ByteArray.mk #[])), (.int .i64 0), (.string (ByteArray.mk #[])), (.string (ByteArray.mk #[])), (.int .i64 0), (.float .f64 0), (.int .i64 0), (.int .i64 0), (.slice none 0 0), (.int .i64 0), (.slice none 0 0)] 33 H2 → (
 Does Tryz.prog 23 [(.string x0), (.string (ByteArray.mk #[32]))] H2 fun v3 H4 => ∃ a5 : Option Addr, ∃ l6 : Nat, ∃ c7 : Nat, v3 = (.slice a5 l6 c7) ∧ (
 ∀ b8 : Nat, ∀ H9 : Heap, New H4 b8 [(.int .i64 0), (.string (ByteArray.mk #[])), (.string (ByteArray.mk #[])), (.string (ByteArray.mk #[])), (.int .i64 0), (.string (ByteArray.mk #[])), (.string (ByteArray.mk #[])), (.int .i64 0), (.float .f64 0), (.int .i64 0), (.int .i64 0), (.slice none 0 0), (.int .i64 0), (.slice none 0 0)] 33 H9 → (
 ∃ I10 : Option Addr → Nat → Nat → Heap → Prop, (
 ∃ I11 : Option Addr → Nat → Nat → Int → Heap → Prop, ∃ μ12 : Option Addr → Nat → Nat → Int → Heap → Nat, (I11 a5 l6 c7 1 H9) ∧
 ∀ a13 : Option Addr, ∀ l14 : Nat, ∀ c15 : Nat, ∀ n16 : Int, ∀ H17 : Heap, I11 a13 l14 c15 n16 H17 → (
 ((((n16 : Int) ≤ 11) → (
 Does Tryz.prog 24 [(.int .i64 n16)] H17 fun v18 H19 => ∃ s20 : ByteArray, ∃ s21 : ByteArray, v18 = (.tuple #[(.string s20), (.string s21)]) ∧ (
 (0 : Int) ≤ 0 ∧ (0 : Int) < (l14 : Int) ∧ ∃ b22 o23 : Nat, a13 = some (⟨b22, o23, none⟩ : Addr) ∧ (
 ∃ s24 : ByteArray, hcell H19 b22 (o23 + (Int.toNat 0)) = some (.string s24) ∧ (
 ((((s20 : ByteArray) = s24) → (
 Cells H19 b8 0 1 ∧ ∀ H25 : Heap, Puts H19 b8 0 [(.int .i64 n16)] H25 → (
 (0 : Int) ≤ 1 ∧ (1 : Int) ≤ (l14 : Int) ∧ ∀ a26 : Option Addr, a26 = (if c15 = (Int.toNat 1) then a13 else Option.map (fun x => Addr.add x ((Int.toNat 1) * 1)) a13) → (
 Does Tryz.prog 25 [(.pointer (some (⟨b8, 0, none⟩ : Addr))), (.string s21), (.slice a26 (l14 - (Int.toNat 1)) (c15 - (Int.toNat 1)))] H25 fun v27 H28 => ∃ a29 : Option Addr, ∃ l30 : Nat, ∃ c31 : Nat, v27 = (.slice a29 l30 c31) ∧ (
 I10 a29 l30 c31 H28))))) ∧ (¬ ((s20 : ByteArray) = s24) → (
 (In64 (n16 + 1)) ∧
 (I11 a13 l14 c15 (n16 + 1) H19) ∧ μ12 a13 l14 c15 (n16 + 1) H19 < μ12 a13 l14 c15 n16 H17)))))))) ∧ (¬ ((n16 : Int) ≤ 11) → (
 I10 a13 l14 c15 H17))))) ∧
 ∀ a32 : Option Addr, ∀ l33 : Nat, ∀ c34 : Nat, ∀ H35 : Heap, I10 a32 l33 c34 H35 → (
 ∃ I36 : Heap → Prop, (
 ∃ I37 : Int → Heap → Prop, ∃ μ38 : Int → Heap → Nat, (I37 1 H35) ∧
 ∀ n39 : Int, ∀ H40 : Heap, I37 n39 H40 → (
 ((((n39 : Int) ≤ 15) → (
 ∃ n41 : Int, hcell H40 b8 0 = some (.int .i64 n41) ∧ (
 ((((n41 : Int) = 1) → (
 ((((0 : Int) < (l33 : Int)) → (
 Does Tryz.prog 26 [(.int .i64 n39)] H40 fun v42 H43 => ∃ s44 : ByteArray, ∃ s45 : ByteArray, v42 = (.tuple #[(.string s44), (.string s45)]) ∧ (
 (0 : Int) ≤ 0 ∧ (0 : Int) < (l33 : Int) ∧ ∃ b46 o47 : Nat, a32 = some (⟨b46, o47, none⟩ : Addr) ∧ (
 ∃ s48 : ByteArray, hcell H43 b46 (o47 + (Int.toNat 0)) = some (.string s48) ∧ (
 ((((s44 : ByteArray) = s48) → (
 Cells H43 b8 (0 + 4) 1 ∧ ∀ H49 : Heap, Puts H43 b8 (0 + 4) [(.int .i64 n39)] H49 → (
 (0 : Int) ≤ 1 ∧ (1 : Int) ≤ (l33 : Int) ∧ ∀ a50 : Option Addr, a50 = (if c34 = (Int.toNat 1) then a32 else Option.map (fun x => Addr.add x ((Int.toNat 1) * 1)) a32) → (
 Does Tryz.prog 25 [(.pointer (some (⟨b8, 0, none⟩ : Addr))), (.string s45), (.slice a50 (l33 - (Int.toNat 1)) (c34 - (Int.toNat 1)))] H49 fun v51 H52 => ∃ a53 : Option Addr, ∃ l54 : Nat, ∃ c55 : Nat, v51 = (.slice a53 l54 c55) ∧ (
 I36 H52))))) ∧ (¬ ((s44 : ByteArray) = s48) → (
 (In64 (n39 + 1)) ∧
 (I37 (n39 + 1) H43) ∧ μ38 (n39 + 1) H43 < μ38 n39 H40)))))))) ∧ (¬ ((0 : Int) < (l33 : Int)) → (
 I36 H40))))) ∧ (¬ ((n41 : Int) = 1) → (
 I36 H40)))))) ∧ (¬ ((n39 : Int) ≤ 15) → (
 I36 H40))))) ∧
 ∀ H56 : Heap, I36 H56 → (
 ∃ n57 : Int, hcell H56 b8 0 = some (.int .i64 n57) ∧ (
 ∃ s58 : ByteArray, hcell H56 b8 (0 + 1) = some (.string s58) ∧ (
 ∃ s59 : ByteArray, hcell H56 b8 ((0 + 1) + 1) = some (.string s59) ∧ (
 ∃ s60 : ByteArray, hcell H56 b8 (((0 + 1) + 1) + 1) = some (.string s60) ∧ (
 ∃ n61 : Int, hcell H56 b8 ((((0 + 1) + 1) + 1) + 1) = some (.int .i64 n61) ∧ (
 ∃ s62 : ByteArray, hcell H56 b8 (((((0 + 1) + 1) + 1) + 1) + 1) = some (.string s62) ∧ (
 ∃ s63 : ByteArray, hcell H56 b8 ((((((0 + 1) + 1) + 1) + 1) + 1) + 1) = some (.string s63) ∧ (
 ∃ n64 : Int, hcell H56 b8 (((((((0 + 1) + 1) + 1) + 1) + 1) + 1) + 1) = some (.int .i64 n64) ∧ (
 ∃ f65 : Nat, hcell H56 b8 ((((((((0 + 1) + 1) + 1) + 1) + 1) + 1) + 1) + 1) = some (.float .f64 f65) ∧ (
 ∃ n66 : Int, hcell H56 b8 (((((((((0 + 1) + 1) + 1) + 1) + 1) + 1) + 1) + 1) + 1) = some (.int .i64 n66) ∧ (
 ∃ n67 : Int, hcell H56 b8 ((((((((((0 + 1) + 1) + 1) + 1) + 1) + 1) + 1) + 1) + 1) + 1) = some (.int .i64 n67) ∧ (
 ∃ a68 : Option Addr, ∃ l69 : Nat, ∃ c70 : Nat, hcell H56 b8 (((((((((((0 + 1) + 1) + 1) + 1) + 1) + 1) + 1) + 1) + 1) + 1) + 1) = some (.slice a68 l69 c70) ∧ (
 ∃ n71 : Int, hcell H56 b8 ((((((((((((0 + 1) + 1) + 1) + 1) + 1) + 1) + 1) + 1) + 1) + 1) + 1) + 1) = some (.int .i64 n71) ∧ (
 ∃ a72 : Option Addr, ∃ l73 : Nat, ∃ c74 : Nat, hcell H56 b8 (((((((((((((0 + 1) + 1) + 1) + 1) + 1) + 1) + 1) + 1) + 1) + 1) + 1) + 1) + 1) = some (.slice a72 l73 c74) ∧ (
 Does Tryz.prog 13 [(.agg #[(.int .i64 n57), (.string s58), (.string s59), (.string s60), (.int .i64 n61), (.string s62), (.string s63), (.int .i64 n64), (.float .f64 f65), (.int .i64 n66), (.int .i64 n67), (.slice a68 l69 c70), (.int .i64 n71), (.slice a72 l73 c74)])] H56 fun v75 H76 => ∃ s77 : ByteArray, ∃ t78 : Bool, v75 = (.tuple #[(.string s77), (.bool t78)]) ∧ (
 (((t78 = false) → (
 Cells H76 b1 0 14 ∧ ∀ H79 : Heap, Puts H76 b1 0 [(.int .i64 0), (.string (ByteArray.mk #[])), (.string (ByteArray.mk #[])), (.string (ByteArray.mk #[])), (.int .i64 0), (.string (ByteArray.mk #[])), (.string (ByteArray.mk #[])), (.int .i64 0), (.float .f64 0), (.int .i64 0), (.int .i64 0), (.slice none 0 0), (.int .i64 0), (.slice none 0 0)] H79 → (
 ∃ n80 : Int, hcell H79 b1 0 = some (.int .i64 n80) ∧ (
 ∃ s81 : ByteArray, hcell H79 b1 (0 + 1) = some (.string s81) ∧ (
 ∃ s82 : ByteArray, hcell H79 b1 ((0 + 1) + 1) = some (.string s82) ∧ (
 ∃ s83 : ByteArray, hcell H79 b1 (((0 + 1) + 1) + 1) = some (.string s83) ∧ (
 ∃ n84 : Int, hcell H79 b1 ((((0 + 1) + 1) + 1) + 1) = some (.int .i64 n84) ∧ (
 ∃ s85 : ByteArray, hcell H79 b1 (((((0 + 1) + 1) + 1) + 1) + 1) = some (.string s85) ∧ (
 ∃ s86 : ByteArray, hcell H79 b1 ((((((0 + 1) + 1) + 1) + 1) + 1) + 1) = some (.string s86) ∧ (
 ∃ n87 : Int, hcell H79 b1 (((((((0 + 1) + 1) + 1) + 1) + 1) + 1) + 1) = some (.int .i64 n87) ∧ (
 ∃ f88 : Nat, hcell H79 b1 ((((((((0 + 1) + 1) + 1) + 1) + 1) + 1) + 1) + 1) = some (.float .f64 f88) ∧ (
 ∃ n89 : Int, hcell H79 b1 (((((((((0 + 1) + 1) + 1) + 1) + 1) + 1) + 1) + 1) + 1) = some (.int .i64 n89) ∧ (
 ∃ n90 : Int, hcell H79 b1 ((((((((((0 + 1) + 1) + 1) + 1) + 1) + 1) + 1) + 1) + 1) + 1) = some (.int .i64 n90) ∧ (
 ∃ a91 : Option Addr, ∃ l92 : Nat, ∃ c93 : Nat, hcell H79 b1 (((((((((((0 + 1) + 1) + 1) + 1) + 1) + 1) + 1) + 1) + 1) + 1) + 1) = some (.slice a91 l92 c93) ∧ (
 ∃ n94 : Int, hcell H79 b1 ((((((((((((0 + 1) + 1) + 1) + 1) + 1) + 1) + 1) + 1) + 1) + 1) + 1) + 1) = some (.int .i64 n94) ∧ (
 ∃ a95 : Option Addr, ∃ l96 : Nat, ∃ c97 : Nat, hcell H79 b1 (((((((((((((0 + 1) + 1) + 1) + 1) + 1) + 1) + 1) + 1) + 1) + 1) + 1) + 1) + 1) = some (.slice a95 l96 c97) ∧ (
 R (.tuple #[(.agg #[(.int .i64 n80), (.string s81), (.string s82), (.string s83), (.int .i64 n84), (.string s85), (.string s86), (.int .i64 n87), (.float .f64 f88), (.int .i64 n89), (.int .i64 n90), (.slice a91 l92 c93), (.int .i64 n94), (.slice a95 l96 c97)]), (.bool false)]) H79))))))))))))))))) ∧ (¬ (t78 = false) → (
 ((((s77 : ByteArray) ≠ x0) → (
 Cells H76 b1 0 14 ∧ ∀ H98 : Heap, Puts H76 b1 0 [(.int .i64 0), (.string (ByteArray.mk #[])), (.string (ByteArray.mk #[])), (.string (ByteArray.mk #[])), (.int .i64 0), (.string (ByteArray.mk #[])), (.string (ByteArray.mk #[])), (.int .i64 0), (.float .f64 0), (.int .i64 0), (.int .i64 0), (.slice none 0 0), (.int .i64 0), (.slice none 0 0)] H98 → (
 ∃ n99 : Int, hcell H98 b1 0 = some (.int .i64 n99) ∧ (
 ∃ s100 : ByteArray, hcell H98 b1 (0 + 1) = some (.string s100) ∧ (
 ∃ s101 : ByteArray, hcell H98 b1 ((0 + 1) + 1) = some (.string s101) ∧ (
 ∃ s102 : ByteArray, hcell H98 b1 (((0 + 1) + 1) + 1) = some (.string s102) ∧ (
 ∃ n103 : Int, hcell H98 b1 ((((0 + 1) + 1) + 1) + 1) = some (.int .i64 n103) ∧ (
 ∃ s104 : ByteArray, hcell H98 b1 (((((0 + 1) + 1) + 1) + 1) + 1) = some (.string s104) ∧ (
 ∃ s105 : ByteArray, hcell H98 b1 ((((((0 + 1) + 1) + 1) + 1) + 1) + 1) = some (.string s105) ∧ (
 ∃ n106 : Int, hcell H98 b1 (((((((0 + 1) + 1) + 1) + 1) + 1) + 1) + 1) = some (.int .i64 n106) ∧ (
 ∃ f107 : Nat, hcell H98 b1 ((((((((0 + 1) + 1) + 1) + 1) + 1) + 1) + 1) + 1) = some (.float .f64 f107) ∧ (
 ∃ n108 : Int, hcell H98 b1 (((((((((0 + 1) + 1) + 1) + 1) + 1) + 1) + 1) + 1) + 1) = some (.int .i64 n108) ∧ (
 ∃ n109 : Int, hcell H98 b1 ((((((((((0 + 1) + 1) + 1) + 1) + 1) + 1) + 1) + 1) + 1) + 1) = some (.int .i64 n109) ∧ (
 ∃ a110 : Option Addr, ∃ l111 : Nat, ∃ c112 : Nat, hcell H98 b1 (((((((((((0 + 1) + 1) + 1) + 1) + 1) + 1) + 1) + 1) + 1) + 1) + 1) = some (.slice a110 l111 c112) ∧ (
 ∃ n113 : Int, hcell H98 b1 ((((((((((((0 + 1) + 1) + 1) + 1) + 1) + 1) + 1) + 1) + 1) + 1) + 1) + 1) = some (.int .i64 n113) ∧ (
 ∃ a114 : Option Addr, ∃ l115 : Nat, ∃ c116 : Nat, hcell H98 b1 (((((((((((((0 + 1) + 1) + 1) + 1) + 1) + 1) + 1) + 1) + 1) + 1) + 1) + 1) + 1) = some (.slice a114 l115 c116) ∧ (
 R (.tuple #[(.agg #[(.int .i64 n99), (.string s100), (.string s101), (.string s102), (.int .i64 n103), (.string s104), (.string s105), (.int .i64 n106), (.float .f64 f107), (.int .i64 n108), (.int .i64 n109), (.slice a110 l111 c112), (.int .i64 n113), (.slice a114 l115 c116)]), (.bool false)]) H98))))))))))))))))) ∧ (¬ ((s77 : ByteArray) ≠ x0) → (
 ∃ n117 : Int, hcell H76 b8 0 = some (.int .i64 n117) ∧ (
 ∃ s118 : ByteArray, hcell H76 b8 (0 + 1) = some (.string s118) ∧ (
 ∃ s119 : ByteArray, hcell H76 b8 ((0 + 1) + 1) = some (.string s119) ∧ (
 ∃ s120 : ByteArray, hcell H76 b8 (((0 + 1) + 1) + 1) = some (.string s120) ∧ (
 ∃ n121 : Int, hcell H76 b8 ((((0 + 1) + 1) + 1) + 1) = some (.int .i64 n121) ∧ (
 ∃ s122 : ByteArray, hcell H76 b8 (((((0 + 1) + 1) + 1) + 1) + 1) = some (.string s122) ∧ (
 ∃ s123 : ByteArray, hcell H76 b8 ((((((0 + 1) + 1) + 1) + 1) + 1) + 1) = some (.string s123) ∧ (
 ∃ n124 : Int, hcell H76 b8 (((((((0 + 1) + 1) + 1) + 1) + 1) + 1) + 1) = some (.int .i64 n124) ∧ (
 ∃ f125 : Nat, hcell H76 b8 ((((((((0 + 1) + 1) + 1) + 1) + 1) + 1) + 1) + 1) = some (.float .f64 f125) ∧ (
 ∃ n126 : Int, hcell H76 b8 (((((((((0 + 1) + 1) + 1) + 1) + 1) + 1) + 1) + 1) + 1) = some (.int .i64 n126) ∧ (
 ∃ n127 : Int, hcell H76 b8 ((((((((((0 + 1) + 1) + 1) + 1) + 1) + 1) + 1) + 1) + 1) + 1) = some (.int .i64 n127) ∧ (
 ∃ a128 : Option Addr, ∃ l129 : Nat, ∃ c130 : Nat, hcell H76 b8 (((((((((((0 + 1) + 1) + 1) + 1) + 1) + 1) + 1) + 1) + 1) + 1) + 1) = some (.slice a128 l129 c130) ∧ (
 ∃ n131 : Int, hcell H76 b8 ((((((((((((0 + 1) + 1) + 1) + 1) + 1) + 1) + 1) + 1) + 1) + 1) + 1) + 1) = some (.int .i64 n131) ∧ (
 ∃ a132 : Option Addr, ∃ l133 : Nat, ∃ c134 : Nat, hcell H76 b8 (((((((((((((0 + 1) + 1) + 1) + 1) + 1) + 1) + 1) + 1) + 1) + 1) + 1) + 1) + 1) = some (.slice a132 l133 c134) ∧ (
 Cells H76 b1 0 14 ∧ ∀ H135 : Heap, Puts H76 b1 0 [(.int .i64 n117), (.string s118), (.string s119), (.string s120), (.int .i64 n121), (.string s122), (.string s123), (.int .i64 n124), (.float .f64 f125), (.int .i64 n126), (.int .i64 n127), (.slice a128 l129 c130), (.int .i64 n131), (.slice a132 l133 c134)] H135 → (
 ∃ n136 : Int, hcell H135 b1 0 = some (.int .i64 n136) ∧ (
 ∃ s137 : ByteArray, hcell H135 b1 (0 + 1) = some (.string s137) ∧ (
 ∃ s138 : ByteArray, hcell H135 b1 ((0 + 1) + 1) = some (.string s138) ∧ (
 ∃ s139 : ByteArray, hcell H135 b1 (((0 + 1) + 1) + 1) = some (.string s139) ∧ (
 ∃ n140 : Int, hcell H135 b1 ((((0 + 1) + 1) + 1) + 1) = some (.int .i64 n140) ∧ (
 ∃ s141 : ByteArray, hcell H135 b1 (((((0 + 1) + 1) + 1) + 1) + 1) = some (.string s141) ∧ (
 ∃ s142 : ByteArray, hcell H135 b1 ((((((0 + 1) + 1) + 1) + 1) + 1) + 1) = some (.string s142) ∧ (
 ∃ n143 : Int, hcell H135 b1 (((((((0 + 1) + 1) + 1) + 1) + 1) + 1) + 1) = some (.int .i64 n143) ∧ (
 ∃ f144 : Nat, hcell H135 b1 ((((((((0 + 1) + 1) + 1) + 1) + 1) + 1) + 1) + 1) = some (.float .f64 f144) ∧ (
 ∃ n145 : Int, hcell H135 b1 (((((((((0 + 1) + 1) + 1) + 1) + 1) + 1) + 1) + 1) + 1) = some (.int .i64 n145) ∧ (
 ∃ n146 : Int, hcell H135 b1 ((((((((((0 + 1) + 1) + 1) + 1) + 1) + 1) + 1) + 1) + 1) + 1) = some (.int .i64 n146) ∧ (
 ∃ a147 : Option Addr, ∃ l148 : Nat, ∃ c149 : Nat, hcell H135 b1 (((((((((((0 + 1) + 1) + 1) + 1) + 1) + 1) + 1) + 1) + 1) + 1) + 1) = some (.slice a147 l148 c149) ∧ (
 ∃ n150 : Int, hcell H135 b1 ((((((((((((0 + 1) + 1) + 1) + 1) + 1) + 1) + 1) + 1) + 1) + 1) + 1) + 1) = some (.int .i64 n150) ∧ (
 ∃ a151 : Option Addr, ∃ l152 : Nat, ∃ c153 : Nat, hcell H135 b1 (((((((((((((0 + 1) + 1) + 1) + 1) + 1) + 1) + 1) + 1) + 1) + 1) + 1) + 1) + 1) = some (.slice a151 l152 c153) ∧ (
 R (.tuple #[(.agg #[(.int .i64 n136), (.string s137), (.string s138), (.string s139), (.int .i64 n140), (.string s141), (.string s142), (.int .i64 n143), (.float .f64 f144), (.int .i64 n145), (.int .i64 n146), (.slice a147 l148 c149), (.int .i64 n150), (.slice a151 l152 c153)]), (.bool true)]) H135)))))))))))))))))))))))))))))))))))))))))))))))))))))))) := by kernel_rfl


end Go.Proofs
end

section
open Go Go.Vc
namespace Go.Proofs

/-! ### Reading words -/
def digsL : List UInt8 := [48, 49, 50, 51, 52, 53, 54, 55, 56, 57, 97, 98, 99, 100, 101, 102]
def hSi (a b : UInt8) : Int := IntKind.wrap .u8 (bits .or .i64 (IntKind.wrap .i64 (Lib.indexByte digsL a * 2 ^ (min (Int.toNat 4) (IntKind.bits .i64)))) (bits .and .i64 (Lib.indexByte digsL b) 15))
def hS : HB := fun a b => UInt8.ofNat (hSi a b).toNat
theorem hSi_all : ∀ c : Fin 256, hSi (UInt8.ofNat (digN (c.val / 16))) (UInt8.ofNat (digN (c.val % 16))) = (c.val : Int) := by decide +kernel
theorem hS_ok : HBok hS := by
  intro c
  have := hSi_all ⟨c.toNat, c.toNat_lt⟩
  simp only [] at this
  unfold hS
  rw [this, Int.toNat_natCast]
  simp
theorem hSi_in (a b : UInt8) : hSi a b = ((hS a b).toNat : Int) := by
  have h : 0 ≤ hSi a b ∧ hSi a b < 256 := by unfold hSi; rw [wrap_u8]; omega
  unfold hS
  simp
  omega

theorem unhexG_size (h : HB) : ∀ l : List UInt8, (unhexG h l).length ≤ l.length
  | [] => by simp [unhexG]
  | [a] => by simp [unhexG]
  | a :: b :: r => by
    have := unhexG_size h r
    simp only [unhexG, List.length_cons]
    omega
theorem stripL_size : ∀ l : List UInt8, (stripL l).length ≤ l.length
  | [] => by simp [stripL]
  | c :: r => by simp only [stripL]; split <;> simp
theorem toList_size (s : ByteArray) : s.data.toList.length = s.size := Array.length_toList
theorem unhexM_size (h : HB) (s : ByteArray) : (unhexM h s).length ≤ s.size := by
  unfold unhexM
  have h1 := unhexG_size h (stripL s.data.toList)
  have h2 := stripL_size s.data.toList
  rw [toList_size] at h2
  omega
theorem untextM_size (h : HB) (s : ByteArray) : (untextM h s).size ≤ s.size := by
  unfold untextM
  split
  · have h1 := unhexG_size h s.data.toList.tail
    have h2 : s.data.toList.tail.length ≤ s.data.toList.length := by rw [List.length_tail]; omega
    rw [toList_size] at h2
    show (List.toArray _).size ≤ _
    simp only [List.size_toArray]
    omega
  · exact Nat.le_refl _

theorem ex_toList (s : ByteArray) (i j : Nat) : (s.extract i j).data.toList = (s.data.toList.drop i).take (j - i) := Lib.extract_data s i j
theorem list_head2 {l : List UInt8} (h : 1 < l.length) : l = l.getD 0 0 :: l.getD 1 0 :: l.drop 2 := by
  match l, h with
  | a :: b :: r, _ => rfl

theorem pct (s : ByteArray) (h : 1 ≤ s.size) : s.extract 0 1 = ByteArray.mk #[37] ↔ s.data.toList.headD 0 = 37 := by
  have e : ∀ t u : ByteArray, t = u ↔ t.data.toList = u.data.toList := fun t u => ⟨fun h => by rw [h], fun h => ByteArray.ext (Array.toList_inj.1 h)⟩
  rw [e, ex_toList]
  have hl := toList_size s
  cases hs : s.data.toList with
  | nil => rw [hs] at hl; simp at hl; omega
  | cons c r => simp
theorem size0 {s : ByteArray} (h : s.size = 0) : s.data.toList = [] := List.eq_nil_of_length_eq_zero (by rw [toList_size]; exact h)

theorem hasp_ok (s : ByteArray) (H : Heap) : Does Tryz.prog 114 [.string s, .string (ByteArray.mk #[37])] H fun v H' => v = .bool (decide (s.data.toList.headD 0 = 37)) ∧ H = H' := by
  refine Fn_of_vc Tryz.mixed (HasP0V _ _ _ _) ?_
  have e1 : ((ByteArray.mk #[37]).size : Int) = 1 := rfl
  rw [e1]
  refine ⟨fun h => ⟨by omega, h, congrArg Value.bool (dec_eq (by rw [decide_eq_true_eq]; exact pct s (by omega))), rfl⟩, fun h => ⟨?_, rfl⟩⟩
  rw [size0 (by omega : s.size = 0)]
  rfl
theorem hasp2_ok (s : ByteArray) (H : Heap) : Does Tryz.prog 96 [.string s, .string (ByteArray.mk #[37])] H fun v H' => v = .bool (decide (s.data.toList.headD 0 = 37)) ∧ H = H' := by
  refine Fn_of_vc Tryz.mixed (HasPV _ _ _ _) ?_
  refine (hasp_ok s H).mono ?_
  rintro _ H2 ⟨rfl, rfl⟩
  exact ⟨_, rfl, rfl, rfl⟩
theorem trim_ok (s : ByteArray) (H : Heap) : Does Tryz.prog 98 [.string s, .string (ByteArray.mk #[37])] H fun v H' => (∃ t : ByteArray, v = .string t ∧ t.data.toList = stripL s.data.toList) ∧ H = H' := by
  refine Fn_of_vc Tryz.mixed (TrimPV _ _ _ _) ?_
  refine Does.mono (R := fun v H' => (∃ t : ByteArray, v = .string t ∧ t.data.toList = stripL s.data.toList) ∧ H = H') ?_ ?_
  · refine Fn_of_vc Tryz.mixed (TrimP0V _ _ _ _) ?_
    refine (hasp_ok s H).mono ?_
    rintro _ H2 ⟨rfl, rfl⟩
    have hl := toList_size s
    refine ⟨_, rfl, fun h => ?_, fun h => ⟨⟨s, rfl, ?_⟩, rfl⟩⟩
    · rw [decide_eq_true_eq] at h
      cases hs : s.data.toList with
      | nil => rw [hs] at h; exact absurd h (by decide)
      | cons c r =>
        rw [hs] at h hl
        simp only [List.length_cons] at hl
        refine ⟨by decide, by show (1 : Int) ≤ _; omega, ⟨_, rfl, ?_⟩, rfl⟩
        rw [ex_toList, hs]
        have e1 : (Int.toNat ((ByteArray.mk #[37]).size : Int)) = 1 := rfl
        rw [e1, ← hl]
        simp only [List.headD_cons] at h
        simp [stripL, h]
    · rw [decide_eq_false_iff_not] at h
      cases hs : s.data.toList with
      | nil => rfl
      | cons c r =>
        rw [hs] at h
        simp only [List.headD_cons] at h
        simp [stripL, h]
  · rintro _ H2 ⟨⟨t, rfl, ht⟩, rfl⟩
    exact ⟨_, rfl, ⟨t, rfl, ht⟩, rfl⟩

theorem bytesV_snoc (l : List UInt8) (c : UInt8) : bytesV l ++ [Value.int .u8 (c.toNat : Int)] = bytesV (l ++ [c]) := by simp [bytesV]

theorem unhex_ok (s : ByteArray) (hs : s.size ≤ 1000000000) {H : Heap} (_ : Glob H) : Does Tryz.prog 74 [.string s] H fun v H' => ∃ a n c, v = .slice a n c ∧ Own H' 1 a n c (bytesV (unhexM hS s)) ∧ (∀ k ∈ blkOf a, H.size ≤ k) ∧ Ext [] H H' := by
  refine Fn_of_vc Tryz.mixed (UnhexV _ _ _) ?_
  refine (trim_ok s H).mono ?_
  rintro _ H2 ⟨⟨t, rfl, ht⟩, rfl⟩
  have htl : t.size ≤ 1000000000 := by
    have h1 := toList_size t
    have h2 := stripL_size s.data.toList
    rw [toList_size] at h2
    rw [ht] at h1
    omega
  refine ⟨t, rfl, fun a l c u H' => ∃ xs : List UInt8, Own H' 1 a l c (bytesV xs) ∧ xs ++ unhexG hS u.data.toList = unhexM hS s ∧ (∀ k ∈ blkOf a, H.size ≤ k) ∧ Ext [] H H' ∧ xs.length + u.size ≤ t.size, fun _ _ _ u _ => u.size, ⟨[], Own.nil _ _, by unfold unhexM; rw [ht]; rfl, by simp [blkOf], Ext.refl _ _, by simp⟩, ?_⟩
  rintro a l c u H10 ⟨xs, ho, hxs, hnew, hx, hsz⟩
  have hul := toList_size u
  have hxl : xs.length = l := by have := ho.1; rw [bytesV_length] at this; omega
  refine ⟨fun hlt => ?_, fun hge => ⟨a, l, c, rfl, ?_, hnew, hx⟩⟩
  · refine ⟨by decide, by omega, fun q11 e11 => ⟨by decide, hlt, fun q12 e12 => ?_⟩⟩
    refine (ixb_ok _ (u.data.toList.getD 0 0) e11 H10).mono ?_
    rintro _ H14 ⟨rfl, rfl⟩
    refine ⟨_, rfl, by decide, fun q16 e16 => ?_⟩
    refine (ixb_ok _ (u.data.toList.getD 1 0) e12 H10).mono ?_
    rintro _ H18 ⟨rfl, rfl⟩
    refine ⟨_, rfl, fun q20 e20 q21 e21 q22 e22 => ?_⟩
    have eq : q22 = ((hS (u.data.toList.getD 0 0) (u.data.toList.getD 1 0)).toNat : Int) := by
      rw [← hSi_in]
      subst e16 e20 e21
      exact e22
    subst eq
    intro b23 H24 hn
    have ho24 := ho.ext hn.ext (by simp)
    refine ⟨bytesV xs, [Value.int .u8 ((hS (u.data.toList.getD 0 0) (u.data.toList.getD 1 0)).toNat : Int)], ho24.row _ _, ⟨rfl, .inr rfl, fun j v hj => by
      show hcell H24 b23 (0 + j) = some v
      rw [Nat.zero_add, hn.blk.cell]; exact hj⟩, by simp [Value.oneCell'], by omega, fun hle => by simpa using ho24.room (n := 1) hle, ?_⟩
    intro a27 c28 H29 happ
    obtain ⟨ho29, hx29, hfr⟩ := happ.own ho24 (ho24.row _ _) rfl rfl
    have hs10 := hx.size
    have hs24 := hn.size
    refine ⟨by decide, by omega, ⟨xs ++ [hS (u.data.toList.getD 0 0) (u.data.toList.getD 1 0)], ?_, ?_, fun k hk => ?_, ?_, ?_⟩, ?_⟩
    · rw [← bytesV_snoc]; exact ho29
    · rw [ex_toList, ← hxs]
      have e2 : Int.toNat 2 = 2 := rfl
      rw [e2, ← hul, List.take_of_length_le (by rw [List.length_drop]; omega)]
      conv => rhs; rw [list_head2 (l := u.data.toList) (by omega)]
      simp [unhexG]
    · rcases hfr k hk with h' | h'
      · exact hnew k h'
      · omega
    · exact (hx.trans hn.ext).trans' hx29 (fun i hi => .inl (hnew i hi))
    · have : (u.extract (Int.toNat 2) u.size).size = u.size - 2 := by rw [ByteArray.size_extract]; simp
      rw [this]
      simp
      omega
    · have : (u.extract (Int.toNat 2) u.size).size = u.size - 2 := by rw [ByteArray.size_extract]; simp
      dsimp only
      rw [this]
      omega
  · have hu : unhexG hS u.data.toList = [] := by
      match hu : u.data.toList with
      | [] => rfl
      | [a] => rfl
      | a :: b :: r => rw [hu] at hul; simp at hul; omega
    rw [hu, List.append_nil] at hxs
    rw [← hxs]
    exact ho

theorem untext_ok (s : ByteArray) (hs : s.size ≤ 1000000000) {H : Heap} (g : Glob H) : Does Tryz.prog 72 [.string s] H fun v H' => v = .string (untextM hS s) ∧ Ext [] H H' := by
  refine Fn_of_vc Tryz.mixed (UntextV _ _ _) ?_
  refine (hasp2_ok s H).mono ?_
  rintro _ H2 ⟨rfl, rfl⟩
  refine ⟨_, rfl, fun h => ?_, fun h => ⟨?_, Ext.refl _ _⟩⟩
  · refine (unhex_ok s hs g).mono ?_
    rintro _ H5 ⟨a, n, c, rfl, ho, _, hx⟩
    rw [decide_eq_true_eq] at h
    refine ⟨_, _, _, rfl, unhexM hS s, ho.row _ _, ?_, hx⟩
    unfold untextM
    rw [if_pos h]
    unfold unhexM
    cases hl : s.data.toList with
    | nil => rw [hl] at h; exact absurd h (by decide)
    | cons c r =>
      rw [hl] at h
      simp only [List.headD_cons] at h
      simp [stripL, h]
  · rw [decide_eq_false_iff_not] at h
    unfold untextM
    rw [if_neg h]
theorem pnum_ok (s : ByteArray) (hs : s.size ≤ 1000000000) {H : Heap} (g : Glob H) : Does Tryz.prog 73 [.string s] H fun v H' => ∃ n, v = .int .i64 n ∧ In64 n ∧ IsInt s n ∧ Ext [] H H' := by
  refine Fn_of_vc Tryz.mixed (PNumV _ _ _) ?_
  refine (atoi_ok s hs g).mono ?_
  rintro _ H2 ⟨n, ev, rfl, h1, h2, _, hx⟩
  exact ⟨n, ev, rfl, n, rfl, h1, h2, hx⟩
theorem plainW_lt {y : Nat} (h : y < 18446744073709551616) : plainW y < 18446744073709551616 ∧ plainW (plainW y) = plainW y := by
  have e : plainW y = 9221120237041090561 ∨ (plainW y = y ∧ nanW y = false) := by
    unfold plainW
    by_cases hn : nanW y = true
    · left; rw [if_pos hn]
    · right; rw [if_neg hn]; exact ⟨rfl, by simpa using hn⟩
  rcases e with e | ⟨e, hn⟩
  · rw [e]; exact ⟨by decide, by decide⟩
  · rw [e]; exact ⟨h, e⟩
theorem isNum_time {s : ByteArray} {v : Value} (h : IsNum s v) : ∃ x t, v = .tuple #[.float .f64 x, .bool t] ∧ x < 18446744073709551616 ∧ IsTime s x := by
  rcases h with ⟨x, h1, h2, h3, rfl⟩ | ⟨h1, rfl⟩
  · refine ⟨x, _, rfl, h1, fun y hy e => ?_⟩
    have := plainW_lt hy
    rw [h3] at e
    rw [(hexS_inj h1 this.1).1 e, this.2]
  · refine ⟨0, _, rfl, by decide, fun y hy e => ?_⟩
    have := plainW_lt hy
    exact absurd e (h1 _ this.1 this.2)
theorem ptime_ok (s : ByteArray) (hs : s.size ≤ 1000000000) {H : Heap} (g : Glob H) : Does Tryz.prog 75 [.string s] H fun v H' => ∃ x t, v = .tuple #[.float .f64 x, .bool t] ∧ x < 18446744073709551616 ∧ IsTime s x ∧ Ext [] H H' := by
  refine (parse_ok (by omega) g.t64 g.err).mono ?_
  rintro v H' ⟨h, hx⟩
  obtain ⟨x, t, h1, h2, h3⟩ := isNum_time h
  exact ⟨x, t, h1, h2, h3, hx⟩

/-! ### An event that is made -/
def EvAt (H : Heap) (b : Nat) (e : Ev) : Prop := ∃ da dl dc ma ml mc, Blk H b (evL e da dl dc ma ml mc) ∧ Rows H e da dl dc ma ml mc ∧ b ∉ blkOf da ∧ b ∉ blkOf ma ∧ EvOk e
theorem apart {b : Nat} {a : Option Addr} (h : b ∉ blkOf a) : ∀ k ∈ blkOf a, k ∉ [b] := fun k hk hm => by
  simp only [List.mem_singleton] at hm
  subst hm
  exact h hk
theorem EvAt.more {H H' : Heap} {b : Nat} {e : Ev} (h : EvAt H b e) (hx : Ext [] H H') : EvAt H' b e := by
  obtain ⟨da, dl, dc, ma, ml, mc, hb, hr, h1, h2, he⟩ := h
  exact ⟨da, dl, dc, ma, ml, mc, hb.ext hx (by simp), hr.ext hx, h1, h2, he⟩
theorem EvAt.lt {H : Heap} {b : Nat} {e : Ev} (h : EvAt H b e) : b < H.size := by
  obtain ⟨da, dl, dc, ma, ml, mc, hb, _⟩ := h
  exact hb.lt

theorem set_ok {H : Heap} {b : Nat} {e : Ev} (h : EvAt H b e) (f : Fld) (s : ByteArray) (hs : s.size ≤ 1000000000) (g : Glob H) :
    Does Tryz.prog 51 [.pointer (some ⟨b, 0, none⟩), .int .i32 ((letB f).toNat : Int), .string s] H fun v H' => v = .tuple #[] ∧ (∃ e', EvAt H' b e' ∧ SetR e f s e') ∧ Ext [b] H H' := by
  obtain ⟨da, dl, dc, ma, ml, mc, hb, hr, h1, h2, he⟩ := h
  have hlt := hb.lt
  refine Fn_of_vc Tryz.mixed (SetV _ _ _ _ _) ?_
  cases f with
  | name =>
    refine ⟨b, 0, rfl, ⟨fun _ => ?_, fun hne => absurd rfl hne⟩⟩
    refine (untext_ok s hs g).mono ?_
    rintro _ H4 ⟨rfl, hx4⟩
    refine ⟨_, rfl, b, _, rfl, (hb.ext hx4 (by simp)).cells _ _ (by simp [evL]), fun H8 hp => ⟨rfl, ⟨{ e with name := untextM hS s }, ⟨da, dl, dc, ma, ml, mc, hp.blk (hb.ext hx4 (by simp)) (by simp [evL]), ⟨(srow_ext hr.data hx4).ext hp.ext (apart h1), (srow_ext hr.mask hx4).ext hp.ext (apart h2)⟩, h1, h2, { he with name := Nat.le_trans (untextM_size _ _) hs }⟩, ⟨?_, rfl, rfl, fits_text hS_ok (g := fun e => e.name) (fun _ => rfl) rfl⟩⟩, hx4.any.trans hp.ext⟩⟩
    intro g hg; cases g <;> first | rfl | exact absurd rfl hg
  | to =>
    refine ⟨b, 0, rfl, ⟨fun h0 => absurd h0 (by decide), fun _ => ⟨fun _ => ?_, fun hne => absurd rfl hne⟩⟩⟩
    refine (untext_ok s hs g).mono ?_
    rintro _ H4 ⟨rfl, hx4⟩
    refine ⟨_, rfl, b, _, rfl, (hb.ext hx4 (by simp)).cells _ _ (by simp [evL]), fun H8 hp => ⟨rfl, ⟨{ e with to := untextM hS s }, ⟨da, dl, dc, ma, ml, mc, hp.blk (hb.ext hx4 (by simp)) (by simp [evL]), ⟨(srow_ext hr.data hx4).ext hp.ext (apart h1), (srow_ext hr.mask hx4).ext hp.ext (apart h2)⟩, h1, h2, { he with to := Nat.le_trans (untextM_size _ _) hs }⟩, ⟨?_, rfl, rfl, fits_text hS_ok (g := fun e => e.to) (fun _ => rfl) rfl⟩⟩, hx4.any.trans hp.ext⟩⟩
    intro g hg; cases g <;> first | rfl | exact absurd rfl hg
  | more =>
    refine ⟨b, 0, rfl, ⟨fun h0 => absurd h0 (by decide), fun _ => ⟨fun h0 => absurd h0 (by decide), fun _ => ⟨fun _ => ?_, fun hne => absurd rfl hne⟩⟩⟩⟩
    refine (untext_ok s hs g).mono ?_
    rintro _ H4 ⟨rfl, hx4⟩
    refine ⟨_, rfl, b, _, rfl, (hb.ext hx4 (by simp)).cells _ _ (by simp [evL]), fun H8 hp => ⟨rfl, ⟨{ e with more := untextM hS s }, ⟨da, dl, dc, ma, ml, mc, hp.blk (hb.ext hx4 (by simp)) (by simp [evL]), ⟨(srow_ext hr.data hx4).ext hp.ext (apart h1), (srow_ext hr.mask hx4).ext hp.ext (apart h2)⟩, h1, h2, { he with more := Nat.le_trans (untextM_size _ _) hs }⟩, ⟨?_, rfl, rfl, fits_text hS_ok (g := fun e => e.more) (fun _ => rfl) rfl⟩⟩, hx4.any.trans hp.ext⟩⟩
    intro g hg; cases g <;> first | rfl | exact absurd rfl hg
  | n =>
    refine ⟨b, 0, rfl, ⟨fun h0 => absurd h0 (by decide), fun _ => ⟨fun h0 => absurd h0 (by decide), fun _ => ⟨fun h0 => absurd h0 (by decide), fun _ => ⟨fun _ => ?_, fun hne => absurd rfl hne⟩⟩⟩⟩⟩
    refine (pnum_ok s hs g).mono ?_
    rintro _ H4 ⟨n, rfl, hn, hi, hx4⟩
    refine ⟨_, rfl, b, _, rfl, (hb.ext hx4 (by simp)).cells _ _ (by simp [evL]), fun H8 hp => ⟨rfl, ⟨{ e with n := n }, ⟨da, dl, dc, ma, ml, mc, hp.blk (hb.ext hx4 (by simp)) (by simp [evL]), ⟨(srow_ext hr.data hx4).ext hp.ext (apart h1), (srow_ext hr.mask hx4).ext hp.ext (apart h2)⟩, h1, h2, { he with n := hn }⟩, ⟨?_, rfl, rfl, fits_num (g := fun e => e.n) (fun _ => rfl) hi⟩⟩, hx4.any.trans hp.ext⟩⟩
    intro g hg; cases g <;> first | rfl | exact absurd rfl hg
  | mask =>
    refine ⟨b, 0, rfl, ⟨fun h0 => absurd h0 (by decide), fun _ => ⟨fun h0 => absurd h0 (by decide), fun _ => ⟨fun h0 => absurd h0 (by decide), fun _ => ⟨fun h0 => absurd h0 (by decide), fun _ => ⟨fun _ => ?_, fun hne => absurd rfl hne⟩⟩⟩⟩⟩⟩
    refine (unhex_ok s hs g).mono ?_
    rintro _ H4 ⟨a, n, c, rfl, ho, hnew, hx4⟩
    have hbn : b ∉ blkOf a := fun hm => by have := hnew b hm; omega
    refine ⟨_, _, _, rfl, b, _, rfl, (hb.ext hx4 (by simp)).cells _ _ (by simp [evL]), fun H8 hp => ⟨rfl, ⟨{ e with mask := unhexM hS s }, ⟨da, dl, dc, a, _, c, hp.blk (hb.ext hx4 (by simp)) (by simp [evL]), ⟨(srow_ext hr.data hx4).ext hp.ext (apart h1), (ho.row _ _).ext hp.ext (apart hbn)⟩, h1, hbn, { he with mask := Nat.le_trans (unhexM_size _ _) hs }⟩, ⟨?_, rfl, rfl, fits_bytes hS_ok (g := fun e => e.mask) (fun _ => rfl) rfl⟩⟩, hx4.any.trans hp.ext⟩⟩
    intro g hg; cases g <;> first | rfl | exact absurd rfl hg
  | path =>
    refine ⟨b, 0, rfl, ⟨fun h0 => absurd h0 (by decide), fun _ => ⟨fun h0 => absurd h0 (by decide), fun _ => ⟨fun h0 => absurd h0 (by decide), fun _ => ⟨fun h0 => absurd h0 (by decide), fun _ => ⟨fun h0 => absurd h0 (by decide), fun _ => ⟨fun _ => ?_, fun hne => absurd rfl hne⟩⟩⟩⟩⟩⟩⟩
    refine (untext_ok s hs g).mono ?_
    rintro _ H4 ⟨rfl, hx4⟩
    refine ⟨_, rfl, b, _, rfl, (hb.ext hx4 (by simp)).cells _ _ (by simp [evL]), fun H8 hp => ⟨rfl, ⟨{ e with call := { e.call with path := untextM hS s } }, ⟨da, dl, dc, ma, ml, mc, hp.blk (hb.ext hx4 (by simp)) (by simp [evL]), ⟨(srow_ext hr.data hx4).ext hp.ext (apart h1), (srow_ext hr.mask hx4).ext hp.ext (apart h2)⟩, h1, h2, { he with path := Nat.le_trans (untextM_size _ _) hs }⟩, ⟨?_, rfl, rfl, fits_text hS_ok (g := fun e => e.call.path) (fun _ => rfl) rfl⟩⟩, hx4.any.trans hp.ext⟩⟩
    intro g hg; cases g <;> first | rfl | exact absurd rfl hg
  | cto =>
    refine ⟨b, 0, rfl, ⟨fun h0 => absurd h0 (by decide), fun _ => ⟨fun h0 => absurd h0 (by decide), fun _ => ⟨fun h0 => absurd h0 (by decide), fun _ => ⟨fun h0 => absurd h0 (by decide), fun _ => ⟨fun h0 => absurd h0 (by decide), fun _ => ⟨fun h0 => absurd h0 (by decide), fun _ => ⟨fun _ => ?_, fun hne => absurd rfl hne⟩⟩⟩⟩⟩⟩⟩⟩
    refine (untext_ok s hs g).mono ?_
    rintro _ H4 ⟨rfl, hx4⟩
    refine ⟨_, rfl, b, _, rfl, (hb.ext hx4 (by simp)).cells _ _ (by simp [evL]), fun H8 hp => ⟨rfl, ⟨{ e with call := { e.call with to := untextM hS s } }, ⟨da, dl, dc, ma, ml, mc, hp.blk (hb.ext hx4 (by simp)) (by simp [evL]), ⟨(srow_ext hr.data hx4).ext hp.ext (apart h1), (srow_ext hr.mask hx4).ext hp.ext (apart h2)⟩, h1, h2, { he with cto := Nat.le_trans (untextM_size _ _) hs }⟩, ⟨?_, rfl, rfl, fits_text hS_ok (g := fun e => e.call.to) (fun _ => rfl) rfl⟩⟩, hx4.any.trans hp.ext⟩⟩
    intro g hg; cases g <;> first | rfl | exact absurd rfl hg
  | mode =>
    refine ⟨b, 0, rfl, ⟨fun h0 => absurd h0 (by decide), fun _ => ⟨fun h0 => absurd h0 (by decide), fun _ => ⟨fun h0 => absurd h0 (by decide), fun _ => ⟨fun h0 => absurd h0 (by decide), fun _ => ⟨fun h0 => absurd h0 (by decide), fun _ => ⟨fun h0 => absurd h0 (by decide), fun _ => ⟨fun h0 => absurd h0 (by decide), fun _ => ⟨fun _ => ?_, fun hne => absurd rfl hne⟩⟩⟩⟩⟩⟩⟩⟩⟩
    refine (pnum_ok s hs g).mono ?_
    rintro _ H4 ⟨n, rfl, hn, hi, hx4⟩
    refine ⟨_, rfl, b, _, rfl, (hb.ext hx4 (by simp)).cells _ _ (by simp [evL]), fun H8 hp => ⟨rfl, ⟨{ e with call := { e.call with mode := n } }, ⟨da, dl, dc, ma, ml, mc, hp.blk (hb.ext hx4 (by simp)) (by simp [evL]), ⟨(srow_ext hr.data hx4).ext hp.ext (apart h1), (srow_ext hr.mask hx4).ext hp.ext (apart h2)⟩, h1, h2, { he with mode := hn }⟩, ⟨?_, rfl, rfl, fits_num (g := fun e => e.call.mode) (fun _ => rfl) hi⟩⟩, hx4.any.trans hp.ext⟩⟩
    intro g hg; cases g <;> first | rfl | exact absurd rfl hg
  | time =>
    refine ⟨b, 0, rfl, ⟨fun h0 => absurd h0 (by decide), fun _ => ⟨fun h0 => absurd h0 (by decide), fun _ => ⟨fun h0 => absurd h0 (by decide), fun _ => ⟨fun h0 => absurd h0 (by decide), fun _ => ⟨fun h0 => absurd h0 (by decide), fun _ => ⟨fun h0 => absurd h0 (by decide), fun _ => ⟨fun h0 => absurd h0 (by decide), fun _ => ⟨fun h0 => absurd h0 (by decide), fun _ => ⟨fun _ => ?_, fun hne => absurd rfl hne⟩⟩⟩⟩⟩⟩⟩⟩⟩⟩
    refine (ptime_ok s hs g).mono ?_
    rintro _ H4 ⟨x, t, rfl, hn, hi, hx4⟩
    refine ⟨_, _, rfl, b, _, rfl, (hb.ext hx4 (by simp)).cells _ _ (by simp [evL]), fun H8 hp => ⟨rfl, ⟨{ e with call := { e.call with time := x } }, ⟨da, dl, dc, ma, ml, mc, hp.blk (hb.ext hx4 (by simp)) (by simp [evL]), ⟨(srow_ext hr.data hx4).ext hp.ext (apart h1), (srow_ext hr.mask hx4).ext hp.ext (apart h2)⟩, h1, h2, { he with time := hn }⟩, ⟨?_, rfl, rfl, fits_time hi⟩⟩, hx4.any.trans hp.ext⟩⟩
    intro g hg; cases g <;> first | rfl | exact absurd rfl hg
  | pos =>
    refine ⟨b, 0, rfl, ⟨fun h0 => absurd h0 (by decide), fun _ => ⟨fun h0 => absurd h0 (by decide), fun _ => ⟨fun h0 => absurd h0 (by decide), fun _ => ⟨fun h0 => absurd h0 (by decide), fun _ => ⟨fun h0 => absurd h0 (by decide), fun _ => ⟨fun h0 => absurd h0 (by decide), fun _ => ⟨fun h0 => absurd h0 (by decide), fun _ => ⟨fun h0 => absurd h0 (by decide), fun _ => ⟨fun h0 => absurd h0 (by decide), fun _ => ⟨fun _ => ?_, fun hne => absurd rfl hne⟩⟩⟩⟩⟩⟩⟩⟩⟩⟩⟩
    refine (pnum_ok s hs g).mono ?_
    rintro _ H4 ⟨n, rfl, hn, hi, hx4⟩
    refine ⟨_, rfl, b, _, rfl, (hb.ext hx4 (by simp)).cells _ _ (by simp [evL]), fun H8 hp => ⟨rfl, ⟨{ e with call := { e.call with pos := n } }, ⟨da, dl, dc, ma, ml, mc, hp.blk (hb.ext hx4 (by simp)) (by simp [evL]), ⟨(srow_ext hr.data hx4).ext hp.ext (apart h1), (srow_ext hr.mask hx4).ext hp.ext (apart h2)⟩, h1, h2, { he with pos := hn }⟩, ⟨?_, rfl, rfl, fits_num (g := fun e => e.call.pos) (fun _ => rfl) hi⟩⟩, hx4.any.trans hp.ext⟩⟩
    intro g hg; cases g <;> first | rfl | exact absurd rfl hg
  | cn =>
    refine ⟨b, 0, rfl, ⟨fun h0 => absurd h0 (by decide), fun _ => ⟨fun h0 => absurd h0 (by decide), fun _ => ⟨fun h0 => absurd h0 (by decide), fun _ => ⟨fun h0 => absurd h0 (by decide), fun _ => ⟨fun h0 => absurd h0 (by decide), fun _ => ⟨fun h0 => absurd h0 (by decide), fun _ => ⟨fun h0 => absurd h0 (by decide), fun _ => ⟨fun h0 => absurd h0 (by decide), fun _ => ⟨fun h0 => absurd h0 (by decide), fun _ => ⟨fun h0 => absurd h0 (by decide), fun _ => ⟨fun _ => ?_, fun hne => absurd rfl hne⟩⟩⟩⟩⟩⟩⟩⟩⟩⟩⟩⟩
    refine (pnum_ok s hs g).mono ?_
    rintro _ H4 ⟨n, rfl, hn, hi, hx4⟩
    refine ⟨_, rfl, b, _, rfl, (hb.ext hx4 (by simp)).cells _ _ (by simp [evL]), fun H8 hp => ⟨rfl, ⟨{ e with call := { e.call with n := n } }, ⟨da, dl, dc, ma, ml, mc, hp.blk (hb.ext hx4 (by simp)) (by simp [evL]), ⟨(srow_ext hr.data hx4).ext hp.ext (apart h1), (srow_ext hr.mask hx4).ext hp.ext (apart h2)⟩, h1, h2, { he with cn := hn }⟩, ⟨?_, rfl, rfl, fits_num (g := fun e => e.call.n) (fun _ => rfl) hi⟩⟩, hx4.any.trans hp.ext⟩⟩
    intro g hg; cases g <;> first | rfl | exact absurd rfl hg
  | data =>
    refine ⟨b, 0, rfl, ⟨fun h0 => absurd h0 (by decide), fun _ => ⟨fun h0 => absurd h0 (by decide), fun _ => ⟨fun h0 => absurd h0 (by decide), fun _ => ⟨fun h0 => absurd h0 (by decide), fun _ => ⟨fun h0 => absurd h0 (by decide), fun _ => ⟨fun h0 => absurd h0 (by decide), fun _ => ⟨fun h0 => absurd h0 (by decide), fun _ => ⟨fun h0 => absurd h0 (by decide), fun _ => ⟨fun h0 => absurd h0 (by decide), fun _ => ⟨fun h0 => absurd h0 (by decide), fun _ => ⟨fun h0 => absurd h0 (by decide), fun _ => ⟨fun _ => ?_, fun hne => absurd rfl hne⟩⟩⟩⟩⟩⟩⟩⟩⟩⟩⟩⟩⟩
    refine (unhex_ok s hs g).mono ?_
    rintro _ H4 ⟨a, n, c, rfl, ho, hnew, hx4⟩
    have hbn : b ∉ blkOf a := fun hm => by have := hnew b hm; omega
    refine ⟨_, _, _, rfl, b, _, rfl, (hb.ext hx4 (by simp)).cells _ _ (by simp [evL]), fun H8 hp => ⟨rfl, ⟨{ e with call := { e.call with data := unhexM hS s } }, ⟨a, _, c, ma, ml, mc, hp.blk (hb.ext hx4 (by simp)) (by simp [evL]), ⟨(ho.row _ _).ext hp.ext (apart hbn), (srow_ext hr.mask hx4).ext hp.ext (apart h2)⟩, hbn, h2, { he with data := Nat.le_trans (unhexM_size _ _) hs }⟩, ⟨?_, rfl, rfl, fits_bytes hS_ok (g := fun e => e.call.data) (fun _ => rfl) rfl⟩⟩, hx4.any.trans hp.ext⟩⟩
    intro g hg; cases g <;> first | rfl | exact absurd rfl hg

end Go.Proofs
end

section
open Go Go.Vc
namespace Go.Proofs
set_option maxRecDepth 100000
/-- pentimento/pentimentoref21.eventWord -/
theorem REvV (x0 : Int) (H : Heap) (R : Value → Heap → Prop) : Walk Tryz.prog 16 [] [(.int .i64 x0)] H R = (
 ((((x0 : Int) < 1) → (
 R (.string (ByteArray.mk #[])) H)) ∧ (¬ ((x0 : Int) < 1) → (
 ((((11 : Int) < x0) → (
 R (.string (ByteArray.mk #[])) H)) ∧ (¬ ((11 : Int) < x0) → (
 (0 : Int) ≤ x0 ∧ (x0 : Int) < (12 : Nat) ∧ (x0 : Int) < (12 : Nat) ∧ ∀ s1 : ByteArray, s1 = (List.getD [(ByteArray.mk #[]), (ByteArray.mk #[99, 97, 108, 108]), (ByteArray.mk #[102, 114, 101, 101, 122, 101]), (ByteArray.mk #[102, 111, 114, 107]), (ByteArray.mk #[100, 105, 102, 102]), (ByteArray.mk #[97, 112, 112, 108, 121]), (ByteArray.mk #[109, 101, 114, 103, 101]), (ByteArray.mk #[114, 101, 98, 97, 115, 101]), (ByteArray.mk #[100, 114, 111, 112]), (ByteArray.mk #[115, 121, 110, 99]), (ByteArray.mk #[102, 117, 115, 101]), (ByteArray.mk #[99, 114, 97, 115, 104])] (Int.toNat x0) ByteArray.empty) → (
 R (.string s1) H)))))))) := by kernel_rfl


/-- pentimento/pentimentoref21.kindWord -/
theorem RKindV (x0 : Int) (H : Heap) (R : Value → Heap → Prop) : Walk Tryz.prog 44 [] [(.int .i64 x0)] H R = (
 ((((x0 : Int) < 1) → (
 R (.string (ByteArray.mk #[])) H)) ∧ (¬ ((x0 : Int) < 1) → (
 ((((15 : Int) < x0) → (
 R (.string (ByteArray.mk #[])) H)) ∧ (¬ ((15 : Int) < x0) → (
 (0 : Int) ≤ x0 ∧ (x0 : Int) < (16 : Nat) ∧ (x0 : Int) < (16 : Nat) ∧ ∀ s1 : ByteArray, s1 = (List.getD [(ByteArray.mk #[]), (ByteArray.mk #[109, 107, 100, 105, 114]), (ByteArray.mk #[99, 114, 101, 97, 116, 101]), (ByteArray.mk #[119, 114, 105, 116, 101]), (ByteArray.mk #[116, 114, 117, 110, 99, 97, 116, 101]), (ByteArray.mk #[117, 110, 108, 105, 110, 107]), (ByteArray.mk #[114, 109, 100, 105, 114]), (ByteArray.mk #[115, 121, 109, 108, 105, 110, 107]), (ByteArray.mk #[114, 101, 97, 100, 108, 105, 110, 107]), (ByteArray.mk #[114, 101, 110, 97, 109, 101]), (ByteArray.mk #[99, 104, 109, 111, 100]), (ByteArray.mk #[117, 116, 105, 109, 101]), (ByteArray.mk #[115, 116, 97, 116]), (ByteArray.mk #[108, 115, 116, 97, 116]), (ByteArray.mk #[114, 101, 97, 100]), (ByteArray.mk #[108, 105, 115, 116])] (Int.toNat x0) ByteArray.empty) → (
 R (.string s1) H)))))))) := by kernel_rfl


/-- (*pentimento/pentimentoref21.line).word -/
theorem RWordV (x0 : Option Addr) (x1 : ByteArray) (H : Heap) (R : Value → Heap → Prop) : Walk Tryz.prog 17 [] [(.pointer x0), (.string x1)] H R = (
 ∃ b1 o2 : Nat, x0 = some (⟨b1, o2, none⟩ : Addr) ∧ (
 ∃ s3 : ByteArray, hcell H b1 o2 = some (.string s3) ∧ (
 ((((s3 : ByteArray) ≠ (ByteArray.mk #[])) → (
 ∃ b4 o5 : Nat, x0 = some (⟨b4, o5, none⟩ : Addr) ∧ (
 ∃ s6 : ByteArray, hcell H b4 o5 = some (.string s6) ∧ (
 (In64 (((ByteArray.size s6) + (ByteArray.size (ByteArray.mk #[32])) : Nat) : Int)) ∧
 ∃ b7 o8 : Nat, x0 = some (⟨b7, o8, none⟩ : Addr) ∧ (
 Cells H b7 o8 1 ∧ ∀ H9 : Heap, Puts H b7 o8 [(.string (s6 ++ (ByteArray.mk #[32])))] H9 → (
 ∃ b10 o11 : Nat, x0 = some (⟨b10, o11, none⟩ : Addr) ∧ (
 ∃ s12 : ByteArray, hcell H9 b10 o11 = some (.string s12) ∧ (
 (In64 (((ByteArray.size s12) + (ByteArray.size x1) : Nat) : Int)) ∧
 ∃ b13 o14 : Nat, x0 = some (⟨b13, o14, none⟩ : Addr) ∧ (
 Cells H9 b13 o14 1 ∧ ∀ H15 : Heap, Puts H9 b13 o14 [(.string (s12 ++ x1))] H15 → (
 R (.tuple #[]) H15)))))))))) ∧ (¬ ((s3 : ByteArray) ≠ (ByteArray.mk #[])) → (
 ∃ b16 o17 : Nat, x0 = some (⟨b16, o17, none⟩ : Addr) ∧ (
 ∃ s18 : ByteArray, hcell H b16 o17 = some (.string s18) ∧ (
 (In64 (((ByteArray.size s18) + (ByteArray.size x1) : Nat) : Int)) ∧
 ∃ b19 o20 : Nat, x0 = some (⟨b19, o20, none⟩ : Addr) ∧ (
 Cells H b19 o20 1 ∧ ∀ H21 : Heap, Puts H b19 o20 [(.string (s18 ++ x1))] H21 → (
 R (.tuple #[]) H21)))))))))) := by kernel_rfl


/-- (*pentimento/pentimentoref21.line).num -/
theorem RNumV (x0 : Option Addr) (x1 : Int) (H : Heap) (R : Value → Heap → Prop) : Walk Tryz.prog 20 [] [(.pointer x0), (.int .i64 x1)] H R = (
 ((((x1 : Int) < 0) → (
 ∃ b1 o2 : Nat, x0 = some (⟨b1, o2, none⟩ : Addr) ∧ (
 Cells H b1 (o2 + 1) 1 ∧ ∀ H3 : Heap, Puts H b1 (o2 + 1) [(.bool true)] H3 → (
 R (.tuple #[]) H3)))) ∧ (¬ ((x1 : Int) < 0) → (
 ((((999999 : Int) < x1) → (
 ∃ b4 o5 : Nat, x0 = some (⟨b4, o5, none⟩ : Addr) ∧ (
 Cells H b4 (o5 + 1) 1 ∧ ∀ H6 : Heap, Puts H b4 (o5 + 1) [(.bool true)] H6 → (
 R (.tuple #[]) H6)))) ∧ (¬ ((999999 : Int) < x1) → (
 Does Tryz.prog 45 [(.int .i64 x1)] H fun v7 H8 => ∃ s9 : ByteArray, v7 = (.string s9) ∧ (
 Does Tryz.prog 17 [(.pointer x0), (.string s9)] H8 fun v10 H11 => v10 = (.tuple #[]) ∧ (
 R (.tuple #[]) H11))))))))) := by kernel_rfl


/-- (*pentimento/pentimentoref21.line).text -/
theorem RTextLV (x0 : Option Addr) (x1 : ByteArray) (H : Heap) (R : Value → Heap → Prop) : Walk Tryz.prog 18 [] [(.pointer x0), (.string x1)] H R = (
 ∃ b1 o2 : Nat, x0 = some (⟨b1, o2, none⟩ : Addr) ∧ (
 ∃ t3 : Bool, hcell H b1 (o2 + 1) = some (.bool t3) ∧ (
 ((t3 = true → (
 ∃ b4 o5 : Nat, x0 = some (⟨b4, o5, none⟩ : Addr) ∧ (
 Cells H b4 (o5 + 1) 1 ∧ ∀ H6 : Heap, Puts H b4 (o5 + 1) [(.bool true)] H6 → (
 Does Tryz.prog 42 [(.string x1)] H6 fun v7 H8 => ∃ s9 : ByteArray, v7 = (.string s9) ∧ (
 Does Tryz.prog 17 [(.pointer x0), (.string s9)] H8 fun v10 H11 => v10 = (.tuple #[]) ∧ (
 R (.tuple #[]) H11)))))) ∧ (t3 = false → (
 ∃ b12 o13 : Nat, x0 = some (⟨b12, o13, none⟩ : Addr) ∧ (
 Cells H b12 (o13 + 1) 1 ∧ ∀ H14 : Heap, Puts H b12 (o13 + 1) [(.bool (@decide ((200 : Int) < (ByteArray.size x1 : Int)) (Classical.propDecidable _)))] H14 → (
 Does Tryz.prog 42 [(.string x1)] H14 fun v15 H16 => ∃ s17 : ByteArray, v15 = (.string s17) ∧ (
 Does Tryz.prog 17 [(.pointer x0), (.string s17)] H16 fun v18 H19 => v18 = (.tuple #[]) ∧ (
 R (.tuple #[]) H19)))))))))) := by kernel_rfl


/-- (*pentimento/pentimentoref21.line).bytes -/
theorem RBytesLV (x0 : Option Addr) (x1 : Option Addr) (x1l : Nat) (x1c : Nat) (H : Heap) (R : Value → Heap → Prop) : Walk Tryz.prog 21 [] [(.pointer x0), (.slice x1 x1l x1c)] H R = (
 ∃ b1 o2 : Nat, x0 = some (⟨b1, o2, none⟩ : Addr) ∧ (
 ∃ t3 : Bool, hcell H b1 (o2 + 1) = some (.bool t3) ∧ (
 ((t3 = true → (
 ∃ b4 o5 : Nat, x0 = some (⟨b4, o5, none⟩ : Addr) ∧ (
 Cells H b4 (o5 + 1) 1 ∧ ∀ H6 : Heap, Puts H b4 (o5 + 1) [(.bool true)] H6 → (
 ∃ b7 o8 : Nat, x0 = some (⟨b7, o8, none⟩ : Addr) ∧ (
 ∃ t9 : Bool, hcell H6 b7 (o8 + 1) = some (.bool t9) ∧ (
 (((t9 = false) → (
 Does Tryz.prog 43 [(.slice x1 x1l x1c)] H6 fun v10 H11 => ∃ s12 : ByteArray, v10 = (.string s12) ∧ (
 Does Tryz.prog 17 [(.pointer x0), (.string s12)] H11 fun v13 H14 => v13 = (.tuple #[]) ∧ (
 R (.tuple #[]) H14)))) ∧ (¬ (t9 = false) → (
 R (.tuple #[]) H6))))))))) ∧ (t3 = false → (
 ∃ b15 o16 : Nat, x0 = some (⟨b15, o16, none⟩ : Addr) ∧ (
 Cells H b15 (o16 + 1) 1 ∧ ∀ H17 : Heap, Puts H b15 (o16 + 1) [(.bool (@decide ((3000 : Int) < (x1l : Int)) (Classical.propDecidable _)))] H17 → (
 ∃ b18 o19 : Nat, x0 = some (⟨b18, o19, none⟩ : Addr) ∧ (
 ∃ t20 : Bool, hcell H17 b18 (o19 + 1) = some (.bool t20) ∧ (
 (((t20 = false) → (
 Does Tryz.prog 43 [(.slice x1 x1l x1c)] H17 fun v21 H22 => ∃ s23 : ByteArray, v21 = (.string s23) ∧ (
 Does Tryz.prog 17 [(.pointer x0), (.string s23)] H22 fun v24 H25 => v24 = (.tuple #[]) ∧ (
 R (.tuple #[]) H25)))) ∧ (¬ (t20 = false) → (
 R (.tuple #[]) H17))))))))))))) := by kernel_rfl


/-- pentimento/pentimentoref21.digits -/
theorem RDigV (x0 : Int) (H : Heap) (R : Value → Heap → Prop) : Walk Tryz.prog 45 [] [(.int .i64 x0)] H R = (
 ((((x0 : Int) < 10) → (
 (In64 (48 + x0)) ∧
 ∀ q1 : Int, q1 = IntKind.wrap .u8 (48 + x0) → (
 ∀ b2 : Nat, ∀ H3 : Heap, New H b2 [(.int .u8 q1)] 5 H3 → (
 ∃ l4 : List UInt8, SRow H3 1 1 (.slice (some (⟨b2, 0, none⟩ : Addr)) 1 1) (List.map (fun (b : UInt8) => Value.int .u8 b.toNat) l4) ∧ (
 R (.string (ByteArray.mk (List.toArray l4))) H3))))) ∧ (¬ ((x0 : Int) < 10) → (
 ((10 : Int) ≠ 0) ∧
 ∀ q5 : Int, q5 = IntKind.wrap .i64 (Int.tdiv x0 10) → (
 ((10 : Int) ≠ 0) ∧
 ∀ q6 : Int, q6 = Int.tmod x0 10 → (
 (In64 (48 + q6)) ∧
 ∀ q7 : Int, q7 = IntKind.wrap .u8 (48 + q6) → (
 (Does Tryz.prog 45 [(.int .i64 q5)] H fun v8 H9 => ∃ s10 : ByteArray, v8 = (.string s10) ∧ (
 (∀ b11 : Nat, ∀ H12 : Heap, New H9 b11 [(.int .u8 q7)] 5 H12 → (
 (∃ l13 : List UInt8, SRow H12 1 1 (.slice (some (⟨b11, 0, none⟩ : Addr)) 1 1) (List.map (fun (b : UInt8) => Value.int .u8 b.toNat) l13) ∧ (
 (In64 (((ByteArray.size s10) + (ByteArray.size (ByteArray.mk (List.toArray l13))) : Nat) : Int)) ∧
 R (.string (s10 ++ (ByteArray.mk (List.toArray l13)))) H12)))))) ∧ (∀ b14 : Nat, ∀ H15 : Heap, New H b14 [(.int .u8 q7)] 5 H15 → (
 (∃ l16 : List UInt8, SRow H15 1 1 (.slice (some (⟨b14, 0, none⟩ : Addr)) 1 1) (List.map (fun (b : UInt8) => Value.int .u8 b.toNat) l16) ∧ (
 Does Tryz.prog 45 [(.int .i64 q5)] H15 fun v17 H18 => ∃ s19 : ByteArray, v17 = (.string s19) ∧ (
 SRow H18 1 1 (.slice (some (⟨b14, 0, none⟩ : Addr)) 1 1) (List.map (fun (b : UInt8) => Value.int .u8 b.toNat) l16) ∧ ((In64 (((ByteArray.size s19) + (ByteArray.size (ByteArray.mk (List.toArray l16))) : Nat) : Int)) ∧
 R (.string (s19 ++ (ByteArray.mk (List.toArray l16)))) H18))))))))))))) := by kernel_rfl


/-- pentimento/pentimentoref21.hex -/
theorem RHexV (x0 : Option Addr) (x0l : Nat) (x0c : Nat) (H : Heap) (R : Value → Heap → Prop) : Walk Tryz.prog 43 [] [(.slice x0 x0l x0c)] H R = (
 ∃ I1 : ByteArray → Int → Heap → Prop, ∃ μ2 : ByteArray → Int → Heap → Nat, (I1 (ByteArray.mk #[37]) 0 H) ∧
 ∀ s3 : ByteArray, ∀ n4 : Int, ∀ H5 : Heap, I1 s3 n4 H5 → (
 ((((n4 : Int) < (x0l : Int)) → (
 (0 : Int) ≤ n4 ∧ (n4 : Int) < (x0l : Int) ∧ ∃ b6 o7 : Nat, x0 = some (⟨b6, o7, none⟩ : Addr) ∧ (
 ∃ n8 : Int, hcell H5 b6 (o7 + (Int.toNat n4)) = some (.int .u8 n8) ∧ (
 ((16 : Int) ≠ 0) ∧
 ∀ q9 : Int, q9 = IntKind.wrap .u8 (Int.tdiv n8 16) → (
 (0 : Int) ≤ n4 ∧ (n4 : Int) < (x0l : Int) ∧ ∃ b10 o11 : Nat, x0 = some (⟨b10, o11, none⟩ : Addr) ∧ (
 ∃ n12 : Int, hcell H5 b10 (o11 + (Int.toNat n4)) = some (.int .u8 n12) ∧ (
 ((16 : Int) ≠ 0) ∧
 ∀ q13 : Int, q13 = IntKind.wrap .u8 (Int.tdiv n12 16) → (
 ∀ q14 : Int, q14 = IntKind.wrap .u8 (q13 + 1) → (
 (0 : Int) ≤ q9 ∧ (q9 : Int) ≤ q14 ∧ (q14 : Int) ≤ ((ByteArray.size (ByteArray.mk #[48, 49, 50, 51, 52, 53, 54, 55, 56, 57, 97, 98, 99, 100, 101, 102])) : Int) ∧ (
 (In64 (((ByteArray.size s3) + (ByteArray.size (ByteArray.extract (ByteArray.mk #[48, 49, 50, 51, 52, 53, 54, 55, 56, 57, 97, 98, 99, 100, 101, 102]) (Int.toNat q9) (Int.toNat q14))) : Nat) : Int)) ∧
 (0 : Int) ≤ n4 ∧ (n4 : Int) < (x0l : Int) ∧ ∃ b15 o16 : Nat, x0 = some (⟨b15, o16, none⟩ : Addr) ∧ (
 ∃ n17 : Int, hcell H5 b15 (o16 + (Int.toNat n4)) = some (.int .u8 n17) ∧ (
 ((16 : Int) ≠ 0) ∧
 ∀ q18 : Int, q18 = Int.tmod n17 16 → (
 (0 : Int) ≤ n4 ∧ (n4 : Int) < (x0l : Int) ∧ ∃ b19 o20 : Nat, x0 = some (⟨b19, o20, none⟩ : Addr) ∧ (
 ∃ n21 : Int, hcell H5 b19 (o20 + (Int.toNat n4)) = some (.int .u8 n21) ∧ (
 ((16 : Int) ≠ 0) ∧
 ∀ q22 : Int, q22 = Int.tmod n21 16 → (
 ∀ q23 : Int, q23 = IntKind.wrap .u8 (q22 + 1) → (
 (0 : Int) ≤ q18 ∧ (q18 : Int) ≤ q23 ∧ (q23 : Int) ≤ ((ByteArray.size (ByteArray.mk #[48, 49, 50, 51, 52, 53, 54, 55, 56, 57, 97, 98, 99, 100, 101, 102])) : Int) ∧ (
 (In64 (((ByteArray.size (s3 ++ (ByteArray.extract (ByteArray.mk #[48, 49, 50, 51, 52, 53, 54, 55, 56, 57, 97, 98, 99, 100, 101, 102]) (Int.toNat q9) (Int.toNat q14)))) + (ByteArray.size (ByteArray.extract (ByteArray.mk #[48, 49, 50, 51, 52, 53, 54, 55, 56, 57, 97, 98, 99, 100, 101, 102]) (Int.toNat q18) (Int.toNat q23))) : Nat) : Int)) ∧
 (In64 (n4 + 1)) ∧
 (I1 ((s3 ++ (ByteArray.extract (ByteArray.mk #[48, 49, 50, 51, 52, 53, 54, 55, 56, 57, 97, 98, 99, 100, 101, 102]) (Int.toNat q9) (Int.toNat q14))) ++ (ByteArray.extract (ByteArray.mk #[48, 49, 50, 51, 52, 53, 54, 55, 56, 57, 97, 98, 99, 100, 101, 102]) (Int.toNat q18) (Int.toNat q23))) (n4 + 1) H5) ∧ μ2 ((s3 ++ (ByteArray.extract (ByteArray.mk #[48, 49, 50, 51, 52, 53, 54, 55, 56, 57, 97, 98, 99, 100, 101, 102]) (Int.toNat q9) (Int.toNat q14))) ++ (ByteArray.extract (ByteArray.mk #[48, 49, 50, 51, 52, 53, 54, 55, 56, 57, 97, 98, 99, 100, 101, 102]) (Int.toNat q18) (Int.toNat q23))) (n4 + 1) H5 < μ2 s3 n4 H5)))))))))))))))))) ∧ (¬ ((n4 : Int) < (x0l : Int)) → (
 R (.string s3) H5))))) := by kernel_rfl


/-- pentimento/pentimentoref21.Said -/
theorem RSaidV (x0 : ByteArray) (H : Heap) (R : Value → Heap → Prop) : Walk Tryz.prog 42 [(2, [(3, (.bool false))])] [(.string x0)] H R = (
 ∃ I1 : Bool → Heap → Prop, (
 ((((1 : Int) ≤ (ByteArray.size x0 : Int)) → (
 I1 (@decide (((ByteArray.size x0 : Int) : Int) ≤ 120) (Classical.propDecidable _)) H)) ∧ (¬ ((1 : Int) ≤ (ByteArray.size x0 : Int)) → (
 I1 false H)))) ∧
 ∀ t2 : Bool, ∀ H3 : Heap, I1 t2 H3 → (
 ∃ I4 : Bool → Int → Heap → Prop, ∃ μ5 : Bool → Int → Heap → Nat, (I4 t2 0 H3) ∧
 ∀ t6 : Bool, ∀ n7 : Int, ∀ H8 : Heap, I4 t6 n7 H8 → (
 ((((n7 : Int) < (ByteArray.size x0 : Int)) → (
 (0 : Int) ≤ n7 ∧ (n7 : Int) < (ByteArray.size x0 : Int) ∧ ∀ q9 : Int, q9 = (((ByteArray.data x0).toList.getD (Int.toNat n7) 0).toNat : Int) → (
 ((t6 = true → (
 ((((97 : Int) ≤ q9) → (
 ((((q9 : Int) ≤ 122) → (
 (In64 (n7 + 1)) ∧
 (I4 true (n7 + 1) H8) ∧ μ5 true (n7 + 1) H8 < μ5 t6 n7 H8)) ∧ (¬ ((q9 : Int) ≤ 122) → (
 ((((48 : Int) ≤ q9) → (
 ((((q9 : Int) ≤ 57) → (
 (In64 (n7 + 1)) ∧
 (I4 true (n7 + 1) H8) ∧ μ5 true (n7 + 1) H8 < μ5 t6 n7 H8)) ∧ (¬ ((q9 : Int) ≤ 57) → (
 ((((q9 : Int) = 47) → (
 (In64 (n7 + 1)) ∧
 (I4 true (n7 + 1) H8) ∧ μ5 true (n7 + 1) H8 < μ5 t6 n7 H8)) ∧ (¬ ((q9 : Int) = 47) → (
 ((((q9 : Int) = 46) → (
 (In64 (n7 + 1)) ∧
 (I4 true (n7 + 1) H8) ∧ μ5 true (n7 + 1) H8 < μ5 t6 n7 H8)) ∧ (¬ ((q9 : Int) = 46) → (
 ((((q9 : Int) = 45) → (
 (In64 (n7 + 1)) ∧
 (I4 true (n7 + 1) H8) ∧ μ5 true (n7 + 1) H8 < μ5 t6 n7 H8)) ∧ (¬ ((q9 : Int) = 45) → (
 (In64 (n7 + 1)) ∧
 (I4 (@decide ((q9 : Int) = 95) (Classical.propDecidable _)) (n7 + 1) H8) ∧ μ5 (@decide ((q9 : Int) = 95) (Classical.propDecidable _)) (n7 + 1) H8 < μ5 t6 n7 H8)))))))))))))) ∧ (¬ ((48 : Int) ≤ q9) → (
 ((((q9 : Int) = 47) → (
 (In64 (n7 + 1)) ∧
 (I4 true (n7 + 1) H8) ∧ μ5 true (n7 + 1) H8 < μ5 t6 n7 H8)) ∧ (¬ ((q9 : Int) = 47) → (
 ((((q9 : Int) = 46) → (
 (In64 (n7 + 1)) ∧
 (I4 true (n7 + 1) H8) ∧ μ5 true (n7 + 1) H8 < μ5 t6 n7 H8)) ∧ (¬ ((q9 : Int) = 46) → (
 ((((q9 : Int) = 45) → (
 (In64 (n7 + 1)) ∧
 (I4 true (n7 + 1) H8) ∧ μ5 true (n7 + 1) H8 < μ5 t6 n7 H8)) ∧ (¬ ((q9 : Int) = 45) → (
 (In64 (n7 + 1)) ∧
 (I4 (@decide ((q9 : Int) = 95) (Classical.propDecidable _)) (n7 + 1) H8) ∧ μ5 (@decide ((q9 : Int) = 95) (Classical.propDecidable _)) (n7 + 1) H8 < μ5 t6 n7 H8))))))))))))))))) ∧ (¬ ((97 : Int) ≤ q9) → (
 ((((48 : Int) ≤ q9) → (
 ((((q9 : Int) ≤ 57) → (
 (In64 (n7 + 1)) ∧
 (I4 true (n7 + 1) H8) ∧ μ5 true (n7 + 1) H8 < μ5 t6 n7 H8)) ∧ (¬ ((q9 : Int) ≤ 57) → (
 ((((q9 : Int) = 47) → (
 (In64 (n7 + 1)) ∧
 (I4 true (n7 + 1) H8) ∧ μ5 true (n7 + 1) H8 < μ5 t6 n7 H8)) ∧ (¬ ((q9 : Int) = 47) → (
 ((((q9 : Int) = 46) → (
 (In64 (n7 + 1)) ∧
 (I4 true (n7 + 1) H8) ∧ μ5 true (n7 + 1) H8 < μ5 t6 n7 H8)) ∧ (¬ ((q9 : Int) = 46) → (
 ((((q9 : Int) = 45) → (
 (In64 (n7 + 1)) ∧
 (I4 true (n7 + 1) H8) ∧ μ5 true (n7 + 1) H8 < μ5 t6 n7 H8)) ∧ (¬ ((q9 : Int) = 45) → (
 (In64 (n7 + 1)) ∧
 (I4 (@decide ((q9 : Int) = 95) (Classical.propDecidable _)) (n7 + 1) H8) ∧ μ5 (@decide ((q9 : Int) = 95) (Classical.propDecidable _)) (n7 + 1) H8 < μ5 t6 n7 H8)))))))))))))) ∧ (¬ ((48 : Int) ≤ q9) → (
 ((((q9 : Int) = 47) → (
 (In64 (n7 + 1)) ∧
 (I4 true (n7 + 1) H8) ∧ μ5 true (n7 + 1) H8 < μ5 t6 n7 H8)) ∧ (¬ ((q9 : Int) = 47) → (
 ((((q9 : Int) = 46) → (
 (In64 (n7 + 1)) ∧
 (I4 true (n7 + 1) H8) ∧ μ5 true (n7 + 1) H8 < μ5 t6 n7 H8)) ∧ (¬ ((q9 : Int) = 46) → (
 ((((q9 : Int) = 45) → (
 (In64 (n7 + 1)) ∧
 (I4 true (n7 + 1) H8) ∧ μ5 true (n7 + 1) H8 < μ5 t6 n7 H8)) ∧ (¬ ((q9 : Int) = 45) → (
 (In64 (n7 + 1)) ∧
 (I4 (@decide ((q9 : Int) = 95) (Classical.propDecidable _)) (n7 + 1) H8) ∧ μ5 (@decide ((q9 : Int) = 95) (Classical.propDecidable _)) (n7 + 1) H8 < μ5 t6 n7 H8))))))))))))))))) ∧ (t6 = false → (
 (In64 (n7 + 1)) ∧
 (I4 false (n7 + 1) H8) ∧ μ5 false (n7 + 1) H8 < μ5 t6 n7 H8)))))) ∧ (¬ ((n7 : Int) < (ByteArray.size x0 : Int)) → (
 ((t6 = true → (
 R (.string x0) H8)) ∧ (t6 = false → (
 ∀ c10 b11 : Nat, ∀ H12 : Heap, NewB H8 b11 x0 c10 5 H12 → (
 Does Tryz.prog 43 [(.slice (some (⟨b11, 0, none⟩ : Addr)) (ByteArray.size x0) c10)] H12 fun v13 H14 => ∃ s15 : ByteArray, v13 = (.string s15) ∧ (
 R (.string s15) H14))))))))))) := by kernel_rfl


end Go.Proofs
end

section
open Go Go.Vc
namespace Go.Proofs

theorem formK_len (k : Int) : (formK k).2.length ≤ 1000 ∧ (formK k).1.size ≤ 1000 := formK_all (p := fun x => x.2.length ≤ 1000 ∧ x.1.size ≤ 1000) (by decide) (by decide) k
theorem formC_len (k : Int) : (formC k).2.length ≤ 1000 ∧ (formC k).1.size ≤ 1000 := formC_all (p := fun x => x.2.length ≤ 1000 ∧ x.1.size ≤ 1000) (by decide) (by decide) k

/-! ### How long a line is -/
theorem joinL_len : ∀ (l : List (List UInt8)), (joinL l).length ≤ (l.map fun w => w.length + 1).sum
  | [] => by simp [joinL]
  | [w] => by simp [joinL]
  | w :: v :: r => by
    have ih := joinL_len (v :: r)
    simp only [joinL, List.length_append, List.length_cons, List.map_cons, List.sum_cons] at ih ⊢
    omega
theorem sum_le (m : Nat) : ∀ (l : List Nat), (∀ x ∈ l, x ≤ m) → l.sum ≤ l.length * m
  | [], _ => by simp
  | a :: l, h => by
    have h1 := h a (by simp)
    have h2 := sum_le m l (fun x hx => h x (by simp [hx]))
    simp only [List.sum_cons, List.length_cons]
    rw [Nat.add_mul]
    omega
theorem joinW_len {l : List ByteArray} {m : Nat} (h : ∀ w ∈ l, w.size ≤ m) : (joinW l).size ≤ l.length * (m + 1) := by
  have e : (joinW l).size = (joinL (l.map fun w => w.data.toList)).length := by show (List.toArray _).size = _; simp
  rw [e]
  refine Nat.le_trans (joinL_len _) ?_
  have := sum_le (m + 1) ((l.map fun w => w.data.toList).map fun w => w.length + 1) (fun x hx => by
    rw [List.map_map, List.mem_map] at hx
    obtain ⟨w, hw, rfl⟩ := hx
    have := h w hw
    have hl : w.data.toList.length = w.size := Array.length_toList
    show w.data.toList.length + 1 ≤ m + 1
    omega)
  simpa using this

theorem intS_size {n : Int} (hn : In64 n) : (intS n).size ≤ 20 ∧ (intS n).size ≠ 0 := by
  have h1 : (decL n.natAbs).length ≤ 19 := decL_len 19 _ (by obtain ⟨a, b⟩ := hn; omega) (by decide)
  have h2 := decL_pos n.natAbs
  unfold intS
  split
  · have : (ByteArray.mk (45 :: decL n.natAbs).toArray).size = (decL n.natAbs).length + 1 := by show (List.toArray _).size = _; simp
    omega
  · have : (ByteArray.mk (decL n.natAbs).toArray).size = (decL n.natAbs).length := by show (List.toArray _).size = _; simp
    omega
theorem hexB_size (l : List UInt8) : (hexB l).size = 2 * l.length + 1 := by
  show (List.toArray (hexOf l)).size = _
  simp only [List.size_toArray, hexOf, List.length_cons, List.length_flatMap]
  have : ∀ l : List UInt8, (l.map fun c => (hex2 c).length).sum = 2 * l.length := by
    intro l; induction l with
    | nil => rfl
    | cons c l ih =>
      rw [List.map_cons, List.sum_cons, ih]
      simp [hex2]; omega
  rw [this]
theorem textW_size {s : ByteArray} : (textW s).size ≤ 2 * s.size + 1 ∧ (textW s).size ≠ 0 := by
  have hl : s.data.toList.length = s.size := Array.length_toList
  unfold textW
  split
  · rename_i hp
    simp only [plainT, Bool.and_eq_true, bne_iff_ne] at hp
    exact ⟨by omega, hp.1.1⟩
  · rw [hexB_size]; omega
theorem fldW_size {e : Ev} (he : EvOk e) (f : Fld) : (fldW e f).1.size ≤ 2000000001 ∧ (fldW e f).1.size ≠ 0 := by
  have hi := fun n h => @intS_size n h
  have ht := fun s => @textW_size s
  obtain ⟨a1, a2, a3, a4, a5, a6, a7, a8, a9, a10, a11, a12, a13, a14⟩ := he
  cases f with
  | name => have := ht e.name; simp only [fldW, textF]; omega
  | to => have := ht e.to; simp only [fldW, textF]; omega
  | more => have := ht e.more; simp only [fldW, textF]; omega
  | path => have := ht e.call.path; simp only [fldW, textF]; omega
  | cto => have := ht e.call.to; simp only [fldW, textF]; omega
  | n => have := hi e.n a9; simp only [fldW, numF]; omega
  | mode => have := hi e.call.mode a11; simp only [fldW, numF]; omega
  | pos => have := hi e.call.pos a12; simp only [fldW, numF]; omega
  | cn => have := hi e.call.n a13; simp only [fldW, numF]; omega
  | mask => simp only [fldW, bytesF, hexB_size]; omega
  | data => simp only [fldW, bytesF, hexB_size]; omega
  | time => simp only [fldW, timeF, hexS_size]; omega
theorem lineF_size {e : Ev} (he : EvOk e) : (lineF e).length ≤ 2002 ∧ ∀ w ∈ (lineF e).map (·.1), w.size ≤ 2000000001 := by
  have h1 := formK_len e.kind
  have h2 := formC_len e.call.kind
  have key : ∀ (x : ByteArray × List Fld), x.1.size ≤ 1000 → ∀ w ∈ formF e x, w.1.size ≤ 2000000001 := by
    intro x hx w hw
    unfold formF at hw
    rcases List.mem_cons.1 hw with rfl | hw
    · show x.1.size ≤ _; omega
    · obtain ⟨f, _, rfl⟩ := List.mem_map.1 hw
      exact (fldW_size he f).1
  refine ⟨?_, fun w hw => ?_⟩
  · unfold lineF formF
    split <;> simp <;> omega
  · obtain ⟨x, hx, rfl⟩ := List.mem_map.1 hw
    unfold lineF at hx
    rw [List.mem_append] at hx
    rcases hx with hx | hx
    · exact key _ h1.2 x hx
    · split at hx
      · exact key _ h2.2 x hx
      · simp at hx
theorem lineF_ne0 (e : Ev) : (lineF e).map (·.1) ≠ [] := by simp [lineF, formF]

end Go.Proofs
end

section
open Go Go.Vc
namespace Go.Proofs

/-! ### Forms -/
def cutS (s : ByteArray) : ByteArray × ByteArray := (⟨(Lib.cut s.data.toList [32]).1.toArray⟩, ⟨(Lib.cut s.data.toList [32]).2.1.toArray⟩)
def pickS (fs : List ByteArray) (k : Int) : ByteArray × ByteArray := if 1 ≤ k ∧ k < fs.length then cutS (fs.getD k.toNat ⟨#[]⟩) else (⟨#[]⟩, ⟨#[]⟩)

theorem formed_ok {H : Heap} {b : Nat} {fs : List ByteArray} (hb : Blk H b (fs.map Value.string)) (k : Int) {n c : Nat} (hn : n = fs.length) (hsz : ∀ s ∈ fs, s.size ≤ 1000) (g : Glob H) :
    Does Tryz.prog 50 [.slice (some ⟨b, 0, none⟩) n c, .int .i64 k] H fun v H' => v = .tuple #[.string (pickS fs k).1, .string (pickS fs k).2] ∧ H = H' := by
  subst hn
  refine Fn_of_vc Tryz.mixed (FormedV _ _ _ _ _ _) ?_
  refine ⟨fun h => ⟨by unfold pickS; rw [if_neg (by omega)], rfl⟩, fun h1 => ⟨fun h => ⟨by unfold pickS; rw [if_neg (by omega)], rfl⟩, fun h2 => ?_⟩⟩
  have hlt : k.toNat < fs.length := by omega
  refine ⟨by omega, by omega, b, 0, rfl, fs.getD k.toNat ⟨#[]⟩, ?_, ?_⟩
  · rw [hb.cell, Nat.zero_add]
    simp [List.getD_eq_getElem?_getD, List.getElem?_eq_getElem hlt]
  · have hm : fs.getD k.toNat ⟨#[]⟩ ∈ fs := by
      rw [List.getD_eq_getElem?_getD, List.getElem?_eq_getElem hlt]
      simp
    refine (cut_ok _ ⟨#[32]⟩ (by have := hsz _ hm; omega) g).mono ?_
    rintro _ H5 ⟨rfl, rfl⟩
    refine ⟨_, _, _, rfl, ?_, rfl⟩
    unfold pickS
    rw [if_pos (by omega)]
    rfl

def formsK : List ByteArray := [(ByteArray.mk #[]), (ByteArray.mk #[99, 97, 108, 108, 32, 115]), (ByteArray.mk #[102, 114, 101, 101, 122, 101, 32, 115, 111]), (ByteArray.mk #[102, 111, 114, 107, 32, 115, 111]), (ByteArray.mk #[100, 105, 102, 102, 32, 115, 111]), (ByteArray.mk #[97, 112, 112, 108, 121, 32, 115, 111, 114]), (ByteArray.mk #[109, 101, 114, 103, 101, 32, 115, 111, 114]), (ByteArray.mk #[114, 101, 98, 97, 115, 101, 32, 115, 111]), (ByteArray.mk #[100, 114, 111, 112, 32, 115]), (ByteArray.mk #[115, 121, 110, 99]), (ByteArray.mk #[102, 117, 115, 101, 32, 110]), (ByteArray.mk #[99, 114, 97, 115, 104, 32, 107])]
def formsC : List ByteArray := [(ByteArray.mk #[]), (ByteArray.mk #[109, 107, 100, 105, 114, 32, 112, 109, 116]), (ByteArray.mk #[99, 114, 101, 97, 116, 101, 32, 112, 109, 116, 100]), (ByteArray.mk #[119, 114, 105, 116, 101, 32, 112, 97, 100]), (ByteArray.mk #[116, 114, 117, 110, 99, 97, 116, 101, 32, 112, 122]), (ByteArray.mk #[117, 110, 108, 105, 110, 107, 32, 112]), (ByteArray.mk #[114, 109, 100, 105, 114, 32, 112]), (ByteArray.mk #[115, 121, 109, 108, 105, 110, 107, 32, 112, 116, 100]), (ByteArray.mk #[114, 101, 97, 100, 108, 105, 110, 107, 32, 112]), (ByteArray.mk #[114, 101, 110, 97, 109, 101, 32, 112, 113]), (ByteArray.mk #[99, 104, 109, 111, 100, 32, 112, 109]), (ByteArray.mk #[117, 116, 105, 109, 101, 32, 112, 116]), (ByteArray.mk #[115, 116, 97, 116, 32, 112]), (ByteArray.mk #[108, 115, 116, 97, 116, 32, 112]), (ByteArray.mk #[114, 101, 97, 100, 32, 112, 97, 122]), (ByteArray.mk #[108, 105, 115, 116, 32, 112])]
theorem pickK_all : ∀ i : Fin 11, pickS formsK ((i.val : Int) + 1) = ((formK ((i.val : Int) + 1)).1, letS (formK ((i.val : Int) + 1)).2) := by decide +kernel
theorem pickC_all : ∀ i : Fin 15, pickS formsC ((i.val : Int) + 1) = ((formC ((i.val : Int) + 1)).1, letS (formC ((i.val : Int) + 1)).2) := by decide +kernel
theorem pickK (k : Int) : pickS formsK k = ((formK k).1, letS (formK k).2) := by
  by_cases hk : 1 ≤ k ∧ k ≤ 11
  · obtain ⟨i, rfl⟩ := fin_int (n := 11) hk
    exact pickK_all i
  · rw [formK_out hk]
    unfold pickS
    rw [if_neg (by show ¬ (1 ≤ k ∧ k < 12); omega)]
    rfl
theorem pickC (k : Int) : pickS formsC k = ((formC k).1, letS (formC k).2) := by
  by_cases hk : 1 ≤ k ∧ k ≤ 15
  · obtain ⟨i, rfl⟩ := fin_int (n := 15) hk
    exact pickC_all i
  · rw [formC_out hk]
    unfold pickS
    rw [if_neg (by show ¬ (1 ≤ k ∧ k < 16); omega)]
    rfl

theorem form_ok {H : Heap} (g : Glob H) (k : Int) : Does Tryz.prog 24 [.int .i64 k] H fun v H' => v = .tuple #[.string (formK k).1, .string (letS (formK k).2)] ∧ Ext [] H H' := by
  refine Fn_of_vc Tryz.mixed (FormV _ _ _) ?_
  intro b1 H2 hn
  refine (formed_ok (fs := formsK) hn.blk k rfl (by decide) (g.ext hn.ext)).mono ?_
  rintro _ H4 ⟨rfl, rfl⟩
  refine ⟨_, _, rfl, ?_, hn.ext⟩
  rw [pickK]
theorem cform_ok {H : Heap} (g : Glob H) (k : Int) : Does Tryz.prog 26 [.int .i64 k] H fun v H' => v = .tuple #[.string (formC k).1, .string (letS (formC k).2)] ∧ Ext [] H H' := by
  refine Fn_of_vc Tryz.mixed (CFormV _ _ _) ?_
  intro b1 H2 hn
  refine (formed_ok (fs := formsC) hn.blk k rfl (by decide) (g.ext hn.ext)).mono ?_
  rintro _ H4 ⟨rfl, rfl⟩
  refine ⟨_, _, rfl, ?_, hn.ext⟩
  rw [pickC]
/-! ### Printing -/
section
variable {H : Heap} {e : Ev} {da ma : Option Addr} {dl dc ml mc : Nat}
theorem print_end {F : Nat → Prop} {H1 : Heap} {b : Nat} {l : List WF} (he : EvOk e) (h : LineIs F H1 b (l.map (·.1)) (bad l)) (hl : l = lineF e) (hx : Ext [] H H1) :
    ∃ b56 o57 : Nat, (some (⟨b, 0, none⟩ : Addr)) = some (⟨b56, o57, none⟩ : Addr) ∧ (
      ∃ t58 : Bool, hcell H1 b56 (o57 + 1) = some (.bool t58) ∧ (
       ((t58 = true → (
       Value.tuple #[(.string (ByteArray.mk #[])), (.bool false)] = .tuple #[.string (printE e).1, .bool (printE e).2] ∧ Ext [] H H1)) ∧ (t58 = false → (
       ∃ b59 o60 : Nat, (some (⟨b, 0, none⟩ : Addr)) = some (⟨b59, o60, none⟩ : Addr) ∧ (
       ∃ a61 : Option Addr, ∃ l62 : Nat, ∃ c63 : Nat, hcell H1 b59 o60 = some (.slice a61 l62 c63) ∧ (
       Does Tryz.prog 34 [(.slice a61 l62 c63), (.string (ByteArray.mk #[32]))] H1 fun v64 H65 => ∃ s66 : ByteArray, v64 = (.string s66) ∧ (
       Value.tuple #[(.string s66), (.bool true)] = .tuple #[.string (printE e).1, .bool (printE e).2] ∧ Ext [] H H65)))))))) := by
  subst hl
  refine ⟨b, 0, rfl, _, h.wrg, fun hb => ⟨?_, hx⟩, fun hb => ?_⟩
  · unfold printE; rw [if_pos hb]
  · have hsz := lineF_size he
    obtain ⟨_, _, a, c, hbk, ho, _⟩ := h
    refine ⟨b, 0, rfl, a, _, c, by rw [hbk.cell]; rfl, ?_⟩
    refine (join_ok ho (lineF_ne0 e) (by rw [List.length_map]; omega) ?_).mono ?_
    · have := joinW_len hsz.2
      rw [List.length_map] at this
      refine Nat.le_trans this ?_
      refine Nat.le_trans (Nat.mul_le_mul_right _ hsz.1) (by decide)
    · rintro _ H65 ⟨rfl, hx65⟩
      refine ⟨_, rfl, ?_, hx.trans hx65⟩
      unfold printE
      rw [if_neg (by rw [hb]; decide)]
      rfl

theorem print_ok (hr : Rows H e da dl dc ma ml mc) (he : EvOk e) (g : Glob H) : Does Tryz.prog 13 [evA e da dl dc ma ml mc] H fun v H' => v = .tuple #[.string (printE e).1, .bool (printE e).2] ∧ Ext [] H H' := by
  refine Fn_of_vc Tryz.mixed (PrintV _ _ _ _ _ _ _ _ _ _ _ _ _ _ _ _ _ _ _ _) ?_
  intro b1 H2 hn1 b3 H4 hn3
  have g0 := g.size
  have e1 := hn1.eq
  have e3 := hn3.eq
  have s2 := hn1.size
  have s4 := hn3.size
  have hx4 : Ext [] H H4 := hn1.ext.trans hn3.ext
  have hb4 : Blk H4 b1 (evL e da dl dc ma ml mc) := hn1.blk.ext hn3.ext (by simp)
  refine ⟨_, hb4.cell _, ?_⟩
  refine (form_ok (g.ext hx4) e.kind).mono ?_
  rintro _ H7 ⟨rfl, hx7⟩
  have hb7 := hb4.ext hx7 (by simp)
  refine ⟨_, _, rfl, _, hb7.cell _, _, hb7.cell _, _, hb7.cell _, _, hb7.cell _, _, hb7.cell _, _, hb7.cell _, _, hb7.cell _, _, hb7.cell _, _, hb7.cell _, _, hb7.cell _, _, hb7.cell _, _, _, _, hb7.cell _, _, hb7.cell _, _, _, _, hb7.cell _, ?_⟩
  have hx07 := hx4.trans hx7
  have hl7 : LineIs (fun k => k = b3) H7 b3 [] false := by
    have hb3 := hn3.blk.ext hx7 (by simp)
    refine ⟨fun k hk => by subst hk; exact ⟨by omega, hb3.lt⟩, rfl, none, 0, hb3, ⟨rfl, Nat.le_refl _, by decide, .inl ⟨rfl, rfl⟩⟩, by simp [blkOf], by simp [blkOf]⟩
  have hk7 : Kept (fun k => k = b3) H7 e da dl dc ma ml mc := hr.kept hx07 (by rintro k rfl; omega)
  have hlen := formK_len e.kind
  refine (lform_ok hl7 hk7 he (g.ext hx07) (by simp) (formK e.kind).1 (formK e.kind).2 hlen.1).mono ?_
  rintro _ H29 ⟨rfl, h29⟩
  simp only [List.nil_append, Bool.false_or] at h29
  have hx29 : Ext [] H H29 := hx07.transP h29.2 (by rintro k rfl; omega)
  have hb29 : Blk H29 b1 (evL e da dl dc ma ml mc) := hb7.extP h29.2 (by omega)
  refine ⟨rfl, _, hb29.cell _, fun hk1 => ?_, fun hk1 => ?_⟩
  · refine ⟨_, hb29.cell _, ?_⟩
    refine (cform_ok (g.ext hx29) e.call.kind).mono ?_
    rintro _ H33 ⟨rfl, hx33⟩
    have hb33 := hb29.ext hx33 (by simp)
    refine ⟨_, _, rfl, _, hb33.cell _, _, hb33.cell _, _, hb33.cell _, _, hb33.cell _, _, hb33.cell _, _, hb33.cell _, _, hb33.cell _, _, hb33.cell _, _, hb33.cell _, _, hb33.cell _, _, hb33.cell _, _, _, _, hb33.cell _, _, hb33.cell _, _, _, _, hb33.cell _, ?_⟩
    have hlenC := formC_len e.call.kind
    have hx033 := hx29.trans hx33
    have hs7 := hx07.size
    have hk33 : Kept (grow (fun k => k = b3) H7 H29) H33 e da dl dc ma ml mc := hr.kept hx033 (by
      rintro k (rfl | ⟨h1, h2⟩)
      · omega
      · omega)
    have hl33 := h29.1.more hx33
    have hlen2 : ((formF e (formK e.kind)).map (·.1)).length ≤ 1000000 := by rw [List.length_map]; unfold formF; simp; omega
    refine (lform_ok hl33 hk33 he (g.ext hx033) hlen2 (formC e.call.kind).1 (formC e.call.kind).2 hlenC.1).mono ?_
    rintro _ H55 ⟨rfl, h55⟩
    refine ⟨rfl, ?_⟩
    have el : lineF e = formF e (formK e.kind) ++ formF e (formC e.call.kind) := by unfold lineF; rw [if_pos hk1]
    refine print_end (F := grow (grow (fun k => k = b3) H7 H29) H33 H55) he (l := lineF e) ?_ rfl (hx033.transP h55.2 (by
      rintro k (rfl | ⟨h1, h2⟩)
      · omega
      · omega))
    have := h55.1
    rw [el]
    simpa [bad] using this
  · have el : lineF e = formF e (formK e.kind) := by unfold lineF; rw [if_neg hk1, List.append_nil]
    refine print_end (F := grow (fun k => k = b3) H7 H29) he (l := lineF e) ?_ rfl hx29
    rw [el]
    exact h29.1
end
end Go.Proofs
end

section
open Go Go.Vc
namespace Go.Proofs

/-! ### Words in memory -/
def WRow (B : Nat) (H : Heap) (a : Option Addr) (n c : Nat) (ws : List ByteArray) : Prop :=
  n = ws.length ∧ n ≤ c ∧ (ws = [] ∨ ∃ o, a = some ⟨B, o, none⟩ ∧ ∀ (j : Nat) (x : ByteArray), ws[j]? = some x → hcell H B (o + j) = some (.string x))
theorem WRow.ext {M : List Nat} {B : Nat} {H H' : Heap} {a : Option Addr} {n c : Nat} {ws : List ByteArray} (h : WRow B H a n c ws) (hx : Ext M H H') (hm : B ∉ M) : WRow B H' a n c ws := by
  obtain ⟨h1, h2, h3⟩ := h
  refine ⟨h1, h2, ?_⟩
  rcases h3 with h3 | ⟨o, ha, h3⟩
  · exact .inl h3
  · exact .inr ⟨o, ha, fun j x hj => hcell_ext (h3 j x hj) hx hm⟩
theorem WRow.head {B : Nat} {H : Heap} {a : Option Addr} {n c : Nat} {w : ByteArray} {ws : List ByteArray} (h : WRow B H a n c (w :: ws)) : ∃ o, a = some ⟨B, o, none⟩ ∧ hcell H B o = some (.string w) := by
  obtain ⟨h1, h2, h3⟩ := h
  rcases h3 with h3 | ⟨o, ha, h3⟩
  · cases h3
  · exact ⟨o, ha, h3 0 w rfl⟩
theorem WRow.tail {B : Nat} {H : Heap} {a a' : Option Addr} {n c : Nat} {w : ByteArray} {ws : List ByteArray} (h : WRow B H a n c (w :: ws)) (ha' : a' = (if c = (Int.toNat 1) then a else Option.map (fun x => Addr.add x ((Int.toNat 1) * 1)) a)) : WRow B H a' (n - Int.toNat 1) (c - Int.toNat 1) ws := by
  obtain ⟨h1, h2, h3⟩ := h
  simp only [List.length_cons] at h1
  have e1 : Int.toNat 1 = 1 := rfl
  rw [e1] at ha' ⊢
  refine ⟨by omega, by omega, ?_⟩
  rcases h3 with h3 | ⟨o, ha, h3⟩
  · cases h3
  · by_cases hc : c = 1
    · exact .inl (List.eq_nil_of_length_eq_zero (by omega))
    · rw [if_neg hc, ha] at ha'
      refine .inr ⟨o + 1, by rw [ha']; simp [Addr.add_lit], fun j x hj => ?_⟩
      have := h3 (j + 1) x (by simpa using hj)
      rw [show o + 1 + j = o + (j + 1) by omega]
      exact this
theorem WRow.nil {B : Nat} {H H' : Heap} {a : Option Addr} {n c : Nat} (h : WRow B H a n c []) : WRow B H' a n c [] := ⟨h.1, h.2.1, .inl rfl⟩

/-! ### Taking -/
theorem take_ok {H : Heap} {b B : Nat} {e : Ev} (h : EvAt H b e) (fs : List Fld) {a : Option Addr} {n c : Nat} {ws : List ByteArray} (hw : WRow B H a n c ws) (hB : B < H.size) (hne : B ≠ b) (hsz : ∀ w ∈ ws, w.size ≤ 1000000000) (g : Glob H) (hb : 11 ≤ b) :
    Does Tryz.prog 25 [.pointer (some ⟨b, 0, none⟩), .string (letS fs), .slice a n c] H fun v H' => ∃ a' n' c' r e', v = .slice a' n' c' ∧ WRow B H' a' n' c' r ∧ EvAt H' b e' ∧ TakeR e fs ws e' r ∧ (∀ w ∈ r, w.size ≤ 1000000000) ∧ Ext [b] H H' := by
  refine Fn_of_vc Tryz.mixed (TakeV _ _ _ _ _ _ _) ?_
  intro r H2 hnr
  obtain ⟨hit, hx2, er, hs2⟩ := iter_at hnr
  have hbl := h.lt
  refine ⟨fun a' l c' H' => ∃ (k : Nat) (rest : List ByteArray) (e1 : Ev), k ≤ fs.length ∧ IterAt H' r (letS fs) k ∧ WRow B H' a' l c' rest ∧ EvAt H' b e1 ∧ (∀ e' r', TakeR e1 (fs.drop k) rest e' r' → TakeR e fs ws e' r') ∧ (∀ w ∈ rest, w.size ≤ 1000000000) ∧ Ext [b] H H',
    fun _ _ _ H' => fs.length - (match H'[r]? with | some (.stringIter _ n) => n | _ => 0), ⟨0, ws, e, by omega, hit, hw.ext hx2 (by simp), h.more hx2, by simp, hsz, hx2.any⟩, ?_⟩
  rintro a' l c' H8 ⟨k, rest, e1, hkl, hi, hwr, hev, htk, hsr, hx8⟩
  have hi' : H8[r]? = some (.stringIter (letS fs) k) := hi
  have hrl : r < H8.size := (Array.getElem?_eq_some_iff.1 hi').1
  refine ⟨letS fs, k, hi, fun hlt q H12 eq hput => ⟨fun _ => ?_, fun hf => absurd hf (by decide)⟩, fun hge => ⟨fun hf => absurd hf (by decide), fun _ => ?_⟩⟩
  · rw [letS_size] at hlt
    have hget := letS_get hlt
    have hdec := decode_low (s := letS fs) (n := k) (by rw [hget]; exact letB_low _)
    rw [hdec] at eq hput
    subst eq
    rw [hget]
    obtain ⟨hi12, hx12, hs12⟩ := iter_put hput hi
    have hdrop : fs.drop k = fs[k] :: fs.drop (k + 1) := List.drop_eq_getElem_cons hlt
    rw [hdrop] at htk
    have hev12 : EvAt H12 b e1 := by
      obtain ⟨da, dl, dc, ma, ml, mc, hb8, hr8, h1, h2, he⟩ := hev
      have hrn : ∀ {x : Option Addr} {n' c'' : Nat} {bs : List UInt8}, SRow H8 1 n' (.slice x n' c'') (bytesV bs) → SRow H12 1 n' (.slice x n' c'') (bytesV bs) := by
        intro x n' c'' bs hrow
        refine ⟨hrow.1, ?_⟩
        have hrow2 := hrow.2
        cases x with
        | none => exact hrow2
        | some ad =>
          refine ⟨hrow2.1, fun j u hj => ?_⟩
          have hcj := hrow2.2 j u hj
          refine hcell_ext hcj hx12 (fun hm => ?_)
          simp only [List.mem_singleton] at hm
          unfold hcell at hcj
          rw [hm, hi'] at hcj
          cases hcj
      exact ⟨da, dl, dc, ma, ml, mc, hb8.ext hx12 (by simp; omega), ⟨hrn hr8.data, hrn hr8.mask⟩, h1, h2, he⟩
    have hwr12 : WRow B H12 a' l c' rest := hwr.ext hx12 (by simp; omega)
    have hx012 : Ext [b] H H12 := hx8.trans' hx12 (fun i hi => by simp only [List.mem_singleton] at hi; left; omega)
    refine ⟨fun hpos => ?_, fun hzero => ?_⟩
    · cases rest with
      | nil => have := hwr.1; simp at this; omega
      | cons w rest =>
        obtain ⟨o, ha, hc⟩ := hwr12.head
        have g12 : Glob H12 := g.keep hx012.toP (fun j hj => by simp only [List.mem_singleton] at hj; omega)
        refine ⟨by decide, hpos, B, o, ha, w, by simpa using hc, ?_⟩
        refine (set_ok hev12 fs[k] w (hsr w (by simp)) g12).mono ?_
        rintro _ H17 ⟨rfl, ⟨e2, hev17, hset⟩, hx17⟩
        have hi17 : H17[r]? = some (.stringIter (letS fs) (k + 1)) := (hx17.keep r (by omega) (by simp; omega)).trans hi12
        refine ⟨rfl, by decide, by omega, fun a18 ha18 => ⟨⟨k + 1, rest, e2, by omega, hi17, (hwr12.ext hx17 (by simpa using hne)).tail ha18, hev17, fun e' r' ht => htk e' r' ⟨e2, hset, ht⟩, fun w' hw' => hsr w' (by simp [hw']), hx012.trans hx17⟩, ?_⟩⟩
        dsimp only
        rw [hi17, hi']
        show fs.length - (k + 1) < fs.length - k
        omega
    · have hr0 : rest = [] := List.eq_nil_of_length_eq_zero (by have := hwr.1; omega)
      subst hr0
      have hi12' : H12[r]? = some (.stringIter (letS fs) (k + 1)) := hi12
      refine ⟨⟨k + 1, [], e1, by omega, hi12, hwr12, hev12, fun e' r' ht => htk e' r' ht, by simp, hx012⟩, ?_⟩
      dsimp only
      rw [hi12', hi']
      show fs.length - (k + 1) < fs.length - k
      omega
  · rw [letS_size] at hge
    have hkk : k = fs.length := by omega
    subst hkk
    rw [List.drop_length] at htk
    refine ⟨a', l, c', rest, e1, rfl, hwr, hev, htk e1 rest (by cases rest <;> exact ⟨rfl, rfl⟩), hsr, hx8⟩

/-- A row of bytes does not lie in an event's block. -/
theorem srow_off {H H' : Heap} {b : Nat} {e : Ev} {da ma x : Option Addr} {dl dc ml mc n l c : Nat} {bs : List UInt8} (h : SRow H 1 n (.slice x l c) (bytesV bs)) (hb : Blk H b (evL e da dl dc ma ml mc)) (hx : Ext [b] H H') : SRow H' 1 n (.slice x l c) (bytesV bs) := by
  refine ⟨h.1, ?_⟩
  have h2 := h.2
  cases x with
  | none => exact h2
  | some ad =>
    refine ⟨h2.1, fun j u hj => ?_⟩
    have hcj := h2.2 j u hj
    refine hcell_ext hcj hx (fun hm => ?_)
    simp only [List.mem_singleton] at hm
    rw [hm, hb.cell] at hcj
    have hmem := List.mem_of_getElem? hcj
    have hu : ∃ c : UInt8, u = .int .u8 (c.toNat : Int) := by
      have := List.mem_of_getElem? hj
      unfold bytesV at this
      obtain ⟨c, _, rfl⟩ := List.mem_map.1 this
      exact ⟨c, rfl⟩
    obtain ⟨c, rfl⟩ := hu
    simp [evL] at hmem

/-! ### Parsing -/
/-- What a line is as an event. -/
def Parsed (s : ByteArray) (v : Value) (H : Heap) : Prop :=
  (∃ e da dl dc ma ml mc, v = .tuple #[evA e da dl dc ma ml mc, .bool true] ∧ Rows H e da dl dc ma ml mc ∧ EvOk e ∧ Good (wordsS s) e ∧ printE e = (s, true)) ∨
  (v = .tuple #[evA zeroE none 0 0 none 0 0, .bool false] ∧ ∀ e0 : Ev, e0.call.time < 18446744073709551616 → printE e0 ≠ (s, true))
theorem good_none {s : ByteArray} {e : Ev} (hg : Good (wordsS s) e) (hn : printE e ≠ (s, true)) : ∀ e0 : Ev, e0.call.time < 18446744073709551616 → printE e0 ≠ (s, true) := fun _ ht h => hn (good_print hg ht h).2

theorem zero_ok : EvOk zeroE := by
  refine ⟨by decide, by decide, by decide, by decide, by decide, by decide, by decide, ⟨by decide, by decide⟩, ⟨by decide, by decide⟩, ⟨by decide, by decide⟩, ⟨by decide, by decide⟩, ⟨by decide, by decide⟩, ⟨by decide, by decide⟩, by decide⟩
theorem zero_rows (H : Heap) : Rows H zeroE none 0 0 none 0 0 := ⟨⟨rfl, rfl⟩, ⟨rfl, rfl⟩⟩
theorem wordsS_ne (s : ByteArray) : wordsS s ≠ [] := by
  unfold wordsS
  intro h
  exact split_ne _ (List.map_eq_nil_iff.1 h)
theorem splitL_size : ∀ (l : List UInt8), ∀ w ∈ splitL l, w.length ≤ l.length
  | [], w, h => by simp [splitL] at h; simp [h]
  | c :: r, w, h => by
    simp only [splitL] at h
    split at h
    · rcases List.mem_cons.1 h with rfl | h
      · simp
      · have := splitL_size r w h; simp; omega
    · split at h
      · rename_i x xs hx
        rcases List.mem_cons.1 h with rfl | h
        · have := splitL_size r x (by rw [hx]; simp)
          simp; omega
        · have := splitL_size r w (by rw [hx]; simp [h])
          simp; omega
      · simp only [List.mem_singleton] at h
        subst h
        simp
theorem wordsS_size (s : ByteArray) : ∀ w ∈ wordsS s, w.size ≤ s.size := by
  intro w hw
  unfold wordsS at hw
  obtain ⟨x, hx, rfl⟩ := List.mem_map.1 hw
  have := splitL_size _ x hx
  rw [toList_size] at this
  show (List.toArray x).size ≤ _
  simpa using this
theorem splitL_len : ∀ (l : List UInt8), (splitL l).length ≤ l.length + 1
  | [] => by simp [splitL]
  | c :: r => by
    have ih := splitL_len r
    simp only [splitL]
    split
    · simp; omega
    · split
      · rename_i x xs hx
        rw [hx] at ih
        simp at ih ⊢
        omega
      · simp
theorem wordsS_len (s : ByteArray) : (wordsS s).length ≤ s.size + 1 := by
  have := splitL_len s.data.toList
  rw [toList_size] at this
  unfold wordsS
  rw [List.length_map]
  exact this

theorem new_ev {H H' : Heap} {b : Nat} (h : New H b (evL zeroE none 0 0 none 0 0) 33 H') : EvAt H' b zeroE :=
  ⟨none, 0, 0, none, 0, 0, h.blk, zero_rows _, by simp [blkOf], by simp [blkOf], zero_ok⟩
theorem EvAt.kind {H : Heap} {b : Nat} {e : Ev} (h : EvAt H b e) : hcell H b 0 = some (.int .i64 e.kind) := by
  obtain ⟨da, dl, dc, ma, ml, mc, hb, _⟩ := h
  rw [hb.cell]; rfl
theorem EvAt.cells {H : Heap} {b : Nat} {e : Ev} (h : EvAt H b e) (o : Nat) (ho : o < 14) : Cells H b o 1 := by
  obtain ⟨da, dl, dc, ma, ml, mc, hb, _⟩ := h
  exact hb.cells _ _ (by simp [evL]; omega)
theorem EvAt.setKind {H H' : Heap} {b : Nat} {e : Ev} (h : EvAt H b e) {k : Int} (hk : In64 k) (hp : Puts H b 0 [.int .i64 k] H') : EvAt H' b (withKind e k) := by
  obtain ⟨da, dl, dc, ma, ml, mc, hb, hr, h1, h2, he⟩ := h
  exact ⟨da, dl, dc, ma, ml, mc, hp.blk hb (by simp [evL]), ⟨hr.data.ext hp.ext (apart h1), hr.mask.ext hp.ext (apart h2)⟩, h1, h2, { he with kind := hk }⟩
theorem EvAt.setCall {H H' : Heap} {b : Nat} {e : Ev} (h : EvAt H b e) {k : Int} (hk : In64 k) (hp : Puts H b (0 + 4) [.int .i64 k] H') : EvAt H' b (withCall e k) := by
  obtain ⟨da, dl, dc, ma, ml, mc, hb, hr, h1, h2, he⟩ := h
  exact ⟨da, dl, dc, ma, ml, mc, hp.blk hb (by simp [evL]), ⟨hr.data.ext hp.ext (apart h1), hr.mask.ext hp.ext (apart h2)⟩, h1, h2, { he with ckind := hk }⟩

theorem parseS_ok (s : ByteArray) (hs : s.size ≤ 1000000000) {H : Heap} (g : Glob H) : Does Tryz.prog 9 [.string s] H fun v H' => Parsed s v H' ∧ Ext [] H H' := by
  have g0 := g.size
  refine Fn_of_vc Tryz.mixed (ParseEV _ _ _) ?_
  intro b1 H2 hn1
  have e1 := hn1.eq
  have s2 := hn1.size
  have g2 := g.ext hn1.ext
  refine (split_ok s (by omega) g2).mono ?_
  rintro _ H4 ⟨rfl, hbw, hx4, s4⟩
  refine ⟨_, _, _, rfl, ?_⟩
  intro b8 H9 hn8
  have e8 := hn8.eq
  have s9 := hn8.size
  have hx29 : Ext [] H2 H9 := hx4.trans hn8.ext
  have hw9 : WRow H2.size H9 (some ⟨H2.size, 0, none⟩) (wordsS s).length (wordsS s).length (wordsS s) := by
    have hb9 := hbw.ext hn8.ext (by simp)
    refine ⟨rfl, Nat.le_refl _, .inr ⟨0, rfl, fun j x hj => ?_⟩⟩
    rw [hb9.cell, Nat.zero_add, List.getElem?_map, hj]
    rfl
  have hev9 : EvAt H9 b8 zeroE := new_ev hn8
  have hszs : ∀ w ∈ wordsS s, w.size ≤ 1000000000 := fun w hw => Nat.le_trans (wordsS_size s w hw) hs
  have gk : ∀ {H'}, Ext [] H2 H' → Glob H' := fun hx => g2.ext hx
  refine ⟨fun a l c H' => ∃ e' r', WRow H2.size H' a l c r' ∧ EvAt H' b8 e' ∧ Step1 (wordsS s) e' r' ∧ (∀ w ∈ r', w.size ≤ 1000000000) ∧ Ext [] H2 H', ?_, ?_⟩
  · refine ⟨fun a l c n H' => 1 ≤ n ∧ n ≤ 12 ∧ (∀ j : Int, 1 ≤ j → j < n → (formK j).1 ≠ (wordsS s).headD noW) ∧ WRow H2.size H' a l c (wordsS s) ∧ EvAt H' b8 zeroE ∧ Ext [] H2 H', fun _ _ _ n _ => (12 - n).toNat, ⟨by decide, by decide, fun j h1 h2 => by omega, hw9, hev9, hx29⟩, ?_⟩
    rintro a l c n H17 ⟨n1, n2, hno, hw, hev, hx⟩
    refine ⟨fun hle => ?_, fun hgt => ?_⟩
    · refine (form_ok (gk hx) n).mono ?_
      rintro _ H19 ⟨rfl, hx19⟩
      have hw19 := hw.ext hx19 (by simp)
      have hev19 := hev.more hx19
      have hsz17 := hx.size
      cases hws : wordsS s with
      | nil => exact absurd hws (wordsS_ne s)
      | cons w0 rest =>
        rw [hws] at hw19
        obtain ⟨o, ha, hc⟩ := hw19.head
        have hl := hw19.1
        simp only [List.length_cons] at hl
        refine ⟨_, _, rfl, by decide, by omega, _, o, ha, w0, by simpa using hc, fun heq => ?_, fun hneq => ?_⟩
        · refine ⟨hev19.cells 0 (by decide), fun H25 hp => ⟨by decide, by omega, fun a26 ha26 => ?_⟩⟩
          have hw25 := (hw19.ext hp.ext (by simp; omega)).tail ha26
          have hev25 := hev19.setKind (k := n) ⟨by omega, by omega⟩ hp
          have hx25 : Ext [] H2 H25 := (hx.trans hx19).trans' hp.ext (fun i hi => by simp only [List.mem_singleton] at hi; left; omega)
          have hs25 := hx25.size
          have hs19 := hx19.size
          have hs25' := hev25.lt
          refine (take_ok hev25 (formK n).2 hw25 (by omega) (by omega) (fun w hw => hszs w (by rw [hws]; simp [hw])) (gk hx25) (by omega)).mono ?_
          rintro _ H28 ⟨a', n', c', r, e', rfl, hw28, hev28, htk, hsr, hx28⟩
          refine ⟨a', n', c', rfl, e', r, hw28, hev28, .inl ⟨n, n1, hle, ?_, ?_⟩, hsr, hx25.trans' hx28 (fun i hi => by simp only [List.mem_singleton] at hi; left; omega)⟩
          · exact heq
          · exact htk
        · refine ⟨⟨by omega, by omega⟩, ⟨by omega, by omega, fun j h1 h2 => ?_, hw19, hev19, hx.trans hx19⟩, by dsimp only; omega⟩
          by_cases hj : j = n
          · subst hj
            exact hneq
          · rw [← hws]; exact hno j h1 (by omega)
    · exact ⟨zeroE, wordsS s, hw, hev, .inr ⟨fun k h1 h2 => hno k h1 (by omega), rfl, rfl⟩, hszs, hx⟩
  · rintro a l c H35 ⟨e1', r1, hw, hev, hst1, hsr, hx⟩
    refine ⟨fun H' => ∃ e2, EvAt H' b8 e2 ∧ Step2 e1' r1 e2 ∧ Ext [] H2 H', ?_, ?_⟩
    · refine ⟨fun n H' => 1 ≤ n ∧ n ≤ 16 ∧ (e1'.kind = 1 → r1 ≠ [] → ∀ j : Int, 1 ≤ j → j < n → (formC j).1 ≠ r1.headD noW) ∧ WRow H2.size H' a l c r1 ∧ EvAt H' b8 e1' ∧ Ext [] H2 H', fun n _ => (16 - n).toNat, ⟨by decide, by decide, fun _ _ j h1 h2 => by omega, hw, hev, hx⟩, ?_⟩
      rintro n H40 ⟨n1, n2, hno, hw, hev, hx⟩
      refine ⟨fun hle => ⟨_, hev.kind, fun hk1 => ⟨fun hpos => ?_, fun hzero => ?_⟩, fun hk1 => ?_⟩, fun hgt => ?_⟩
      · refine (cform_ok (gk hx) n).mono ?_
        rintro _ H43 ⟨rfl, hx43⟩
        have hw43 := hw.ext hx43 (by simp)
        have hev43 := hev.more hx43
        have hsz40 := hx.size
        cases r1 with
        | nil => have := hw.1; simp at this; omega
        | cons w0 rest =>
          obtain ⟨o, ha, hc⟩ := hw43.head
          have hl := hw43.1
          simp only [List.length_cons] at hl
          refine ⟨_, _, rfl, by decide, by omega, _, o, ha, w0, by simpa using hc, fun heq => ?_, fun hneq => ?_⟩
          · refine ⟨hev43.cells _ (by decide), fun H49 hp => ⟨by decide, by omega, fun a50 ha50 => ?_⟩⟩
            have hw49 := (hw43.ext hp.ext (by simp; omega)).tail ha50
            have hev49 := hev43.setCall (k := n) ⟨by omega, by omega⟩ hp
            have hx49 : Ext [] H2 H49 := (hx.trans hx43).trans' hp.ext (fun i hi => by simp only [List.mem_singleton] at hi; left; omega)
            have hs49 := hx49.size
            have hs43 := hx43.size
            have hs49' := hev49.lt
            refine (take_ok hev49 (formC n).2 hw49 (by omega) (by omega) (fun w hw => hsr w (by simp [hw])) (gk hx49) (by omega)).mono ?_
            rintro _ H52 ⟨a', n', c', r, e', rfl, hw52, hev52, htk, _, hx52⟩
            exact ⟨a', n', c', rfl, e', hev52, .inl ⟨n, n1, hle, hk1, by simp, heq, r, htk⟩, hx49.trans' hx52 (fun i hi => by simp only [List.mem_singleton] at hi; left; omega)⟩
          · refine ⟨⟨by omega, by omega⟩, ⟨by omega, by omega, fun h1 h2 j j1 j2 => ?_, hw43, hev43, hx.trans hx43⟩, by dsimp only; omega⟩
            by_cases hj : j = n
            · subst hj
              exact hneq
            · exact hno h1 h2 j j1 (by omega)
      · refine ⟨e1', hev, .inr ⟨fun _ hne => ?_, rfl⟩, hx⟩
        exact absurd (List.eq_nil_of_length_eq_zero (by have := hw.1; omega)) hne
      · exact ⟨e1', hev, .inr ⟨fun h => absurd h hk1, rfl⟩, hx⟩
      · exact ⟨e1', hev, .inr ⟨fun h1 h2 k k1 k2 => hno h1 h2 k k1 (by omega), rfl⟩, hx⟩
    · rintro H56 ⟨e2, hev, hst2, hx⟩
      have hgood : Good (wordsS s) e2 := steps_good hst1 hst2
      obtain ⟨da, dl, dc, ma, ml, mc, hb, hr, h1, h2, he⟩ := hev
      refine ⟨_, hb.cell _, _, hb.cell _, _, hb.cell _, _, hb.cell _, _, hb.cell _, _, hb.cell _, _, hb.cell _, _, hb.cell _, _, hb.cell _, _, hb.cell _, _, hb.cell _, _, _, _, hb.cell _, _, hb.cell _, _, _, _, hb.cell _, ?_⟩
      refine (print_ok hr he (gk hx)).mono ?_
      rintro _ H76 ⟨rfl, hx76⟩
      have hb76 := hb.ext hx76 (by simp)
      have hx276 := hx.trans hx76
      have hr1 : Blk H76 b1 (evL zeroE none 0 0 none 0 0) := hn1.blk.ext hx276 (by simp)
      have hxall : Ext [] H H76 := hn1.ext.trans hx276
      have fin : ∀ {H' : Heap} {vs : List Value}, Puts H76 b1 0 vs H' → Ext [] H H' := fun hp => hxall.trans' hp.ext (fun i hi => by simp only [List.mem_singleton] at hi; left; omega)
      have zero : ∀ {H' : Heap}, Puts H76 b1 0 (evL zeroE none 0 0 none 0 0) H' → Blk H' b1 (evL zeroE none 0 0 none 0 0) := fun hp => hp.blk hr1 (by simp [evL])
      refine ⟨_, _, rfl, fun hf => ⟨hr1.cells _ _ (by simp [evL]), fun H79 hp => ?_⟩, fun ht => ⟨fun hne => ⟨hr1.cells _ _ (by simp [evL]), fun H98 hp => ?_⟩, fun heq => ?_⟩⟩
      · have hz := zero hp
        refine ⟨_, hz.cell _, _, hz.cell _, _, hz.cell _, _, hz.cell _, _, hz.cell _, _, hz.cell _, _, hz.cell _, _, hz.cell _, _, hz.cell _, _, hz.cell _, _, hz.cell _, _, _, _, hz.cell _, _, hz.cell _, _, _, _, hz.cell _, .inr ⟨rfl, good_none hgood (fun h => by rw [h] at hf; cases hf)⟩, fin hp⟩
      · have hz := zero hp
        refine ⟨_, hz.cell _, _, hz.cell _, _, hz.cell _, _, hz.cell _, _, hz.cell _, _, hz.cell _, _, hz.cell _, _, hz.cell _, _, hz.cell _, _, hz.cell _, _, hz.cell _, _, _, _, hz.cell _, _, hz.cell _, _, _, _, hz.cell _, .inr ⟨rfl, good_none hgood (fun h => by rw [h] at hne; exact hne rfl)⟩, fin hp⟩
      · refine ⟨_, hb76.cell _, _, hb76.cell _, _, hb76.cell _, _, hb76.cell _, _, hb76.cell _, _, hb76.cell _, _, hb76.cell _, _, hb76.cell _, _, hb76.cell _, _, hb76.cell _, _, hb76.cell _, _, _, _, hb76.cell _, _, hb76.cell _, _, _, _, hb76.cell _, hr1.cells _ _ (by simp [evL]), fun H135 hp => ?_⟩
        have hz : Blk H135 b1 (evL e2 da dl dc ma ml mc) := hp.blk hr1 (by simp [evL])
        have hnd : ∀ {x : Option Addr} {n' c'' : Nat} {bs : List UInt8}, SRow H56 1 n' (.slice x n' c'') (bytesV bs) → SRow H135 1 n' (.slice x n' c'') (bytesV bs) := by
          intro x n' c'' bs hrow
          exact srow_off (srow_ext hrow hx76) hr1 hp.ext
        refine ⟨_, hz.cell _, _, hz.cell _, _, hz.cell _, _, hz.cell _, _, hz.cell _, _, hz.cell _, _, hz.cell _, _, hz.cell _, _, hz.cell _, _, hz.cell _, _, hz.cell _, _, _, _, hz.cell _, _, hz.cell _, _, _, _, hz.cell _, .inl ⟨e2, da, dl, dc, ma, ml, mc, rfl, ⟨hnd hr.data, hnd hr.mask⟩, he, hgood, ?_⟩, fin hp⟩
        have hb1 : (printE e2).2 = true := by
          cases h : (printE e2).2 with
          | true => rfl
          | false => exact absurd h ht
        exact Prod.ext (Classical.not_not.1 heq) hb1
end Go.Proofs
end

section
open Go Go.Vc
namespace Go.Proofs

/-! ### The document's line -/
theorem ba_app (l m : List UInt8) : (ByteArray.mk l.toArray) ++ (ByteArray.mk m.toArray) = ByteArray.mk (l ++ m).toArray := by
  apply ByteArray.ext
  rw [ByteArray.data_append]
  simp
theorem ba_eta (s : ByteArray) : ByteArray.mk s.data.toList.toArray = s := by
  apply ByteArray.ext; simp
theorem bad_snoc (ws : List WF) (w : WF) : bad (ws ++ [w]) = (bad ws || w.2) := by simp [bad]

/-- The document's line holds these words. -/
structure RSt (H : Heap) (b : Nat) (ws : List WF) : Prop where
  at_ : ∃ s : ByteArray, Blk H b [.string s, .bool (bad ws)] ∧ s.size ≤ ws.length * 4000000000 ∧ (bad ws = false → s = joinW (ws.map (·.1)) ∧ ∀ w ∈ ws, w.1.size ≠ 0)
  few : ws.length ≤ 1000000

theorem joinW_zero {l : List ByteArray} (h : ∀ w ∈ l, w.size ≠ 0) : joinW l = ⟨#[]⟩ ↔ l = [] := by
  constructor
  · intro e
    cases l with
    | nil => rfl
    | cons w r =>
      exfalso
      have hw := h w (by simp)
      have hl : (joinL ((w :: r).map fun w => w.data.toList)) = [] := by
        have := congrArg (fun b : ByteArray => b.data.toList) e
        simpa [joinW] using this
      have hne : w.data.toList ≠ [] := fun h0 => hw (by
        have : w.data.size = 0 := by rw [← Array.length_toList, h0]; rfl
        exact this)
      cases r with
      | nil => exact hne (by simpa [joinL] using hl)
      | cons v r => simp [joinL] at hl
  · rintro rfl; rfl

theorem RSt.new {H : Heap} {b : Nat} (h : Blk H b [.string ⟨#[]⟩, .bool false]) : RSt H b [] := ⟨⟨_, h, Nat.le_of_eq rfl, fun _ => ⟨rfl, by simp⟩⟩, by simp⟩
theorem RSt.ext {M : List Nat} {H H' : Heap} {b : Nat} {ws : List WF} (h : RSt H b ws) (hx : Ext M H H') (hm : b ∉ M) : RSt H' b ws := by
  obtain ⟨⟨s, h1, h2⟩, h3⟩ := h
  exact ⟨⟨s, h1.ext hx hm, h2⟩, h3⟩
theorem RSt.more {H H' : Heap} {b : Nat} {ws : List WF} (h : RSt H b ws) (hx : Ext [] H H') : RSt H' b ws := h.ext hx (by simp)
theorem RSt.lt {H : Heap} {b : Nat} {ws : List WF} (h : RSt H b ws) : b < H.size := by obtain ⟨⟨s, h1, _⟩, _⟩ := h; exact h1.lt

section
variable {H : Heap} {b : Nat} {ws : List WF}

theorem rword_ok (h : RSt H b ws) (x : ByteArray) (hx : x.size ≤ 3000000000) (h0 : x.size ≠ 0) (hl : ws.length < 1000000) : Does Tryz.prog 17 [.pointer (some ⟨b, 0, none⟩), .string x] H fun v H' => v = .tuple #[] ∧ RSt H' b (ws ++ [(x, false)]) ∧ Ext [b] H H' := by
  obtain ⟨⟨s, hb, hs, hw⟩, hf⟩ := h
  have hbl := hb.lt
  have ebad : bad (ws ++ [(x, false)]) = bad ws := by rw [bad_snoc]; simp
  have es32 : (ByteArray.mk #[32]).size = 1 := rfl
  refine Fn_of_vc Tryz.mixed (RWordV _ _ _ _) ?_
  refine ⟨b, 0, rfl, s, by rw [hb.cell]; rfl, fun hne => ?_, fun he => ?_⟩
  · refine ⟨b, 0, rfl, s, by rw [hb.cell]; rfl, ⟨by omega, by omega⟩, b, 0, rfl, hb.cells _ _ (by simp), fun H9 hp => ?_⟩
    have hb9 := hp.blk hb (by simp)
    simp only [splice, List.take_zero, List.nil_append, List.length_cons, List.length_nil, Nat.zero_add, List.drop_succ_cons, List.drop_zero] at hb9
    have esz : (s ++ ByteArray.mk #[32]).size = s.size + 1 := by rw [ByteArray.size_append, es32]
    refine ⟨b, 0, rfl, _, by rw [hb9.cell]; rfl, ⟨by omega, by omega⟩, b, 0, rfl, hb9.cells _ _ (by simp), fun H15 hp2 => ?_⟩
    have hb15 := hp2.blk hb9 (by simp)
    simp only [splice, List.take_zero, List.nil_append, List.length_cons, List.length_nil, Nat.zero_add, List.drop_succ_cons, List.drop_zero, List.cons_append] at hb15
    refine ⟨rfl, ⟨⟨_, by rw [ebad]; exact hb15, ?_, fun hbd => ?_⟩, by simp; omega⟩, hp.ext.trans hp2.ext⟩
    · rw [ByteArray.size_append, esz, List.length_append]; simp; omega
    · rw [ebad] at hbd
      obtain ⟨e1, e2⟩ := hw hbd
      refine ⟨?_, ?_⟩
      · have hws : ws.map (·.1) ≠ [] := fun h => hne (by rw [e1, h]; rfl)
        rw [e1, List.map_append, List.map_cons, List.map_nil]
        unfold joinW
        rw [List.map_append, List.map_cons, List.map_nil, joinL_snoc _ _ (by simpa using hws)]
        rw [show (ByteArray.mk #[32]) = ByteArray.mk [32].toArray from rfl, ba_app]
        conv => lhs; rw [← ba_eta x]
        rw [ba_app]
        simp
      · intro w hw'
        rcases List.mem_append.1 hw' with hw' | hw'
        · exact e2 w hw'
        · simp only [List.mem_singleton] at hw'; rw [hw']; exact h0
  · have he' := Classical.not_not.1 he
    refine ⟨b, 0, rfl, s, by rw [hb.cell]; rfl, ⟨by omega, by omega⟩, b, 0, rfl, hb.cells _ _ (by simp), fun H15 hp2 => ?_⟩
    have hb15 := hp2.blk hb (by simp)
    simp only [splice, List.take_zero, List.nil_append, List.length_cons, List.length_nil, Nat.zero_add, List.drop_succ_cons, List.drop_zero, List.cons_append] at hb15
    refine ⟨rfl, ⟨⟨_, by rw [ebad]; exact hb15, ?_, fun hbd => ?_⟩, by simp; omega⟩, hp2.ext⟩
    · rw [ByteArray.size_append, List.length_append]; simp; omega
    · rw [ebad] at hbd
      obtain ⟨e1, e2⟩ := hw hbd
      have hnil : ws = [] := by
        have := (joinW_zero (l := ws.map (·.1)) (fun w hw' => by
          obtain ⟨x, hx, rfl⟩ := List.mem_map.1 hw'
          exact e2 x hx)).1 (by rw [← e1, he'])
        simpa using this
      subst hnil
      refine ⟨?_, by simpa using h0⟩
      rw [he']
      show ByteArray.mk #[] ++ x = joinW [x]
      unfold joinW
      conv => lhs; rw [show ByteArray.mk #[] = ByteArray.mk [].toArray from rfl, ← ba_eta x, ba_app]
      simp [joinL]

theorem RSt.badset (h : RSt H b ws) (w : ByteArray) {H' : Heap} (hp : Puts H b (0 + 1) [.bool true] H') (hl : ws.length < 1000000) : RSt H' b (ws ++ [(w, true)]) ∧ Ext [b] H H' := by
  obtain ⟨⟨s, hb, hs, hw⟩, hf⟩ := h
  have hb9 := hp.blk hb (by simp)
  have e1 : (ws ++ [(w, true)]).length = ws.length + 1 := by simp
  have hs1 : s.size ≤ (ws.length + 1) * 4000000000 := Nat.le_trans hs (Nat.mul_le_mul_right _ (Nat.le_succ _))
  refine ⟨⟨⟨s, ?_, by rw [e1]; exact hs1, fun hbd => by rw [bad_snoc, Bool.or_true] at hbd; cases hbd⟩, by rw [e1]; exact hl⟩, hp.ext⟩
  rw [bad_snoc]
  simpa [splice] using hb9
theorem RSt.wr (h : RSt H b ws) : hcell H b (0 + 1) = some (.bool (bad ws)) := by
  obtain ⟨⟨s, hb, _⟩, _⟩ := h
  rw [hb.cell]; rfl
theorem RSt.cellw (h : RSt H b ws) : Cells H b (0 + 1) 1 := by
  obtain ⟨⟨s, hb, _⟩, _⟩ := h
  exact hb.cells _ _ (by simp)
/-- The flag is set again. -/
theorem RSt.same (h : RSt H b ws) {H' : Heap} (hp : Puts H b (0 + 1) [.bool (bad ws)] H') : RSt H' b ws ∧ Ext [b] H H' := by
  obtain ⟨⟨s, hb, hs⟩, hf⟩ := h
  have hb9 := hp.blk hb (by simp)
  refine ⟨⟨⟨s, ?_, hs⟩, hf⟩, hp.ext⟩
  simpa [splice] using hb9

/-- A line in which something is already bad may say anything more. -/
theorem RSt.turn {w w' : WF} (h : RSt H b (ws ++ [w])) (h2 : w.2 = w'.2) (h1 : w'.2 = false → bad ws = false → w = w') : RSt H b (ws ++ [w']) := by
  obtain ⟨⟨s, hb, hs, hw⟩, hf⟩ := h
  have e : bad (ws ++ [w']) = bad (ws ++ [w]) := by rw [bad_snoc, bad_snoc, h2]
  refine ⟨⟨s, by rw [e]; exact hb, by simpa using hs, fun hbd => ?_⟩, by simpa using hf⟩
  have hbd' := hbd
  rw [bad_snoc, Bool.or_eq_false_iff] at hbd
  rw [← h1 hbd.2 hbd.1]
  rw [e] at hbd'
  exact hw hbd'

/-! ### Digits -/
theorem rdig_ok : ∀ (m : Nat) (n : Nat), n < m → n < 9223372036854775808 → ∀ H : Heap, Does Tryz.prog 45 [.int .i64 (n : Int)] H fun v H' => v = .string ⟨(decL n).toArray⟩ ∧ Ext [] H H'
  | 0, _, h, _, _ => by omega
  | m + 1, n, h, hn, H => by
    refine Fn_of_vc Tryz.mixed (RDigV _ _ _) ?_
    have dig : ∀ (d : Nat), d < 10 → IntKind.wrap .u8 (48 + (d : Int)) = ((UInt8.ofNat (48 + d)).toNat : Int) := fun d hd => by
      rw [wrap_u8, dig_nat hd]; omega
    have row : ∀ (H b2 : Nat) (H1 H3 : Heap) (d : Nat), d < 10 → New H1 b2 [.int .u8 (IntKind.wrap .u8 (48 + (d : Int)))] 5 H3 → SRow H3 1 1 (.slice (some ⟨b2, 0, none⟩) 1 1) ([UInt8.ofNat (48 + d)].map fun (b : UInt8) => Value.int .u8 b.toNat) := fun _ b2 H1 H3 d hd hnw => by
      rw [dig d hd] at hnw
      refine ⟨rfl, .inr rfl, fun i u hi => ?_⟩
      show hcell H3 b2 (0 + i) = some u
      rw [Nat.zero_add, hnw.blk.cell]; exact hi
    refine ⟨fun h10 => ⟨⟨by omega, by omega⟩, fun q1 e1 => ?_⟩, fun h10 => ⟨by decide, fun q5 e5 => ⟨by decide, fun q6 e6 => ?_⟩⟩⟩
    · subst e1
      intro b2 H3 hnw
      refine ⟨[UInt8.ofNat (48 + n)], row 0 b2 H H3 n (by omega) hnw, ?_, hnw.ext⟩
      rw [decL_step n, if_pos (by omega)]
    · have e5' : q5 = ((n / 10 : Nat) : Int) := by rw [e5, wrap_tdiv (by omega) (by omega) (by omega)]; omega
      have e6' : q6 = ((n % 10 : Nat) : Int) := by rw [e6, tmod_pos (by omega)]; omega
      subst e5' e6'
      have hd : n % 10 < 10 := Nat.mod_lt _ (by decide)
      have hval : (ByteArray.mk (decL (n / 10)).toArray) ++ ByteArray.mk (List.toArray [UInt8.ofNat (48 + n % 10)]) = ⟨(decL n).toArray⟩ := by
        rw [ba_app, decL_step n, if_neg (by omega)]
      have hsz : (decL (n / 10)).length ≤ 19 := decL_len 19 _ (by omega) (by decide)
      have esz : (ByteArray.mk (decL (n / 10)).toArray).size = (decL (n / 10)).length := by show (List.toArray _).size = _; simp
      have esz1 : (ByteArray.mk (List.toArray [UInt8.ofNat (48 + n % 10)])).size = 1 := rfl
      refine ⟨⟨by omega, by omega⟩, fun q7 e7 => ?_⟩
      subst e7
      refine ⟨(rdig_ok m (n / 10) (by omega) (by omega) H).mono ?_, ?_⟩
      · rintro _ H9 ⟨rfl, hx9⟩
        refine ⟨_, rfl, ?_⟩
        intro b11 H12 hnw
        refine ⟨_, row 0 b11 H9 H12 _ hd hnw, ⟨by omega, by omega⟩, ?_, hx9.trans hnw.ext⟩
        rw [hval]
      · intro b14 H15 hnw
        have hr := row 0 b14 H H15 _ hd hnw
        refine ⟨_, hr, (rdig_ok m (n / 10) (by omega) (by omega) H15).mono ?_⟩
        rintro _ H18 ⟨rfl, hx18⟩
        refine ⟨_, rfl, hr.ext hx18 (by simp), ⟨by omega, by omega⟩, ?_, hnw.ext.trans hx18⟩
        rw [hval]

theorem intS_nat (n : Nat) : intS (n : Int) = ⟨(decL n).toArray⟩ := by rw [intS_pos (by omega), Int.toNat_natCast]

theorem rnum_ok (h : RSt H b ws) {n : Int} (hn : In64 n) (hl : ws.length < 1000000) : Does Tryz.prog 20 [.pointer (some ⟨b, 0, none⟩), .int .i64 n] H fun v H' => v = .tuple #[] ∧ RSt H' b (ws ++ [numF n]) ∧ Ext [b] H H' := by
  refine Fn_of_vc Tryz.mixed (RNumV _ _ _ _) ?_
  refine ⟨fun h0 => ⟨b, 0, rfl, h.cellw, fun H3 hp => ?_⟩, fun h0 => ⟨fun h1 => ⟨b, 0, rfl, h.cellw, fun H3 hp => ?_⟩, fun h1 => ?_⟩⟩
  · have := h.badset (intS n) hp hl
    refine ⟨rfl, ?_, this.2⟩
    have e : numF n = (intS n, true) := by unfold numF; simp [h0]
    rw [e]; exact this.1
  · have := h.badset (intS n) hp hl
    refine ⟨rfl, ?_, this.2⟩
    have e : numF n = (intS n, true) := by unfold numF; simp [h1]
    rw [e]; exact this.1
  · obtain ⟨k, rfl⟩ : ∃ k : Nat, n = k := ⟨n.toNat, by omega⟩
    refine (rdig_ok (k + 1) k (by omega) (by omega) H).mono ?_
    rintro _ H8 ⟨rfl, hx8⟩
    have hsz := intS_size hn
    rw [intS_nat] at hsz
    refine ⟨_, rfl, (rword_ok (h.more hx8) _ (by omega) hsz.2 hl).mono ?_⟩
    rintro _ H11 ⟨rfl, h11, hx11⟩
    refine ⟨rfl, rfl, ?_, hx8.any.trans hx11⟩
    have e : numF (k : Int) = (⟨(decL k).toArray⟩, false) := by unfold numF; rw [intS_nat]; simp; omega
    rw [e]; exact h11


theorem rhex_ok {a : Option Addr} {n c : Nat} {bs : List UInt8} (hr : SRow H 1 n (.slice a n c) (bytesV bs)) (hn : n ≤ 1000000000) : Does Tryz.prog 43 [.slice a n c] H fun v H' => v = .string (hexB bs) ∧ H = H' := by
  have hl := srow_len hr
  rw [bytesV_length] at hl
  refine Fn_of_vc Tryz.mixed (RHexV _ _ _ _ _) ?_
  refine ⟨fun s i H' => ∃ k : Nat, i = k ∧ k ≤ n ∧ H' = H ∧ s = hexB (bs.take k), fun s i _ => n - i.toNat, ⟨0, rfl, by omega, rfl, rfl⟩, ?_⟩
  rintro _ _ H5 ⟨k, rfl, hk, rfl, rfl⟩
  refine ⟨fun hlt => ?_, fun hge => ?_⟩
  · obtain ⟨bb, o, ha, hc⟩ := srow_byte hr (i := k) (by omega)
    have hc' : hcell H5 bb (o + (Int.toNat (k : Int))) = some (.int .u8 ((bs.getD k 0).toNat : Int)) := by rw [Int.toNat_natCast]; exact hc
    have c0 := (bs.getD k 0).toNat_lt
    have e16 : ∀ q : Int, q = IntKind.wrap .u8 (Int.tdiv ((bs.getD k 0).toNat : Int) 16) → q = ((bs.getD k 0).toNat / 16 : Nat) := fun q h => by
      rw [h, wrap_u8, Int.tdiv_eq_ediv_of_nonneg (by omega)]; omega
    have em : ∀ q : Int, q = Int.tmod ((bs.getD k 0).toNat : Int) 16 → q = ((bs.getD k 0).toNat % 16 : Nat) := fun q h => by
      rw [h, tmod_pos (by omega)]; omega
    have hs16 : ((ByteArray.mk #[48, 49, 50, 51, 52, 53, 54, 55, 56, 57, 97, 98, 99, 100, 101, 102]).size : Int) = 16 := rfl
    have hh := hexB_size (bs.take k)
    rw [List.length_take] at hh
    refine ⟨by omega, hlt, bb, o, ha, _, hc', by decide, fun q9 e9 => ⟨by omega, hlt, bb, o, ha, _, hc', by decide, fun q13 e13 q14 e14 => ?_⟩⟩
    have e9' := e16 q9 e9
    have e13' := e16 q13 e13
    subst e9' e13'
    have e14' : q14 = (((bs.getD k 0).toNat / 16 + 1 : Nat) : Int) := by rw [e14, wrap_u8]; omega
    subst e14'
    rw [Int.toNat_natCast, Int.toNat_natCast, dig_cut _ (by omega)]
    have es1 : ∀ x : UInt8, (ByteArray.mk #[x]).size = 1 := fun _ => rfl
    refine ⟨by omega, by omega, by omega, ⟨by omega, by rw [es1]; omega⟩, by omega, hlt, bb, o, ha, _, hc', by decide, fun q18 e18 => ⟨by omega, hlt, bb, o, ha, _, hc', by decide, fun q22 e22 q23 e23 => ?_⟩⟩
    have e18' := em q18 e18
    have e22' := em q22 e22
    subst e18' e22'
    have e23' : q23 = (((bs.getD k 0).toNat % 16 + 1 : Nat) : Int) := by rw [e23, wrap_u8]; omega
    subst e23'
    rw [Int.toNat_natCast, Int.toNat_natCast, dig_cut _ (by omega)]
    refine ⟨by omega, by omega, by omega, ⟨by omega, by rw [ByteArray.size_append, es1, es1]; omega⟩, ⟨by omega, by omega⟩, ⟨k + 1, by omega, by omega, rfl, ?_⟩, by dsimp only; omega⟩
    have e : bs.take (k + 1) = bs.take k ++ [bs.getD k 0] := by
      rw [List.take_add_one]
      simp [List.getD_eq_getElem?_getD, List.getElem?_eq_getElem (show k < bs.length by omega)]
    rw [e]
    unfold hexB hexOf
    rw [show ∀ x : UInt8, ByteArray.mk #[x] = ByteArray.mk [x].toArray from fun _ => rfl, show ∀ x : UInt8, ByteArray.mk #[x] = ByteArray.mk [x].toArray from fun _ => rfl, ba_app, ba_app]
    simp [hex2, List.flatMap_append]
  · have hk' : k = n := by omega
    subst hk'
    rw [List.take_of_length_le (by omega)]
    exact ⟨rfl, rfl⟩
end
end Go.Proofs
end

