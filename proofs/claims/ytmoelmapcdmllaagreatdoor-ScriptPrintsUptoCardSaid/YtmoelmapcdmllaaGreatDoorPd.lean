/-
  The contracts of the functions that the law reaches, part 4. No condition.
-/
import Derived.Test.YtmoelmapcdmllaaGreatDoorPc
import Derived.Test.YtmoelmapcdmllaaGreatDoorProg
import Derived.Test.YtmoelmapcdmllaaGreatDoorVb

section
open Go Go.Vc
namespace Go.Proofs
theorem srow_dropN {H : Heap} {n m : Nat} {a : Option Addr} {l c l' c' : Nat} {xs : List Value} (h : SRow H m n (.slice a l c) xs) {k : Nat} (hk : k ≤ n) (hc : n ≤ c) : SRow H m (n - k) (.slice (if c = k then a else Option.map (fun x => Addr.add x (k * m)) a) l' c') (xs.drop (k * m)) := by
  obtain ⟨h1, h2⟩ := h
  have hkm : k * m ≤ n * m := Nat.mul_le_mul_right _ hk
  have hl : (xs.drop (k * m)).length = (n - k) * m := by rw [List.length_drop, Nat.sub_mul]; omega
  refine ⟨hl, ?_⟩
  by_cases hck : c = k
  · rw [if_pos hck]
    have hnk : n = k := by omega
    have hnil : xs.drop (k * m) = [] := List.drop_eq_nil_of_le (by rw [h1, hnk]; exact Nat.le_refl _)
    rw [hnil]
    cases a with
    | none => rfl
    | some ad => exact ⟨.inl rfl, fun j u hj => by simp at hj⟩
  · rw [if_neg hck]
    cases a with
    | none =>
      have h2 : xs = [] := h2
      subst h2
      exact List.drop_nil
    | some ad =>
      obtain ⟨b, o, sp⟩ := ad
      obtain ⟨h3, h4⟩ := h2
      simp only [Option.map_some]
      by_cases hnil : xs = []
      · refine ⟨.inl (by rw [hnil]; simp), fun j u hj => by rw [hnil] at hj; simp at hj⟩
      · have hsp : sp = none := by
          rcases h3 with h3 | h3
          · exact absurd h3 hnil
          · exact h3
        subst hsp
        rw [add_none]
        refine ⟨.inr rfl, fun j u hj => ?_⟩
        rw [List.getElem?_drop] at hj
        have := h4 _ u hj
        show hcell H b (o + k * m + j) = some u
        rw [Nat.add_assoc]
        exact this

set_option maxHeartbeats 1000000 in
theorem EvAt.setCl {H H' : Heap} {b : Nat} {e e2 : Ev} (h : EvAt H b e) {da : Option Addr} {dl dc : Nat} (hr2 : SRow H 1 dl (.slice da dl dc) (bytesV e2.call.data)) (ho2 : b ∉ blkOf da) (he2 : EvOk e2) (hp : Puts H b (0 + 4) (clL e2.call da dl dc) H') : EvAt H' b { e with call := e2.call } := by
  obtain ⟨xa, xl, xc, ma, ml, mc, hb, hr, h1, h2, he⟩ := h
  exact ⟨da, dl, dc, ma, ml, mc, hp.blk hb (by simp [evL, clL]), ⟨hr2.ext hp.ext (apart ho2), hr.mask.ext hp.ext (apart h2)⟩, ho2, h2,
    ⟨he.name, he.to, he.more, he2.path, he2.cto, he2.data, he.mask, he.kind, he.n, he2.ckind, he2.mode, he2.pos, he2.cn, he2.time⟩⟩
theorem strsV_drop (ws : List ByteArray) (k : Nat) : (strsV ws).drop (k * 1) = strsV (ws.drop k) := by
  unfold strsV
  rw [Nat.mul_one, List.map_drop]
theorem drop_min (ws : List ByteArray) : ws.drop (min 2 ws.length) = ws.drop 2 := by
  by_cases h : 2 ≤ ws.length
  · rw [Nat.min_eq_left h]
  · rw [Nat.min_eq_right (by omega), List.drop_length, List.drop_eq_nil_of_le (by omega)]

theorem rparseS_ok (s : ByteArray) (hs : s.size ≤ 1000000000) (H : Heap) : Does Tryz.prog 10 [.string s] H fun v H' => Parsed s v H' ∧ Ext [] H H' := by
  refine Fn_of_vc Tryz.mixed (RParseEV _ _ _) ?_
  intro b1 H2 hn1
  have e1 := hn1.eq
  have s2 := hn1.size
  refine (rwords_ok s hs H2).mono ?_
  rintro _ H4 ⟨a, n, c, rfl, hown, hnew, hx4⟩
  have s4 := hx4.size
  have hlen : (wordsS s).length = n := by have := hown.1; unfold strsV at this; rw [List.length_map] at this; omega
  have hlc : n ≤ c := hown.2.1
  have hw4 : SRow H4 1 n (.slice a n c) (strsV (wordsS s)) := hown.row _ _
  have hszs : ∀ w ∈ wordsS s, w.size ≤ 1000000000 := fun w hw => Nat.le_trans (wordsS_size s w hw) hs
  refine ⟨a, n, c, rfl, ?_⟩
  intro b8 H9 hn8
  have e8 := hn8.eq
  have st9 : PE H4 H9 b8 a n c (wordsS s) 0 [] := ⟨⟨zeroE, new_ev hn8, rfl, by simp⟩, by omega, hn8.ext, hw4, hszs⟩
  refine ⟨fun m H' => 1 ≤ m ∧ m ≤ 12 ∧ ∃ k : Int, PE H4 H' b8 a n c (wordsS s) k [] ∧ ((1 ≤ k ∧ k < m ∧ (formK k).1 = (wordsS s).getD 0 noW) ∨ (k = 0 ∧ ∀ j : Int, 1 ≤ j → j < m → (formK j).1 ≠ (wordsS s).getD 0 noW)), fun m _ => (12 - m).toNat, ⟨by decide, by decide, 0, st9, .inr ⟨rfl, fun j h1 h2 => by omega⟩⟩, ?_⟩
  rintro m H13 ⟨m1, m2, k, st, hk⟩
  refine ⟨fun hle => ?_, fun hgt => ?_⟩
  · refine ⟨fun H' => ∃ k : Int, PE H4 H' b8 a n c (wordsS s) k [] ∧ ((1 ≤ k ∧ k < m + 1 ∧ (formK k).1 = (wordsS s).getD 0 noW) ∨ (k = 0 ∧ ∀ j : Int, 1 ≤ j → j < m + 1 → (formK j).1 ≠ (wordsS s).getD 0 noW)), ?_, ?_⟩
    · have hpos : 0 < (wordsS s).length := by
        cases h : wordsS s with
        | nil => exact absurd h (wordsS_ne s)
        | cons w r => simp
      obtain ⟨b, o, ha, hc⟩ := st.words.at (j := 0) (u := .string ((wordsS s).getD 0 noW)) (by simp [strsV, List.getD_eq_getElem?_getD, List.getElem?_eq_getElem hpos])
      refine ⟨by decide, by omega, b, o, ha, _, hc, ?_⟩
      refine (evword_ok m H13).mono ?_
      rintro _ _ ⟨rfl, rfl⟩
      refine ⟨_, rfl, ⟨hc, trivial⟩, fun heq => ⟨st.cells0, fun H23 hp => ?_⟩, fun hne => ?_⟩
      · exact ⟨m, st.setk ⟨by omega, by omega⟩ hp, .inl ⟨m1, by omega, heq⟩⟩
      · refine ⟨k, st, ?_⟩
        rcases hk with ⟨h1, h2, h3⟩ | ⟨h1, h2⟩
        · exact .inl ⟨h1, by omega, h3⟩
        · refine .inr ⟨h1, fun j j1 j2 => ?_⟩
          by_cases hj : j = m
          · subst hj; exact hne
          · exact h2 j j1 (by omega)
    · rintro H24 ⟨k', st', hk'⟩
      exact ⟨⟨by omega, by omega⟩, ⟨by omega, by omega, k', st', hk'⟩, by dsimp only; omega⟩
  · have hkc : KindK k ((wordsS s).getD 0 noW) := by
      rcases hk with ⟨h1, h2, h3⟩ | ⟨h1, h2⟩
      · exact .inl ⟨h1, by omega, h3⟩
      · exact .inr ⟨h1, fun j j1 j2 => h2 j j1 (by omega)⟩
    have hkr : k = 1 ∨ k = 0 ∨ k = 2 ∨ k = 3 ∨ k = 4 ∨ k = 5 ∨ k = 6 ∨ k = 7 ∨ k = 8 ∨ k = 9 ∨ k = 10 ∨ k = 11 := by
      rcases hk with ⟨h1, h2, h3⟩ | ⟨h1, h2⟩ <;> omega
    refine ⟨fun H' => ∃ e, EvAt H' b8 e ∧ RefE (wordsS s) e ∧ Ext [] H4 H', ?_, ?_⟩
    · refine ⟨_, st.kindc, ?_⟩
      rcases hkr with hk0 | hk0 | hk0 | hk0 | hk0 | hk0 | hk0 | hk0 | hk0 | hk0 | hk0 | hk0
      · refine ⟨fun _ => ?_, fun h => absurd hk0 h⟩
        refine pe_name st 1 (by rfl) (by simp) fun H31 c31 => ?_
        have emin : Int.toNat (min 2 (n : Int)) = min 2 n := by omega
        rw [emin]
        refine ⟨by omega, by omega, fun a32 ha32 => ?_⟩
        have hw32 : SRow H31 1 (n - min 2 n) (.slice a32 (n - min 2 n) (c - min 2 n)) (strsV ((wordsS s).drop 2)) := by
          have := srow_dropN c31.words (k := min 2 n) (l' := n - min 2 n) (c' := c - min 2 n) (by omega) hlc
          rw [strsV_drop] at this
          rw [ha32]
          have e := drop_min (wordsS s)
          rw [hlen] at e
          rw [e] at this
          exact this
        refine (rpcall_ok hw32 (fun w hw => hszs w (List.mem_of_mem_drop hw))).mono ?_
        rintro _ H34 ⟨e2, da, dl, dc, rfl, hr2, hnb, he2, hrc, hx34⟩
        obtain ⟨e, hev, hke, hfit⟩ := c31.at_
        have hbl := hev.lt
        have hev34 := hev.more hx34
        refine ⟨_, _, _, _, _, _, _, _, _, _, rfl, ?_, fun H45 hp => ?_⟩
        · obtain ⟨xa, xl, xc, ma, ml, mc, hb, _⟩ := hev34
          exact hb.cells _ _ (by simp [evL])
        · have ho2 : b8 ∉ blkOf da := fun hm => by have := hnb _ hm; omega
          refine ⟨{ e with call := e2.call }, hev34.setCl hr2 ho2 he2 hp, ⟨?_, ?_, fun _ => hrc.of_call rfl⟩, ext_put (c31.ext.trans hx34) (by omega) hp⟩
          · show KindK e.kind _
            rw [hke]; exact hkc
          · show ∀ p ∈ zipW (formK e.kind).2 (wordsS s) 1, _
            rw [hke, hk0]
            intro p hp'
            have hp2 : p = (.name, (wordsS s).getD 1 noW) := by simpa [formK, zipW] using hp'
            subst hp2
            have := hfit (.name, (wordsS s).getD 1 noW) (by simp)
            intro e0 ht0 hw0 hb0
            exact this e0 ht0 hw0 hb0
      · repeat' first
          | exact PE.fin st (by rw [hk0]; exact fun p hp => absurd hp (by simp [formK, zipW])) hkc (by omega)
          | refine ⟨fun h => absurd h (by omega), fun _ => ?_⟩
      all_goals
        repeat' first
          | exact PE.fin (by assumption) (by rw [hk0]; exact fun p hp => hp) hkc (by omega)
          | refine ⟨fun h => absurd h (by omega), fun _ => ?_⟩
          | refine ⟨fun _ => ?_, fun h => absurd hk0 h⟩
          | refine pe_name (by assumption) 1 (by rfl) (by simp) fun H' c' => ?_
          | refine pe_to (by assumption) 2 (by rfl) (by simp) fun H' c' => ?_
          | refine pe_more (by assumption) 3 (by rfl) (by simp) fun H' c' => ?_
          | refine pe_n (by assumption) 1 (by rfl) (by simp) fun H' c' => ?_
          | refine pe_mask (by assumption) 1 (by rfl) (by simp) fun H' c' => ?_
    · rintro H56 ⟨e2, hev, hre, hx456⟩
      have hgood : Good (wordsS s) e2 := ref_good hre
      have hx : Ext [] H2 H56 := hx4.trans hx456
      obtain ⟨da, dl, dc, ma, ml, mc, hb, hr, h1, h2, he⟩ := hev
      refine ⟨_, hb.cell _, _, hb.cell _, _, hb.cell _, _, hb.cell _, _, hb.cell _, _, hb.cell _, _, hb.cell _, _, hb.cell _, _, hb.cell _, _, hb.cell _, _, hb.cell _, _, _, _, hb.cell _, _, hb.cell _, _, _, _, hb.cell _, ?_⟩
      refine (rprint_ok hr he).mono ?_
      rintro _ H76 ⟨rfl, hx76⟩
      have hb76 := hb.ext hx76 (by simp)
      have hx276 := hx.trans hx76
      have hr1 : Blk H76 b1 (evL zeroE none 0 0 none 0 0) := hn1.blk.ext hx276 (by simp)
      have hxall : Ext [] H H76 := hn1.ext.trans hx276
      have fin : ∀ {H' : Heap} {vs : List Value}, Puts H76 b1 0 vs H' → Ext [] H H' := fun hp => hxall.trans' hp.ext (fun i hi => by simp only [List.mem_singleton] at hi; left; omega)
      have zero : ∀ {H' : Heap}, Puts H76 b1 0 (evL zeroE none 0 0 none 0 0) H' → Blk H' b1 (evL zeroE none 0 0 none 0 0) := fun hp => hp.blk hr1 (by simp [evL])
      refine ⟨_, _, rfl, fun hf => ⟨hr1.cells _ _ (by simp [evL]), fun H79 hp => ?_⟩, fun ht => ⟨fun hne => ⟨hr1.cells _ _ (by simp [evL]), fun H98 hp => ?_⟩, fun heq => ?_⟩⟩
      · have hz := zero hp
        refine ⟨_, hz.cell _, _, hz.cell _, _, hz.cell _, _, hz.cell _, _, hz.cell _, _, hz.cell _, _, hz.cell _, _, hz.cell _, _, hz.cell _, _, hz.cell _, _, hz.cell _, _, _, _, hz.cell _, _, hz.cell _, _, _, _, hz.cell _, .inr ⟨rfl, good_none hgood (fun h => by rw [h] at hf; cases hf)⟩, fin hp⟩
      · have hz := zero hp
        refine ⟨_, hz.cell _, _, hz.cell _, _, hz.cell _, _, hz.cell _, _, hz.cell _, _, hz.cell _, _, hz.cell _, _, hz.cell _, _, hz.cell _, _, hz.cell _, _, hz.cell _, _, _, _, hz.cell _, _, hz.cell _, _, _, _, hz.cell _, .inr ⟨rfl, good_none hgood (fun h => by rw [h] at hne; exact hne rfl)⟩, fin hp⟩
      · refine ⟨_, hb76.cell _, _, hb76.cell _, _, hb76.cell _, _, hb76.cell _, _, hb76.cell _, _, hb76.cell _, _, hb76.cell _, _, hb76.cell _, _, hb76.cell _, _, hb76.cell _, _, hb76.cell _, _, _, _, hb76.cell _, _, hb76.cell _, _, _, _, hb76.cell _, hr1.cells _ _ (by simp [evL]), fun H135 hp => ?_⟩
        have hz : Blk H135 b1 (evL e2 da dl dc ma ml mc) := hp.blk hr1 (by simp [evL])
        have hnd : ∀ {x : Option Addr} {n' c'' : Nat} {bs : List UInt8}, SRow H56 1 n' (.slice x n' c'') (bytesV bs) → SRow H135 1 n' (.slice x n' c'') (bytesV bs) := by
          intro x n' c'' bs hrow
          exact srow_off (srow_ext hrow hx76) hr1 hp.ext
        refine ⟨_, hz.cell _, _, hz.cell _, _, hz.cell _, _, hz.cell _, _, hz.cell _, _, hz.cell _, _, hz.cell _, _, hz.cell _, _, hz.cell _, _, hz.cell _, _, hz.cell _, _, _, _, hz.cell _, _, hz.cell _, _, _, _, hz.cell _, .inl ⟨e2, da, dl, dc, ma, ml, mc, rfl, ⟨hnd hr.data, hnd hr.mask⟩, he, hgood, ?_⟩, fin hp⟩
        have hb1 : (printE e2).2 = true := by
          cases h : (printE e2).2 with
          | true => rfl
          | false => exact absurd h ht
        exact Prod.ext (Classical.not_not.1 heq) hb1
end Go.Proofs
end

section
open Go Go.Vc
namespace Go.Proofs
set_option maxRecDepth 100000
/-- pentimento/pentimentoref1.Plain -/
theorem RPlainV (x0 : Nat) (H : Heap) (R : Value → Heap → Prop) : Walk Tryz.prog 108 [] [(.float .f64 x0)] H R = (
 Does Tryz.prog 64 [(.float .f64 x0)] H fun v1 H2 => ∃ n3 : Int, v1 = (.int .u64 n3) ∧ (
 R (.float .f64 (Int.toNat n3)) H2)) := by kernel_rfl


/-- pentimento/pentimentoref9.PlainTime -/
theorem PlainTimeV (x0 : Nat) (H : Heap) (R : Value → Heap → Prop) : Walk Tryz.prog 90 [] [(.float .f64 x0)] H R = (
 Does Tryz.prog 108 [(.float .f64 x0)] H fun v1 H2 => ∃ f3 : Nat, v1 = (.float .f64 f3) ∧ (
 R (.float .f64 f3) H2)) := by kernel_rfl


/-- pentimento/pentimentohand.Name -/
theorem HNameV (x0 : Int) (H : Heap) (R : Value → Heap → Prop) : Walk Tryz.prog 86 [] [(.int .i64 x0)] H R = (
 Does Tryz.prog 8 [(.int .i64 x0), (.int .i64 6)] H fun v1 H2 => ∃ n3 : Int, v1 = (.int .i64 n3) ∧ (
 (0 : Int) ≤ n3 ∧ (n3 : Int) < (6 : Nat) ∧ (n3 : Int) < (6 : Nat) ∧ ∀ s4 : ByteArray, s4 = (List.getD [(ByteArray.mk #[97]), (ByteArray.mk #[98]), (ByteArray.mk #[99]), (ByteArray.mk #[100, 46, 101]), (ByteArray.mk #[102, 45, 49]), (ByteArray.mk #[255])] (Int.toNat n3) ByteArray.empty) → (
 R (.string s4) H2))) := by kernel_rfl


/-- pentimento/pentimentoplay.Name -/
theorem PNameV (x0 : Int) (H : Heap) (R : Value → Heap → Prop) : Walk Tryz.prog 46 [] [(.int .i64 x0)] H R = (
 ((53 : Int) ≠ 0) ∧
 ∀ q1 : Int, q1 = Int.tmod x0 53 → (
 ((((q1 : Int) = 52) → (
 R (.string (ByteArray.mk #[110, 111, 47, 110, 97, 109, 101])) H)) ∧ (¬ ((q1 : Int) = 52) → (
 Does Tryz.prog 8 [(.int .i64 x0), (.int .i64 7)] H fun v2 H3 => ∃ n4 : Int, v2 = (.int .i64 n4) ∧ (
 (0 : Int) ≤ n4 ∧ (n4 : Int) < (7 : Nat) ∧ (
 ∃ s5 : ByteArray, hcell H3 0 (0 + (Int.toNat n4)) = some (.string s5) ∧ (
 R (.string s5) H3)))))))) := by kernel_rfl


/-- pentimento/pentimentohand.Path -/
theorem PathV (x0 : Int) (H : Heap) (R : Value → Heap → Prop) : Walk Tryz.prog 85 [] [(.int .i64 x0)] H R = (
 Does Tryz.prog 8 [(.int .i64 x0), (.int .i64 1073741824)] H fun v1 H2 => ∃ n3 : Int, v1 = (.int .i64 n3) ∧ (
 Does Tryz.prog 86 [(.int .i64 n3)] H2 fun v4 H5 => ∃ s6 : ByteArray, v4 = (.string s6) ∧ (
 ((6 : Int) ≠ 0) ∧
 ∀ q7 : Int, q7 = IntKind.wrap .i64 (Int.tdiv n3 6) → (
 ((3 : Int) ≠ 0) ∧
 ∀ q8 : Int, q8 = Int.tmod q7 3 → (
 ∃ I9 : Int → ByteArray → Int → Heap → Prop, ∃ μ10 : Int → ByteArray → Int → Heap → Nat, (I9 n3 s6 q8 H5) ∧
 ∀ n11 : Int, ∀ s12 : ByteArray, ∀ n13 : Int, ∀ H14 : Heap, I9 n11 s12 n13 H14 → (
 ((((0 : Int) < n13) → (
 ((7 : Int) ≠ 0) ∧
 ∀ q15 : Int, q15 = IntKind.wrap .i64 (Int.tdiv n11 7) → (
 (In64 (((ByteArray.size s12) + (ByteArray.size (ByteArray.mk #[47])) : Nat) : Int)) ∧
 Does Tryz.prog 86 [(.int .i64 q15)] H14 fun v16 H17 => ∃ s18 : ByteArray, v16 = (.string s18) ∧ (
 (In64 (((ByteArray.size (s12 ++ (ByteArray.mk #[47]))) + (ByteArray.size s18) : Nat) : Int)) ∧
 (In64 (n13 - 1)) ∧
 (I9 q15 ((s12 ++ (ByteArray.mk #[47])) ++ s18) (n13 - 1) H17) ∧ μ10 q15 ((s12 ++ (ByteArray.mk #[47])) ++ s18) (n13 - 1) H17 < μ10 n11 s12 n13 H14)))) ∧ (¬ ((0 : Int) < n13) → (
 R (.string s12) H14))))))))) := by kernel_rfl


/-- pentimento/pentimentohand.said -/
theorem SaidPV (x0 : Int) (x1 : Int) (x2 : ByteArray) (H : Heap) (R : Value → Heap → Prop) : Walk Tryz.prog 65 [] [(.int .i64 x0), (.int .i64 x1), (.string x2)] H R = (
 Does Tryz.prog 85 [(.int .i64 x0)] H fun v1 H2 => ∃ s3 : ByteArray, v1 = (.string s3) ∧ (
 Does Tryz.prog 8 [(.int .i64 x1), (.int .i64 24)] H2 fun v4 H5 => ∃ n6 : Int, v4 = (.int .i64 n6) ∧ (
 ((((n6 : Int) = 0) → (
 (In64 (((ByteArray.size (ByteArray.mk #[47])) + (ByteArray.size s3) : Nat) : Int)) ∧
 R (.string ((ByteArray.mk #[47]) ++ s3)) H5)) ∧ (¬ ((n6 : Int) = 0) → (
 ((((n6 : Int) = 1) → (
 (In64 (((ByteArray.size s3) + (ByteArray.size (ByteArray.mk #[47])) : Nat) : Int)) ∧
 R (.string (s3 ++ (ByteArray.mk #[47]))) H5)) ∧ (¬ ((n6 : Int) = 1) → (
 ((((n6 : Int) = 2) → (
 (In64 (((ByteArray.size (ByteArray.mk #[46, 47])) + (ByteArray.size s3) : Nat) : Int)) ∧
 R (.string ((ByteArray.mk #[46, 47]) ++ s3)) H5)) ∧ (¬ ((n6 : Int) = 2) → (
 ((((n6 : Int) = 3) → (
 (In64 (((ByteArray.size s3) + (ByteArray.size (ByteArray.mk #[47, 46, 46])) : Nat) : Int)) ∧
 R (.string (s3 ++ (ByteArray.mk #[47, 46, 46]))) H5)) ∧ (¬ ((n6 : Int) = 3) → (
 ((((n6 : Int) = 4) → (
 (In64 (((ByteArray.size s3) + (ByteArray.size (ByteArray.mk #[47, 46, 46, 47])) : Nat) : Int)) ∧
 Does Tryz.prog 86 [(.int .i64 x0)] H5 fun v7 H8 => ∃ s9 : ByteArray, v7 = (.string s9) ∧ (
 (In64 (((ByteArray.size (s3 ++ (ByteArray.mk #[47, 46, 46, 47]))) + (ByteArray.size s9) : Nat) : Int)) ∧
 R (.string ((s3 ++ (ByteArray.mk #[47, 46, 46, 47])) ++ s9)) H8))) ∧ (¬ ((n6 : Int) = 4) → (
 ((((n6 : Int) = 5) → (
 (In64 (((ByteArray.size s3) + (ByteArray.size (ByteArray.mk #[47, 46])) : Nat) : Int)) ∧
 R (.string (s3 ++ (ByteArray.mk #[47, 46]))) H5)) ∧ (¬ ((n6 : Int) = 5) → (
 ((((n6 : Int) = 6) → (
 R (.string x2) H5)) ∧ (¬ ((n6 : Int) = 6) → (
 ((((n6 : Int) = 7) → (
 R (.string (ByteArray.mk #[47])) H5)) ∧ (¬ ((n6 : Int) = 7) → (
 ((((n6 : Int) = 8) → (
 Does Tryz.prog 86 [(.int .i64 x0)] H5 fun v10 H11 => ∃ s12 : ByteArray, v10 = (.string s12) ∧ (
 (In64 (((ByteArray.size s12) + (ByteArray.size (ByteArray.mk #[47, 47])) : Nat) : Int)) ∧
 ((6 : Int) ≠ 0) ∧
 ∀ q13 : Int, q13 = IntKind.wrap .i64 (Int.tdiv x0 6) → (
 Does Tryz.prog 86 [(.int .i64 q13)] H11 fun v14 H15 => ∃ s16 : ByteArray, v14 = (.string s16) ∧ (
 (In64 (((ByteArray.size (s12 ++ (ByteArray.mk #[47, 47]))) + (ByteArray.size s16) : Nat) : Int)) ∧
 R (.string ((s12 ++ (ByteArray.mk #[47, 47])) ++ s16)) H15))))) ∧ (¬ ((n6 : Int) = 8) → (
 R (.string s3) H5)))))))))))))))))))))))))))))) := by kernel_rfl


/-- pentimento/pentimentohand.Few -/
theorem FewV (x0 : Option Addr) (x0l : Nat) (x0c : Nat) (x1 : Int) (H : Heap) (R : Value → Heap → Prop) : Walk Tryz.prog 48 [] [(.slice x0 x0l x0c), (.int .i64 x1)] H R = (
 ∀ b1 : Nat, ∀ H2 : Heap, New H b1 [] 5 H2 → (
 (0 : Int) ≤ (min (x0l : Int) x1) ∧ ((min (x0l : Int) x1) : Int) ≤ (x0c : Int) ∧ (
 ∃ old3 new4 : List Value, SRow H2 1 0 (.slice (some (⟨b1, 0, none⟩ : Addr)) 0 0) old3 ∧ SRow H2 1 (Int.toNat (min (x0l : Int) x1)) (.slice x0 (Int.toNat (min (x0l : Int) x1)) x0c) new4 ∧ (∀ u ∈ new4, Value.oneCell' u = true) ∧ (0 + (Int.toNat (min (x0l : Int) x1))) * 1 ≤ 140737488355328 ∧ (0 + (Int.toNat (min (x0l : Int) x1)) ≤ 0 → roomOf H2 (some (⟨b1, 0, none⟩ : Addr)) (0 * 1) ((Int.toNat (min (x0l : Int) x1)) * 1)) ∧ ∀ a5 : Option Addr, ∀ c6 : Nat, ∀ H7 : Heap, App H2 1 5 [(.int .u8 0)] (some (⟨b1, 0, none⟩ : Addr)) 0 0 old3 new4 (Int.toNat (min (x0l : Int) x1)) a5 c6 H7 → (
 R (.slice a5 (0 + (Int.toNat (min (x0l : Int) x1))) c6) H7)))) := by kernel_rfl


/-- pentimento/pentimentohand.Node -/
theorem NodeV (x0_0 : Int) (x0_1 : Int) (x0_2 : Int) (x0_3 : Nat) (x0_4 : Option Addr) (x0_4l : Nat) (x0_4c : Nat) (H : Heap) (R : Value → Heap → Prop) : Walk Tryz.prog 67 [(11, [])] [(.agg #[(.int .i64 x0_0), (.int .i64 x0_1), (.int .i64 x0_2), (.float .f64 x0_3), (.slice x0_4 x0_4l x0_4c)])] H R = (
 ∀ b1 : Nat, ∀ H2 : Heap, New H b1 [(.int .i64 x0_0), (.int .i64 x0_1), (.int .i64 x0_2), (.float .f64 x0_3), (.slice x0_4 x0_4l x0_4c)] 116 H2 → (
 ∀ b3 : Nat, ∀ H4 : Heap, New H2 b3 [(.int .i64 0), (.int .i64 0), (.float .f64 0), (.slice none 0 0)] 45 H4 → (
 ∃ n5 : Int, hcell H4 b1 0 = some (.int .i64 n5) ∧ (
 ∃ n6 : Int, hcell H4 b1 (0 + 1) = some (.int .i64 n6) ∧ (
 ∃ n7 : Int, hcell H4 b1 (0 + 2) = some (.int .i64 n7) ∧ (
 ∃ f8 : Nat, hcell H4 b1 (0 + 3) = some (.float .f64 f8) ∧ (
 (Does Tryz.prog 8 [(.int .i64 n5), (.int .i64 3)] H4 fun v9 H10 => ∃ n11 : Int, v9 = (.int .i64 n11) ∧ (
 isL H10 b1 (0 + 3) [(.float .f64 f8)] ∧ isL H10 b1 (0 + 2) [(.int .i64 n7)] ∧ isL H10 b1 (0 + 1) [(.int .i64 n6)] ∧ ((In64 (1 + n11)) ∧
 (Does Tryz.prog 8 [(.int .i64 n6), (.int .i64 4096)] H10 fun v12 H13 => ∃ n14 : Int, v12 = (.int .i64 n14) ∧ (
 isL H13 b1 (0 + 3) [(.float .f64 f8)] ∧ isL H13 b1 (0 + 2) [(.int .i64 n7)] ∧ ((Does Tryz.prog 66 [(.int .i64 n7), (.float .f64 f8)] H13 fun v15 H16 => ∃ f17 : Nat, v15 = (.float .f64 f17) ∧ (
 ((Does Tryz.prog 90 [(.float .f64 f17)] H16 fun v18 H19 => ∃ f20 : Nat, v18 = (.float .f64 f20) ∧ (
 (∀ b21 : Nat, ∀ H22 : Heap, New H19 b21 [(.int .i64 0), (.int .i64 0), (.float .f64 0), (.slice none 0 0)] 45 H22 → (
 isL H22 b1 (0 + 3) [(.float .f64 f8)] ∧ isL H22 b1 (0 + 2) [(.int .i64 n7)] ∧ isL H22 b1 (0 + 1) [(.int .i64 n6)] ∧ isL H22 b1 0 [(.int .i64 n5)] ∧ (Cells H22 b21 0 4 ∧ ∀ H23 : Heap, Puts H22 b21 0 [(.int .i64 (1 + n11)), (.int .i64 n14), (.float .f64 f20), (.slice none 0 0)] H23 → (
 (∃ I24 : Heap → Prop, (
 ∃ n25 : Int, hcell H23 b21 0 = some (.int .i64 n25) ∧ (
 ((((n25 : Int) = 1) → (
 ∃ a26 : Option Addr, ∃ l27 : Nat, ∃ c28 : Nat, hcell H23 b1 (0 + 4) = some (.slice a26 l27 c28) ∧ (
 Does Tryz.prog 48 [(.slice a26 l27 c28), (.int .i64 60)] H23 fun v29 H30 => ∃ a31 : Option Addr, ∃ l32 : Nat, ∃ c33 : Nat, v29 = (.slice a31 l32 c33) ∧ (
 Cells H30 b21 (0 + 3) 1 ∧ ∀ H34 : Heap, Puts H30 b21 (0 + 3) [(.slice a31 l32 c33)] H34 → (
 I24 H34))))) ∧ (¬ ((n25 : Int) = 1) → (
 ((((n25 : Int) = 3) → (
 ∃ n35 : Int, hcell H23 b1 (0 + 1) = some (.int .i64 n35) ∧ (
 Does Tryz.prog 85 [(.int .i64 n35)] H23 fun v36 H37 => ∃ s38 : ByteArray, v36 = (.string s38) ∧ (
 ∀ c39 b40 : Nat, ∀ H41 : Heap, NewB H37 b40 s38 c39 5 H41 → (
 Cells H41 b21 (0 + 3) 1 ∧ ∀ H42 : Heap, Puts H41 b21 (0 + 3) [(.slice (some (⟨b40, 0, none⟩ : Addr)) (ByteArray.size s38) c39)] H42 → (
 ∃ n43 : Int, hcell H42 b1 (0 + 1) = some (.int .i64 n43) ∧ (
 ((4 : Int) ≠ 0) ∧
 ∀ q44 : Int, q44 = Int.tmod n43 4 → (
 ((((q44 : Int) = 0) → (
 ∀ b45 : Nat, ∀ H46 : Heap, New H42 b45 [(.int .u8 46), (.int .u8 46), (.int .u8 47)] 5 H46 → (
 ∃ b47 o48 : Nat, (some (⟨b45, 0, none⟩ : Addr)) = some (⟨b47, o48, none⟩ : Addr) ∧ (
 IsCells H46 b47 ∧ ∀ H49 : Heap, MarkTo H46 b47 H49 → (
 ∃ a50 : Option Addr, ∃ l51 : Nat, ∃ c52 : Nat, hcell H49 b21 (0 + 3) = some (.slice a50 l51 c52) ∧ (
 ∃ old53 new54 : List Value, SRow H49 1 3 (.slice (some (⟨b45, 0, none⟩ : Addr)) 3 3) old53 ∧ SRow H49 1 l51 (.slice a50 l51 c52) new54 ∧ (∀ u ∈ new54, Value.oneCell' u = true) ∧ (3 + l51) * 1 ≤ 140737488355328 ∧ (3 + l51 ≤ 3 → roomOf H49 (some (⟨b45, 0, none⟩ : Addr)) (3 * 1) (l51 * 1)) ∧ ∀ a55 : Option Addr, ∀ c56 : Nat, ∀ H57 : Heap, App H49 1 5 [(.int .u8 0)] (some (⟨b45, 0, none⟩ : Addr)) 3 3 old53 new54 l51 a55 c56 H57 → (
 Cells H57 b21 (0 + 3) 1 ∧ ∀ H58 : Heap, Puts H57 b21 (0 + 3) [(.slice a55 (3 + l51) c56)] H58 → (
 ∃ n59 : Int, hcell H58 b1 (0 + 1) = some (.int .i64 n59) ∧ (
 ((5 : Int) ≠ 0) ∧
 ∀ q60 : Int, q60 = Int.tmod n59 5 → (
 ((((q60 : Int) = 0) → (
 ∀ b61 : Nat, ∀ H62 : Heap, New H58 b61 [(.int .u8 47)] 5 H62 → (
 ∃ b63 o64 : Nat, (some (⟨b61, 0, none⟩ : Addr)) = some (⟨b63, o64, none⟩ : Addr) ∧ (
 IsCells H62 b63 ∧ ∀ H65 : Heap, MarkTo H62 b63 H65 → (
 ∃ a66 : Option Addr, ∃ l67 : Nat, ∃ c68 : Nat, hcell H65 b21 (0 + 3) = some (.slice a66 l67 c68) ∧ (
 ∃ old69 new70 : List Value, SRow H65 1 1 (.slice (some (⟨b61, 0, none⟩ : Addr)) 1 1) old69 ∧ SRow H65 1 l67 (.slice a66 l67 c68) new70 ∧ (∀ u ∈ new70, Value.oneCell' u = true) ∧ (1 + l67) * 1 ≤ 140737488355328 ∧ (1 + l67 ≤ 1 → roomOf H65 (some (⟨b61, 0, none⟩ : Addr)) (1 * 1) (l67 * 1)) ∧ ∀ a71 : Option Addr, ∀ c72 : Nat, ∀ H73 : Heap, App H65 1 5 [(.int .u8 0)] (some (⟨b61, 0, none⟩ : Addr)) 1 1 old69 new70 l67 a71 c72 H73 → (
 Cells H73 b21 (0 + 3) 1 ∧ ∀ H74 : Heap, Puts H73 b21 (0 + 3) [(.slice a71 (1 + l67) c72)] H74 → (
 I24 H74)))))))) ∧ (¬ ((q60 : Int) = 0) → (
 I24 H58))))))))))))) ∧ (¬ ((q44 : Int) = 0) → (
 ∃ n75 : Int, hcell H42 b1 (0 + 1) = some (.int .i64 n75) ∧ (
 ((5 : Int) ≠ 0) ∧
 ∀ q76 : Int, q76 = Int.tmod n75 5 → (
 ((((q76 : Int) = 0) → (
 ∀ b77 : Nat, ∀ H78 : Heap, New H42 b77 [(.int .u8 47)] 5 H78 → (
 ∃ b79 o80 : Nat, (some (⟨b77, 0, none⟩ : Addr)) = some (⟨b79, o80, none⟩ : Addr) ∧ (
 IsCells H78 b79 ∧ ∀ H81 : Heap, MarkTo H78 b79 H81 → (
 ∃ a82 : Option Addr, ∃ l83 : Nat, ∃ c84 : Nat, hcell H81 b21 (0 + 3) = some (.slice a82 l83 c84) ∧ (
 ∃ old85 new86 : List Value, SRow H81 1 1 (.slice (some (⟨b77, 0, none⟩ : Addr)) 1 1) old85 ∧ SRow H81 1 l83 (.slice a82 l83 c84) new86 ∧ (∀ u ∈ new86, Value.oneCell' u = true) ∧ (1 + l83) * 1 ≤ 140737488355328 ∧ (1 + l83 ≤ 1 → roomOf H81 (some (⟨b77, 0, none⟩ : Addr)) (1 * 1) (l83 * 1)) ∧ ∀ a87 : Option Addr, ∀ c88 : Nat, ∀ H89 : Heap, App H81 1 5 [(.int .u8 0)] (some (⟨b77, 0, none⟩ : Addr)) 1 1 old85 new86 l83 a87 c88 H89 → (
 Cells H89 b21 (0 + 3) 1 ∧ ∀ H90 : Heap, Puts H89 b21 (0 + 3) [(.slice a87 (1 + l83) c88)] H90 → (
 I24 H90)))))))) ∧ (¬ ((q76 : Int) = 0) → (
 I24 H42)))))))))))))))) ∧ (¬ ((n25 : Int) = 3) → (
 I24 H23)))))))) ∧
 ∀ H91 : Heap, I24 H91 → (
 ∃ n92 : Int, hcell H91 b21 0 = some (.int .i64 n92) ∧ (
 ∃ n93 : Int, hcell H91 b21 (0 + 1) = some (.int .i64 n93) ∧ (
 ∃ f94 : Nat, hcell H91 b21 ((0 + 1) + 1) = some (.float .f64 f94) ∧ (
 ∃ a95 : Option Addr, ∃ l96 : Nat, ∃ c97 : Nat, hcell H91 b21 (((0 + 1) + 1) + 1) = some (.slice a95 l96 c97) ∧ (
 Cells H91 b3 0 4 ∧ ∀ H98 : Heap, Puts H91 b3 0 [(.int .i64 n92), (.int .i64 n93), (.float .f64 f94), (.slice a95 l96 c97)] H98 → (
 ∃ n99 : Int, hcell H98 b3 0 = some (.int .i64 n99) ∧ (
 ∃ n100 : Int, hcell H98 b3 (0 + 1) = some (.int .i64 n100) ∧ (
 ∃ f101 : Nat, hcell H98 b3 ((0 + 1) + 1) = some (.float .f64 f101) ∧ (
 ∃ a102 : Option Addr, ∃ l103 : Nat, ∃ c104 : Nat, hcell H98 b3 (((0 + 1) + 1) + 1) = some (.slice a102 l103 c104) ∧ (
 R (.agg #[(.int .i64 n99), (.int .i64 n100), (.float .f64 f101), (.slice a102 l103 c104)]) H98))))))))))))))))) ∧ (∀ b105 : Nat, ∀ H106 : Heap, New H16 b105 [(.int .i64 0), (.int .i64 0), (.float .f64 0), (.slice none 0 0)] 45 H106 → (
 isL H106 b1 (0 + 3) [(.float .f64 f8)] ∧ isL H106 b1 (0 + 2) [(.int .i64 n7)] ∧ isL H106 b1 (0 + 1) [(.int .i64 n6)] ∧ isL H106 b1 0 [(.int .i64 n5)] ∧ (Does Tryz.prog 90 [(.float .f64 f17)] H106 fun v107 H108 => ∃ f109 : Nat, v107 = (.float .f64 f109) ∧ (
 (Cells H108 b105 0 4 ∧ ∀ H110 : Heap, Puts H108 b105 0 [(.int .i64 (1 + n11)), (.int .i64 n14), (.float .f64 f109), (.slice none 0 0)] H110 → (
 (∃ I111 : Heap → Prop, (
 ∃ n112 : Int, hcell H110 b105 0 = some (.int .i64 n112) ∧ (
 ((((n112 : Int) = 1) → (
 ∃ a113 : Option Addr, ∃ l114 : Nat, ∃ c115 : Nat, hcell H110 b1 (0 + 4) = some (.slice a113 l114 c115) ∧ (
 Does Tryz.prog 48 [(.slice a113 l114 c115), (.int .i64 60)] H110 fun v116 H117 => ∃ a118 : Option Addr, ∃ l119 : Nat, ∃ c120 : Nat, v116 = (.slice a118 l119 c120) ∧ (
 Cells H117 b105 (0 + 3) 1 ∧ ∀ H121 : Heap, Puts H117 b105 (0 + 3) [(.slice a118 l119 c120)] H121 → (
 I111 H121))))) ∧ (¬ ((n112 : Int) = 1) → (
 ((((n112 : Int) = 3) → (
 ∃ n122 : Int, hcell H110 b1 (0 + 1) = some (.int .i64 n122) ∧ (
 Does Tryz.prog 85 [(.int .i64 n122)] H110 fun v123 H124 => ∃ s125 : ByteArray, v123 = (.string s125) ∧ (
 ∀ c126 b127 : Nat, ∀ H128 : Heap, NewB H124 b127 s125 c126 5 H128 → (
 Cells H128 b105 (0 + 3) 1 ∧ ∀ H129 : Heap, Puts H128 b105 (0 + 3) [(.slice (some (⟨b127, 0, none⟩ : Addr)) (ByteArray.size s125) c126)] H129 → (
 ∃ n130 : Int, hcell H129 b1 (0 + 1) = some (.int .i64 n130) ∧ (
 ((4 : Int) ≠ 0) ∧
 ∀ q131 : Int, q131 = Int.tmod n130 4 → (
 ((((q131 : Int) = 0) → (
 ∀ b132 : Nat, ∀ H133 : Heap, New H129 b132 [(.int .u8 46), (.int .u8 46), (.int .u8 47)] 5 H133 → (
 ∃ b134 o135 : Nat, (some (⟨b132, 0, none⟩ : Addr)) = some (⟨b134, o135, none⟩ : Addr) ∧ (
 IsCells H133 b134 ∧ ∀ H136 : Heap, MarkTo H133 b134 H136 → (
 ∃ a137 : Option Addr, ∃ l138 : Nat, ∃ c139 : Nat, hcell H136 b105 (0 + 3) = some (.slice a137 l138 c139) ∧ (
 ∃ old140 new141 : List Value, SRow H136 1 3 (.slice (some (⟨b132, 0, none⟩ : Addr)) 3 3) old140 ∧ SRow H136 1 l138 (.slice a137 l138 c139) new141 ∧ (∀ u ∈ new141, Value.oneCell' u = true) ∧ (3 + l138) * 1 ≤ 140737488355328 ∧ (3 + l138 ≤ 3 → roomOf H136 (some (⟨b132, 0, none⟩ : Addr)) (3 * 1) (l138 * 1)) ∧ ∀ a142 : Option Addr, ∀ c143 : Nat, ∀ H144 : Heap, App H136 1 5 [(.int .u8 0)] (some (⟨b132, 0, none⟩ : Addr)) 3 3 old140 new141 l138 a142 c143 H144 → (
 Cells H144 b105 (0 + 3) 1 ∧ ∀ H145 : Heap, Puts H144 b105 (0 + 3) [(.slice a142 (3 + l138) c143)] H145 → (
 ∃ n146 : Int, hcell H145 b1 (0 + 1) = some (.int .i64 n146) ∧ (
 ((5 : Int) ≠ 0) ∧
 ∀ q147 : Int, q147 = Int.tmod n146 5 → (
 ((((q147 : Int) = 0) → (
 ∀ b148 : Nat, ∀ H149 : Heap, New H145 b148 [(.int .u8 47)] 5 H149 → (
 ∃ b150 o151 : Nat, (some (⟨b148, 0, none⟩ : Addr)) = some (⟨b150, o151, none⟩ : Addr) ∧ (
 IsCells H149 b150 ∧ ∀ H152 : Heap, MarkTo H149 b150 H152 → (
 ∃ a153 : Option Addr, ∃ l154 : Nat, ∃ c155 : Nat, hcell H152 b105 (0 + 3) = some (.slice a153 l154 c155) ∧ (
 ∃ old156 new157 : List Value, SRow H152 1 1 (.slice (some (⟨b148, 0, none⟩ : Addr)) 1 1) old156 ∧ SRow H152 1 l154 (.slice a153 l154 c155) new157 ∧ (∀ u ∈ new157, Value.oneCell' u = true) ∧ (1 + l154) * 1 ≤ 140737488355328 ∧ (1 + l154 ≤ 1 → roomOf H152 (some (⟨b148, 0, none⟩ : Addr)) (1 * 1) (l154 * 1)) ∧ ∀ a158 : Option Addr, ∀ c159 : Nat, ∀ H160 : Heap, App H152 1 5 [(.int .u8 0)] (some (⟨b148, 0, none⟩ : Addr)) 1 1 old156 new157 l154 a158 c159 H160 → (
 Cells H160 b105 (0 + 3) 1 ∧ ∀ H161 : Heap, Puts H160 b105 (0 + 3) [(.slice a158 (1 + l154) c159)] H161 → (
 I111 H161)))))))) ∧ (¬ ((q147 : Int) = 0) → (
 I111 H145))))))))))))) ∧ (¬ ((q131 : Int) = 0) → (
 ∃ n162 : Int, hcell H129 b1 (0 + 1) = some (.int .i64 n162) ∧ (
 ((5 : Int) ≠ 0) ∧
 ∀ q163 : Int, q163 = Int.tmod n162 5 → (
 ((((q163 : Int) = 0) → (
 ∀ b164 : Nat, ∀ H165 : Heap, New H129 b164 [(.int .u8 47)] 5 H165 → (
 ∃ b166 o167 : Nat, (some (⟨b164, 0, none⟩ : Addr)) = some (⟨b166, o167, none⟩ : Addr) ∧ (
 IsCells H165 b166 ∧ ∀ H168 : Heap, MarkTo H165 b166 H168 → (
 ∃ a169 : Option Addr, ∃ l170 : Nat, ∃ c171 : Nat, hcell H168 b105 (0 + 3) = some (.slice a169 l170 c171) ∧ (
 ∃ old172 new173 : List Value, SRow H168 1 1 (.slice (some (⟨b164, 0, none⟩ : Addr)) 1 1) old172 ∧ SRow H168 1 l170 (.slice a169 l170 c171) new173 ∧ (∀ u ∈ new173, Value.oneCell' u = true) ∧ (1 + l170) * 1 ≤ 140737488355328 ∧ (1 + l170 ≤ 1 → roomOf H168 (some (⟨b164, 0, none⟩ : Addr)) (1 * 1) (l170 * 1)) ∧ ∀ a174 : Option Addr, ∀ c175 : Nat, ∀ H176 : Heap, App H168 1 5 [(.int .u8 0)] (some (⟨b164, 0, none⟩ : Addr)) 1 1 old172 new173 l170 a174 c175 H176 → (
 Cells H176 b105 (0 + 3) 1 ∧ ∀ H177 : Heap, Puts H176 b105 (0 + 3) [(.slice a174 (1 + l170) c175)] H177 → (
 I111 H177)))))))) ∧ (¬ ((q163 : Int) = 0) → (
 I111 H129)))))))))))))))) ∧ (¬ ((n112 : Int) = 3) → (
 I111 H110)))))))) ∧
 ∀ H178 : Heap, I111 H178 → (
 ∃ n179 : Int, hcell H178 b105 0 = some (.int .i64 n179) ∧ (
 ∃ n180 : Int, hcell H178 b105 (0 + 1) = some (.int .i64 n180) ∧ (
 ∃ f181 : Nat, hcell H178 b105 ((0 + 1) + 1) = some (.float .f64 f181) ∧ (
 ∃ a182 : Option Addr, ∃ l183 : Nat, ∃ c184 : Nat, hcell H178 b105 (((0 + 1) + 1) + 1) = some (.slice a182 l183 c184) ∧ (
 Cells H178 b3 0 4 ∧ ∀ H185 : Heap, Puts H178 b3 0 [(.int .i64 n179), (.int .i64 n180), (.float .f64 f181), (.slice a182 l183 c184)] H185 → (
 ∃ n186 : Int, hcell H185 b3 0 = some (.int .i64 n186) ∧ (
 ∃ n187 : Int, hcell H185 b3 (0 + 1) = some (.int .i64 n187) ∧ (
 ∃ f188 : Nat, hcell H185 b3 ((0 + 1) + 1) = some (.float .f64 f188) ∧ (
 ∃ a189 : Option Addr, ∃ l190 : Nat, ∃ c191 : Nat, hcell H185 b3 (((0 + 1) + 1) + 1) = some (.slice a189 l190 c191) ∧ (
 R (.agg #[(.int .i64 n186), (.int .i64 n187), (.float .f64 f188), (.slice a189 l190 c191)]) H185)))))))))))))))))))) ∧ (∀ b192 : Nat, ∀ H193 : Heap, New H13 b192 [(.int .i64 0), (.int .i64 0), (.float .f64 0), (.slice none 0 0)] 45 H193 → (
 isL H193 b1 (0 + 3) [(.float .f64 f8)] ∧ isL H193 b1 (0 + 2) [(.int .i64 n7)] ∧ isL H193 b1 (0 + 1) [(.int .i64 n6)] ∧ isL H193 b1 0 [(.int .i64 n5)] ∧ (Does Tryz.prog 66 [(.int .i64 n7), (.float .f64 f8)] H193 fun v194 H195 => ∃ f196 : Nat, v194 = (.float .f64 f196) ∧ (
 (Does Tryz.prog 90 [(.float .f64 f196)] H195 fun v197 H198 => ∃ f199 : Nat, v197 = (.float .f64 f199) ∧ (
 (Cells H198 b192 0 4 ∧ ∀ H200 : Heap, Puts H198 b192 0 [(.int .i64 (1 + n11)), (.int .i64 n14), (.float .f64 f199), (.slice none 0 0)] H200 → (
 (∃ I201 : Heap → Prop, (
 ∃ n202 : Int, hcell H200 b192 0 = some (.int .i64 n202) ∧ (
 ((((n202 : Int) = 1) → (
 ∃ a203 : Option Addr, ∃ l204 : Nat, ∃ c205 : Nat, hcell H200 b1 (0 + 4) = some (.slice a203 l204 c205) ∧ (
 Does Tryz.prog 48 [(.slice a203 l204 c205), (.int .i64 60)] H200 fun v206 H207 => ∃ a208 : Option Addr, ∃ l209 : Nat, ∃ c210 : Nat, v206 = (.slice a208 l209 c210) ∧ (
 Cells H207 b192 (0 + 3) 1 ∧ ∀ H211 : Heap, Puts H207 b192 (0 + 3) [(.slice a208 l209 c210)] H211 → (
 I201 H211))))) ∧ (¬ ((n202 : Int) = 1) → (
 ((((n202 : Int) = 3) → (
 ∃ n212 : Int, hcell H200 b1 (0 + 1) = some (.int .i64 n212) ∧ (
 Does Tryz.prog 85 [(.int .i64 n212)] H200 fun v213 H214 => ∃ s215 : ByteArray, v213 = (.string s215) ∧ (
 ∀ c216 b217 : Nat, ∀ H218 : Heap, NewB H214 b217 s215 c216 5 H218 → (
 Cells H218 b192 (0 + 3) 1 ∧ ∀ H219 : Heap, Puts H218 b192 (0 + 3) [(.slice (some (⟨b217, 0, none⟩ : Addr)) (ByteArray.size s215) c216)] H219 → (
 ∃ n220 : Int, hcell H219 b1 (0 + 1) = some (.int .i64 n220) ∧ (
 ((4 : Int) ≠ 0) ∧
 ∀ q221 : Int, q221 = Int.tmod n220 4 → (
 ((((q221 : Int) = 0) → (
 ∀ b222 : Nat, ∀ H223 : Heap, New H219 b222 [(.int .u8 46), (.int .u8 46), (.int .u8 47)] 5 H223 → (
 ∃ b224 o225 : Nat, (some (⟨b222, 0, none⟩ : Addr)) = some (⟨b224, o225, none⟩ : Addr) ∧ (
 IsCells H223 b224 ∧ ∀ H226 : Heap, MarkTo H223 b224 H226 → (
 ∃ a227 : Option Addr, ∃ l228 : Nat, ∃ c229 : Nat, hcell H226 b192 (0 + 3) = some (.slice a227 l228 c229) ∧ (
 ∃ old230 new231 : List Value, SRow H226 1 3 (.slice (some (⟨b222, 0, none⟩ : Addr)) 3 3) old230 ∧ SRow H226 1 l228 (.slice a227 l228 c229) new231 ∧ (∀ u ∈ new231, Value.oneCell' u = true) ∧ (3 + l228) * 1 ≤ 140737488355328 ∧ (3 + l228 ≤ 3 → roomOf H226 (some (⟨b222, 0, none⟩ : Addr)) (3 * 1) (l228 * 1)) ∧ ∀ a232 : Option Addr, ∀ c233 : Nat, ∀ H234 : Heap, App H226 1 5 [(.int .u8 0)] (some (⟨b222, 0, none⟩ : Addr)) 3 3 old230 new231 l228 a232 c233 H234 → (
 Cells H234 b192 (0 + 3) 1 ∧ ∀ H235 : Heap, Puts H234 b192 (0 + 3) [(.slice a232 (3 + l228) c233)] H235 → (
 ∃ n236 : Int, hcell H235 b1 (0 + 1) = some (.int .i64 n236) ∧ (
 ((5 : Int) ≠ 0) ∧
 ∀ q237 : Int, q237 = Int.tmod n236 5 → (
 ((((q237 : Int) = 0) → (
 ∀ b238 : Nat, ∀ H239 : Heap, New H235 b238 [(.int .u8 47)] 5 H239 → (
 ∃ b240 o241 : Nat, (some (⟨b238, 0, none⟩ : Addr)) = some (⟨b240, o241, none⟩ : Addr) ∧ (
 IsCells H239 b240 ∧ ∀ H242 : Heap, MarkTo H239 b240 H242 → (
 ∃ a243 : Option Addr, ∃ l244 : Nat, ∃ c245 : Nat, hcell H242 b192 (0 + 3) = some (.slice a243 l244 c245) ∧ (
 ∃ old246 new247 : List Value, SRow H242 1 1 (.slice (some (⟨b238, 0, none⟩ : Addr)) 1 1) old246 ∧ SRow H242 1 l244 (.slice a243 l244 c245) new247 ∧ (∀ u ∈ new247, Value.oneCell' u = true) ∧ (1 + l244) * 1 ≤ 140737488355328 ∧ (1 + l244 ≤ 1 → roomOf H242 (some (⟨b238, 0, none⟩ : Addr)) (1 * 1) (l244 * 1)) ∧ ∀ a248 : Option Addr, ∀ c249 : Nat, ∀ H250 : Heap, App H242 1 5 [(.int .u8 0)] (some (⟨b238, 0, none⟩ : Addr)) 1 1 old246 new247 l244 a248 c249 H250 → (
 Cells H250 b192 (0 + 3) 1 ∧ ∀ H251 : Heap, Puts H250 b192 (0 + 3) [(.slice a248 (1 + l244) c249)] H251 → (
 I201 H251)))))))) ∧ (¬ ((q237 : Int) = 0) → (
 I201 H235))))))))))))) ∧ (¬ ((q221 : Int) = 0) → (
 ∃ n252 : Int, hcell H219 b1 (0 + 1) = some (.int .i64 n252) ∧ (
 ((5 : Int) ≠ 0) ∧
 ∀ q253 : Int, q253 = Int.tmod n252 5 → (
 ((((q253 : Int) = 0) → (
 ∀ b254 : Nat, ∀ H255 : Heap, New H219 b254 [(.int .u8 47)] 5 H255 → (
 ∃ b256 o257 : Nat, (some (⟨b254, 0, none⟩ : Addr)) = some (⟨b256, o257, none⟩ : Addr) ∧ (
 IsCells H255 b256 ∧ ∀ H258 : Heap, MarkTo H255 b256 H258 → (
 ∃ a259 : Option Addr, ∃ l260 : Nat, ∃ c261 : Nat, hcell H258 b192 (0 + 3) = some (.slice a259 l260 c261) ∧ (
 ∃ old262 new263 : List Value, SRow H258 1 1 (.slice (some (⟨b254, 0, none⟩ : Addr)) 1 1) old262 ∧ SRow H258 1 l260 (.slice a259 l260 c261) new263 ∧ (∀ u ∈ new263, Value.oneCell' u = true) ∧ (1 + l260) * 1 ≤ 140737488355328 ∧ (1 + l260 ≤ 1 → roomOf H258 (some (⟨b254, 0, none⟩ : Addr)) (1 * 1) (l260 * 1)) ∧ ∀ a264 : Option Addr, ∀ c265 : Nat, ∀ H266 : Heap, App H258 1 5 [(.int .u8 0)] (some (⟨b254, 0, none⟩ : Addr)) 1 1 old262 new263 l260 a264 c265 H266 → (
 Cells H266 b192 (0 + 3) 1 ∧ ∀ H267 : Heap, Puts H266 b192 (0 + 3) [(.slice a264 (1 + l260) c265)] H267 → (
 I201 H267)))))))) ∧ (¬ ((q253 : Int) = 0) → (
 I201 H219)))))))))))))))) ∧ (¬ ((n202 : Int) = 3) → (
 I201 H200)))))))) ∧
 ∀ H268 : Heap, I201 H268 → (
 ∃ n269 : Int, hcell H268 b192 0 = some (.int .i64 n269) ∧ (
 ∃ n270 : Int, hcell H268 b192 (0 + 1) = some (.int .i64 n270) ∧ (
 ∃ f271 : Nat, hcell H268 b192 ((0 + 1) + 1) = some (.float .f64 f271) ∧ (
 ∃ a272 : Option Addr, ∃ l273 : Nat, ∃ c274 : Nat, hcell H268 b192 (((0 + 1) + 1) + 1) = some (.slice a272 l273 c274) ∧ (
 Cells H268 b3 0 4 ∧ ∀ H275 : Heap, Puts H268 b3 0 [(.int .i64 n269), (.int .i64 n270), (.float .f64 f271), (.slice a272 l273 c274)] H275 → (
 ∃ n276 : Int, hcell H275 b3 0 = some (.int .i64 n276) ∧ (
 ∃ n277 : Int, hcell H275 b3 (0 + 1) = some (.int .i64 n277) ∧ (
 ∃ f278 : Nat, hcell H275 b3 ((0 + 1) + 1) = some (.float .f64 f278) ∧ (
 ∃ a279 : Option Addr, ∃ l280 : Nat, ∃ c281 : Nat, hcell H275 b3 (((0 + 1) + 1) + 1) = some (.slice a279 l280 c281) ∧ (
 R (.agg #[(.int .i64 n276), (.int .i64 n277), (.float .f64 f278), (.slice a279 l280 c281)]) H275)))))))))))))))))))))) ∧ (∀ b282 : Nat, ∀ H283 : Heap, New H10 b282 [(.int .i64 0), (.int .i64 0), (.float .f64 0), (.slice none 0 0)] 45 H283 → (
 isL H283 b1 (0 + 3) [(.float .f64 f8)] ∧ isL H283 b1 (0 + 2) [(.int .i64 n7)] ∧ isL H283 b1 (0 + 1) [(.int .i64 n6)] ∧ isL H283 b1 0 [(.int .i64 n5)] ∧ (Does Tryz.prog 8 [(.int .i64 n6), (.int .i64 4096)] H283 fun v284 H285 => ∃ n286 : Int, v284 = (.int .i64 n286) ∧ (
 isL H285 b1 (0 + 3) [(.float .f64 f8)] ∧ isL H285 b1 (0 + 2) [(.int .i64 n7)] ∧ (Does Tryz.prog 66 [(.int .i64 n7), (.float .f64 f8)] H285 fun v287 H288 => ∃ f289 : Nat, v287 = (.float .f64 f289) ∧ (
 (Does Tryz.prog 90 [(.float .f64 f289)] H288 fun v290 H291 => ∃ f292 : Nat, v290 = (.float .f64 f292) ∧ (
 (Cells H291 b282 0 4 ∧ ∀ H293 : Heap, Puts H291 b282 0 [(.int .i64 (1 + n11)), (.int .i64 n286), (.float .f64 f292), (.slice none 0 0)] H293 → (
 (∃ I294 : Heap → Prop, (
 ∃ n295 : Int, hcell H293 b282 0 = some (.int .i64 n295) ∧ (
 ((((n295 : Int) = 1) → (
 ∃ a296 : Option Addr, ∃ l297 : Nat, ∃ c298 : Nat, hcell H293 b1 (0 + 4) = some (.slice a296 l297 c298) ∧ (
 Does Tryz.prog 48 [(.slice a296 l297 c298), (.int .i64 60)] H293 fun v299 H300 => ∃ a301 : Option Addr, ∃ l302 : Nat, ∃ c303 : Nat, v299 = (.slice a301 l302 c303) ∧ (
 Cells H300 b282 (0 + 3) 1 ∧ ∀ H304 : Heap, Puts H300 b282 (0 + 3) [(.slice a301 l302 c303)] H304 → (
 I294 H304))))) ∧ (¬ ((n295 : Int) = 1) → (
 ((((n295 : Int) = 3) → (
 ∃ n305 : Int, hcell H293 b1 (0 + 1) = some (.int .i64 n305) ∧ (
 Does Tryz.prog 85 [(.int .i64 n305)] H293 fun v306 H307 => ∃ s308 : ByteArray, v306 = (.string s308) ∧ (
 ∀ c309 b310 : Nat, ∀ H311 : Heap, NewB H307 b310 s308 c309 5 H311 → (
 Cells H311 b282 (0 + 3) 1 ∧ ∀ H312 : Heap, Puts H311 b282 (0 + 3) [(.slice (some (⟨b310, 0, none⟩ : Addr)) (ByteArray.size s308) c309)] H312 → (
 ∃ n313 : Int, hcell H312 b1 (0 + 1) = some (.int .i64 n313) ∧ (
 ((4 : Int) ≠ 0) ∧
 ∀ q314 : Int, q314 = Int.tmod n313 4 → (
 ((((q314 : Int) = 0) → (
 ∀ b315 : Nat, ∀ H316 : Heap, New H312 b315 [(.int .u8 46), (.int .u8 46), (.int .u8 47)] 5 H316 → (
 ∃ b317 o318 : Nat, (some (⟨b315, 0, none⟩ : Addr)) = some (⟨b317, o318, none⟩ : Addr) ∧ (
 IsCells H316 b317 ∧ ∀ H319 : Heap, MarkTo H316 b317 H319 → (
 ∃ a320 : Option Addr, ∃ l321 : Nat, ∃ c322 : Nat, hcell H319 b282 (0 + 3) = some (.slice a320 l321 c322) ∧ (
 ∃ old323 new324 : List Value, SRow H319 1 3 (.slice (some (⟨b315, 0, none⟩ : Addr)) 3 3) old323 ∧ SRow H319 1 l321 (.slice a320 l321 c322) new324 ∧ (∀ u ∈ new324, Value.oneCell' u = true) ∧ (3 + l321) * 1 ≤ 140737488355328 ∧ (3 + l321 ≤ 3 → roomOf H319 (some (⟨b315, 0, none⟩ : Addr)) (3 * 1) (l321 * 1)) ∧ ∀ a325 : Option Addr, ∀ c326 : Nat, ∀ H327 : Heap, App H319 1 5 [(.int .u8 0)] (some (⟨b315, 0, none⟩ : Addr)) 3 3 old323 new324 l321 a325 c326 H327 → (
 Cells H327 b282 (0 + 3) 1 ∧ ∀ H328 : Heap, Puts H327 b282 (0 + 3) [(.slice a325 (3 + l321) c326)] H328 → (
 ∃ n329 : Int, hcell H328 b1 (0 + 1) = some (.int .i64 n329) ∧ (
 ((5 : Int) ≠ 0) ∧
 ∀ q330 : Int, q330 = Int.tmod n329 5 → (
 ((((q330 : Int) = 0) → (
 ∀ b331 : Nat, ∀ H332 : Heap, New H328 b331 [(.int .u8 47)] 5 H332 → (
 ∃ b333 o334 : Nat, (some (⟨b331, 0, none⟩ : Addr)) = some (⟨b333, o334, none⟩ : Addr) ∧ (
 IsCells H332 b333 ∧ ∀ H335 : Heap, MarkTo H332 b333 H335 → (
 ∃ a336 : Option Addr, ∃ l337 : Nat, ∃ c338 : Nat, hcell H335 b282 (0 + 3) = some (.slice a336 l337 c338) ∧ (
 ∃ old339 new340 : List Value, SRow H335 1 1 (.slice (some (⟨b331, 0, none⟩ : Addr)) 1 1) old339 ∧ SRow H335 1 l337 (.slice a336 l337 c338) new340 ∧ (∀ u ∈ new340, Value.oneCell' u = true) ∧ (1 + l337) * 1 ≤ 140737488355328 ∧ (1 + l337 ≤ 1 → roomOf H335 (some (⟨b331, 0, none⟩ : Addr)) (1 * 1) (l337 * 1)) ∧ ∀ a341 : Option Addr, ∀ c342 : Nat, ∀ H343 : Heap, App H335 1 5 [(.int .u8 0)] (some (⟨b331, 0, none⟩ : Addr)) 1 1 old339 new340 l337 a341 c342 H343 → (
 Cells H343 b282 (0 + 3) 1 ∧ ∀ H344 : Heap, Puts H343 b282 (0 + 3) [(.slice a341 (1 + l337) c342)] H344 → (
 I294 H344)))))))) ∧ (¬ ((q330 : Int) = 0) → (
 I294 H328))))))))))))) ∧ (¬ ((q314 : Int) = 0) → (
 ∃ n345 : Int, hcell H312 b1 (0 + 1) = some (.int .i64 n345) ∧ (
 ((5 : Int) ≠ 0) ∧
 ∀ q346 : Int, q346 = Int.tmod n345 5 → (
 ((((q346 : Int) = 0) → (
 ∀ b347 : Nat, ∀ H348 : Heap, New H312 b347 [(.int .u8 47)] 5 H348 → (
 ∃ b349 o350 : Nat, (some (⟨b347, 0, none⟩ : Addr)) = some (⟨b349, o350, none⟩ : Addr) ∧ (
 IsCells H348 b349 ∧ ∀ H351 : Heap, MarkTo H348 b349 H351 → (
 ∃ a352 : Option Addr, ∃ l353 : Nat, ∃ c354 : Nat, hcell H351 b282 (0 + 3) = some (.slice a352 l353 c354) ∧ (
 ∃ old355 new356 : List Value, SRow H351 1 1 (.slice (some (⟨b347, 0, none⟩ : Addr)) 1 1) old355 ∧ SRow H351 1 l353 (.slice a352 l353 c354) new356 ∧ (∀ u ∈ new356, Value.oneCell' u = true) ∧ (1 + l353) * 1 ≤ 140737488355328 ∧ (1 + l353 ≤ 1 → roomOf H351 (some (⟨b347, 0, none⟩ : Addr)) (1 * 1) (l353 * 1)) ∧ ∀ a357 : Option Addr, ∀ c358 : Nat, ∀ H359 : Heap, App H351 1 5 [(.int .u8 0)] (some (⟨b347, 0, none⟩ : Addr)) 1 1 old355 new356 l353 a357 c358 H359 → (
 Cells H359 b282 (0 + 3) 1 ∧ ∀ H360 : Heap, Puts H359 b282 (0 + 3) [(.slice a357 (1 + l353) c358)] H360 → (
 I294 H360)))))))) ∧ (¬ ((q346 : Int) = 0) → (
 I294 H312)))))))))))))))) ∧ (¬ ((n295 : Int) = 3) → (
 I294 H293)))))))) ∧
 ∀ H361 : Heap, I294 H361 → (
 ∃ n362 : Int, hcell H361 b282 0 = some (.int .i64 n362) ∧ (
 ∃ n363 : Int, hcell H361 b282 (0 + 1) = some (.int .i64 n363) ∧ (
 ∃ f364 : Nat, hcell H361 b282 ((0 + 1) + 1) = some (.float .f64 f364) ∧ (
 ∃ a365 : Option Addr, ∃ l366 : Nat, ∃ c367 : Nat, hcell H361 b282 (((0 + 1) + 1) + 1) = some (.slice a365 l366 c367) ∧ (
 Cells H361 b3 0 4 ∧ ∀ H368 : Heap, Puts H361 b3 0 [(.int .i64 n362), (.int .i64 n363), (.float .f64 f364), (.slice a365 l366 c367)] H368 → (
 ∃ n369 : Int, hcell H368 b3 0 = some (.int .i64 n369) ∧ (
 ∃ n370 : Int, hcell H368 b3 (0 + 1) = some (.int .i64 n370) ∧ (
 ∃ f371 : Nat, hcell H368 b3 ((0 + 1) + 1) = some (.float .f64 f371) ∧ (
 ∃ a372 : Option Addr, ∃ l373 : Nat, ∃ c374 : Nat, hcell H368 b3 (((0 + 1) + 1) + 1) = some (.slice a372 l373 c374) ∧ (
 R (.agg #[(.int .i64 n369), (.int .i64 n370), (.float .f64 f371), (.slice a372 l373 c374)]) H368)))))))))))))))))))))))) ∧ (∀ b375 : Nat, ∀ H376 : Heap, New H4 b375 [(.int .i64 0), (.int .i64 0), (.float .f64 0), (.slice none 0 0)] 45 H376 → (
 isL H376 b1 (0 + 3) [(.float .f64 f8)] ∧ isL H376 b1 (0 + 2) [(.int .i64 n7)] ∧ isL H376 b1 (0 + 1) [(.int .i64 n6)] ∧ isL H376 b1 0 [(.int .i64 n5)] ∧ (Does Tryz.prog 8 [(.int .i64 n5), (.int .i64 3)] H376 fun v377 H378 => ∃ n379 : Int, v377 = (.int .i64 n379) ∧ (
 isL H378 b1 (0 + 3) [(.float .f64 f8)] ∧ isL H378 b1 (0 + 2) [(.int .i64 n7)] ∧ isL H378 b1 (0 + 1) [(.int .i64 n6)] ∧ ((In64 (1 + n379)) ∧
 Does Tryz.prog 8 [(.int .i64 n6), (.int .i64 4096)] H378 fun v380 H381 => ∃ n382 : Int, v380 = (.int .i64 n382) ∧ (
 isL H381 b1 (0 + 3) [(.float .f64 f8)] ∧ isL H381 b1 (0 + 2) [(.int .i64 n7)] ∧ (Does Tryz.prog 66 [(.int .i64 n7), (.float .f64 f8)] H381 fun v383 H384 => ∃ f385 : Nat, v383 = (.float .f64 f385) ∧ (
 (Does Tryz.prog 90 [(.float .f64 f385)] H384 fun v386 H387 => ∃ f388 : Nat, v386 = (.float .f64 f388) ∧ (
 (Cells H387 b375 0 4 ∧ ∀ H389 : Heap, Puts H387 b375 0 [(.int .i64 (1 + n379)), (.int .i64 n382), (.float .f64 f388), (.slice none 0 0)] H389 → (
 (∃ I390 : Heap → Prop, (
 ∃ n391 : Int, hcell H389 b375 0 = some (.int .i64 n391) ∧ (
 ((((n391 : Int) = 1) → (
 ∃ a392 : Option Addr, ∃ l393 : Nat, ∃ c394 : Nat, hcell H389 b1 (0 + 4) = some (.slice a392 l393 c394) ∧ (
 Does Tryz.prog 48 [(.slice a392 l393 c394), (.int .i64 60)] H389 fun v395 H396 => ∃ a397 : Option Addr, ∃ l398 : Nat, ∃ c399 : Nat, v395 = (.slice a397 l398 c399) ∧ (
 Cells H396 b375 (0 + 3) 1 ∧ ∀ H400 : Heap, Puts H396 b375 (0 + 3) [(.slice a397 l398 c399)] H400 → (
 I390 H400))))) ∧ (¬ ((n391 : Int) = 1) → (
 ((((n391 : Int) = 3) → (
 ∃ n401 : Int, hcell H389 b1 (0 + 1) = some (.int .i64 n401) ∧ (
 Does Tryz.prog 85 [(.int .i64 n401)] H389 fun v402 H403 => ∃ s404 : ByteArray, v402 = (.string s404) ∧ (
 ∀ c405 b406 : Nat, ∀ H407 : Heap, NewB H403 b406 s404 c405 5 H407 → (
 Cells H407 b375 (0 + 3) 1 ∧ ∀ H408 : Heap, Puts H407 b375 (0 + 3) [(.slice (some (⟨b406, 0, none⟩ : Addr)) (ByteArray.size s404) c405)] H408 → (
 ∃ n409 : Int, hcell H408 b1 (0 + 1) = some (.int .i64 n409) ∧ (
 ((4 : Int) ≠ 0) ∧
 ∀ q410 : Int, q410 = Int.tmod n409 4 → (
 ((((q410 : Int) = 0) → (
 ∀ b411 : Nat, ∀ H412 : Heap, New H408 b411 [(.int .u8 46), (.int .u8 46), (.int .u8 47)] 5 H412 → (
 ∃ b413 o414 : Nat, (some (⟨b411, 0, none⟩ : Addr)) = some (⟨b413, o414, none⟩ : Addr) ∧ (
 IsCells H412 b413 ∧ ∀ H415 : Heap, MarkTo H412 b413 H415 → (
 ∃ a416 : Option Addr, ∃ l417 : Nat, ∃ c418 : Nat, hcell H415 b375 (0 + 3) = some (.slice a416 l417 c418) ∧ (
 ∃ old419 new420 : List Value, SRow H415 1 3 (.slice (some (⟨b411, 0, none⟩ : Addr)) 3 3) old419 ∧ SRow H415 1 l417 (.slice a416 l417 c418) new420 ∧ (∀ u ∈ new420, Value.oneCell' u = true) ∧ (3 + l417) * 1 ≤ 140737488355328 ∧ (3 + l417 ≤ 3 → roomOf H415 (some (⟨b411, 0, none⟩ : Addr)) (3 * 1) (l417 * 1)) ∧ ∀ a421 : Option Addr, ∀ c422 : Nat, ∀ H423 : Heap, App H415 1 5 [(.int .u8 0)] (some (⟨b411, 0, none⟩ : Addr)) 3 3 old419 new420 l417 a421 c422 H423 → (
 Cells H423 b375 (0 + 3) 1 ∧ ∀ H424 : Heap, Puts H423 b375 (0 + 3) [(.slice a421 (3 + l417) c422)] H424 → (
 ∃ n425 : Int, hcell H424 b1 (0 + 1) = some (.int .i64 n425) ∧ (
 ((5 : Int) ≠ 0) ∧
 ∀ q426 : Int, q426 = Int.tmod n425 5 → (
 ((((q426 : Int) = 0) → (
 ∀ b427 : Nat, ∀ H428 : Heap, New H424 b427 [(.int .u8 47)] 5 H428 → (
 ∃ b429 o430 : Nat, (some (⟨b427, 0, none⟩ : Addr)) = some (⟨b429, o430, none⟩ : Addr) ∧ (
 IsCells H428 b429 ∧ ∀ H431 : Heap, MarkTo H428 b429 H431 → (
 ∃ a432 : Option Addr, ∃ l433 : Nat, ∃ c434 : Nat, hcell H431 b375 (0 + 3) = some (.slice a432 l433 c434) ∧ (
 ∃ old435 new436 : List Value, SRow H431 1 1 (.slice (some (⟨b427, 0, none⟩ : Addr)) 1 1) old435 ∧ SRow H431 1 l433 (.slice a432 l433 c434) new436 ∧ (∀ u ∈ new436, Value.oneCell' u = true) ∧ (1 + l433) * 1 ≤ 140737488355328 ∧ (1 + l433 ≤ 1 → roomOf H431 (some (⟨b427, 0, none⟩ : Addr)) (1 * 1) (l433 * 1)) ∧ ∀ a437 : Option Addr, ∀ c438 : Nat, ∀ H439 : Heap, App H431 1 5 [(.int .u8 0)] (some (⟨b427, 0, none⟩ : Addr)) 1 1 old435 new436 l433 a437 c438 H439 → (
 Cells H439 b375 (0 + 3) 1 ∧ ∀ H440 : Heap, Puts H439 b375 (0 + 3) [(.slice a437 (1 + l433) c438)] H440 → (
 I390 H440)))))))) ∧ (¬ ((q426 : Int) = 0) → (
 I390 H424))))))))))))) ∧ (¬ ((q410 : Int) = 0) → (
 ∃ n441 : Int, hcell H408 b1 (0 + 1) = some (.int .i64 n441) ∧ (
 ((5 : Int) ≠ 0) ∧
 ∀ q442 : Int, q442 = Int.tmod n441 5 → (
 ((((q442 : Int) = 0) → (
 ∀ b443 : Nat, ∀ H444 : Heap, New H408 b443 [(.int .u8 47)] 5 H444 → (
 ∃ b445 o446 : Nat, (some (⟨b443, 0, none⟩ : Addr)) = some (⟨b445, o446, none⟩ : Addr) ∧ (
 IsCells H444 b445 ∧ ∀ H447 : Heap, MarkTo H444 b445 H447 → (
 ∃ a448 : Option Addr, ∃ l449 : Nat, ∃ c450 : Nat, hcell H447 b375 (0 + 3) = some (.slice a448 l449 c450) ∧ (
 ∃ old451 new452 : List Value, SRow H447 1 1 (.slice (some (⟨b443, 0, none⟩ : Addr)) 1 1) old451 ∧ SRow H447 1 l449 (.slice a448 l449 c450) new452 ∧ (∀ u ∈ new452, Value.oneCell' u = true) ∧ (1 + l449) * 1 ≤ 140737488355328 ∧ (1 + l449 ≤ 1 → roomOf H447 (some (⟨b443, 0, none⟩ : Addr)) (1 * 1) (l449 * 1)) ∧ ∀ a453 : Option Addr, ∀ c454 : Nat, ∀ H455 : Heap, App H447 1 5 [(.int .u8 0)] (some (⟨b443, 0, none⟩ : Addr)) 1 1 old451 new452 l449 a453 c454 H455 → (
 Cells H455 b375 (0 + 3) 1 ∧ ∀ H456 : Heap, Puts H455 b375 (0 + 3) [(.slice a453 (1 + l449) c454)] H456 → (
 I390 H456)))))))) ∧ (¬ ((q442 : Int) = 0) → (
 I390 H408)))))))))))))))) ∧ (¬ ((n391 : Int) = 3) → (
 I390 H389)))))))) ∧
 ∀ H457 : Heap, I390 H457 → (
 ∃ n458 : Int, hcell H457 b375 0 = some (.int .i64 n458) ∧ (
 ∃ n459 : Int, hcell H457 b375 (0 + 1) = some (.int .i64 n459) ∧ (
 ∃ f460 : Nat, hcell H457 b375 ((0 + 1) + 1) = some (.float .f64 f460) ∧ (
 ∃ a461 : Option Addr, ∃ l462 : Nat, ∃ c463 : Nat, hcell H457 b375 (((0 + 1) + 1) + 1) = some (.slice a461 l462 c463) ∧ (
 Cells H457 b3 0 4 ∧ ∀ H464 : Heap, Puts H457 b3 0 [(.int .i64 n458), (.int .i64 n459), (.float .f64 f460), (.slice a461 l462 c463)] H464 → (
 ∃ n465 : Int, hcell H464 b3 0 = some (.int .i64 n465) ∧ (
 ∃ n466 : Int, hcell H464 b3 (0 + 1) = some (.int .i64 n466) ∧ (
 ∃ f467 : Nat, hcell H464 b3 ((0 + 1) + 1) = some (.float .f64 f467) ∧ (
 ∃ a468 : Option Addr, ∃ l469 : Nat, ∃ c470 : Nat, hcell H464 b3 (((0 + 1) + 1) + 1) = some (.slice a468 l469 c470) ∧ (
 R (.agg #[(.int .i64 n465), (.int .i64 n466), (.float .f64 f467), (.slice a468 l469 c470)]) H464)))))))))))))))))))))))))))))) := by kernel_rfl


/-- pentimento/pentimentohand.Call -/
theorem HCallV (x0_0 : Int) (x0_1 : Int) (x0_2 : Int) (x0_3 : Int) (x0_4 : Int) (x0_5 : Int) (x0_6 : Int) (x0_7 : Int) (x0_8 : Nat) (x0_9 : Option Addr) (x0_9l : Nat) (x0_9c : Nat) (x0_10 : ByteArray) (H : Heap) (R : Value → Heap → Prop) : Walk Tryz.prog 47 [(4, []), (9, []), (15, []), (27, []), (31, []), (35, [])] [(.agg #[(.int .i64 x0_0), (.int .i64 x0_1), (.int .i64 x0_2), (.int .i64 x0_3), (.int .i64 x0_4), (.int .i64 x0_5), (.int .i64 x0_6), (.int .i64 x0_7), (.float .f64 x0_8), (.slice x0_9 x0_9l x0_9c), (.string x0_10)])] H R = (
 ∀ b1 : Nat, ∀ H2 : Heap, New H b1 [(.int .i64 x0_0), (.int .i64 x0_1), (.int .i64 x0_2), (.int .i64 x0_3), (.int .i64 x0_4), (.int .i64 x0_5), (.int .i64 x0_6), (.int .i64 x0_7), (.float .f64 x0_8), (.slice x0_9 x0_9l x0_9c), (.string x0_10)] 25 H2 → (
 ∀ b3 : Nat, ∀ H4 : Heap, New H2 b3 [(.int .i64 0), (.string (ByteArray.mk #[])), (.string (ByteArray.mk #[])), (.int .i64 0), (.float .f64 0), (.int .i64 0), (.int .i64 0), (.slice none 0 0)] 31 H4 → (
 ∃ n5 : Int, hcell H4 b1 0 = some (.int .i64 n5) ∧ (
 ∃ n6 : Int, hcell H4 b1 (0 + 1) = some (.int .i64 n6) ∧ (
 ∃ n7 : Int, hcell H4 b1 (0 + 7) = some (.int .i64 n7) ∧ (
 ∃ s8 : ByteArray, hcell H4 b1 (0 + 10) = some (.string s8) ∧ (
 (Does Tryz.prog 8 [(.int .i64 n5), (.int .i64 24)] H4 fun v9 H10 => ∃ n11 : Int, v9 = (.int .i64 n11) ∧ (
 isL H10 b1 (0 + 10) [(.string s8)] ∧ isL H10 b1 (0 + 7) [(.int .i64 n7)] ∧ isL H10 b1 (0 + 1) [(.int .i64 n6)] ∧ ((0 : Int) ≤ n11 ∧ (n11 : Int) < (24 : Nat) ∧ (
 ∃ n12 : Int, hcell H10 1 (0 + (Int.toNat n11)) = some (.int .i64 n12) ∧ (
 (Does Tryz.prog 65 [(.int .i64 n6), (.int .i64 n7), (.string s8)] H10 fun v13 H14 => ∃ s15 : ByteArray, v13 = (.string s15) ∧ (
 isL H14 1 (0 + (Int.toNat n11)) [(.int .i64 n12)] ∧ (∀ b16 : Nat, ∀ H17 : Heap, New H14 b16 [(.int .i64 0), (.string (ByteArray.mk #[])), (.string (ByteArray.mk #[])), (.int .i64 0), (.float .f64 0), (.int .i64 0), (.int .i64 0), (.slice none 0 0)] 31 H17 → (
 isL H17 1 (0 + (Int.toNat n11)) [(.int .i64 n12)] ∧ isL H17 b1 (0 + 10) [(.string s8)] ∧ isL H17 b1 (0 + 7) [(.int .i64 n7)] ∧ isL H17 b1 (0 + 1) [(.int .i64 n6)] ∧ isL H17 b1 0 [(.int .i64 n5)] ∧ (Cells H17 b16 0 8 ∧ ∀ H18 : Heap, Puts H17 b16 0 [(.int .i64 n12), (.string s15), (.string (ByteArray.mk #[])), (.int .i64 0), (.float .f64 0), (.int .i64 0), (.int .i64 0), (.slice none 0 0)] H18 → (
 (∃ I19 : Heap → Prop, (
 ∃ n20 : Int, hcell H18 b1 (0 + 7) = some (.int .i64 n20) ∧ (
 ((41 : Int) ≠ 0) ∧
 ∀ q21 : Int, q21 = Int.tmod n20 41 → (
 ((((q21 : Int) = 40) → (
 ∃ n22 : Int, hcell H18 b1 0 = some (.int .i64 n22) ∧ (
 Cells H18 b16 0 1 ∧ ∀ H23 : Heap, Puts H18 b16 0 [(.int .i64 n22)] H23 → (
 I19 H23)))) ∧ (¬ ((q21 : Int) = 40) → (
 I19 H18)))))) ∧
 ∀ H24 : Heap, I19 H24 → (
 ∃ I25 : Heap → Prop, (
 ∃ n26 : Int, hcell H24 b16 0 = some (.int .i64 n26) ∧ (
 ((((n26 : Int) = 1) → (
 ((((n26 : Int) = 1) → (
 ∃ n27 : Int, hcell H24 b1 (0 + 3) = some (.int .i64 n27) ∧ (
 Does Tryz.prog 8 [(.int .i64 n27), (.int .i64 4099)] H24 fun v28 H29 => ∃ n30 : Int, v28 = (.int .i64 n30) ∧ (
 (In64 (n30 - 1)) ∧
 Cells H29 b16 (0 + 3) 1 ∧ ∀ H31 : Heap, Puts H29 b16 (0 + 3) [(.int .i64 (n30 - 1))] H31 → (
 I25 H31))))) ∧ (¬ ((n26 : Int) = 1) → (
 I25 H24))))) ∧ (¬ ((n26 : Int) = 1) → (
 ((((n26 : Int) = 2) → (
 ((((n26 : Int) = 2) → (
 ∃ n32 : Int, hcell H24 b1 (0 + 3) = some (.int .i64 n32) ∧ (
 Does Tryz.prog 8 [(.int .i64 n32), (.int .i64 4099)] H24 fun v33 H34 => ∃ n35 : Int, v33 = (.int .i64 n35) ∧ (
 (In64 (n35 - 1)) ∧
 Cells H34 b16 (0 + 3) 1 ∧ ∀ H36 : Heap, Puts H34 b16 (0 + 3) [(.int .i64 (n35 - 1))] H36 → (
 I25 H36))))) ∧ (¬ ((n26 : Int) = 2) → (
 I25 H24))))) ∧ (¬ ((n26 : Int) = 2) → (
 ((((n26 : Int) = 10) → (
 ∃ n37 : Int, hcell H24 b1 (0 + 3) = some (.int .i64 n37) ∧ (
 Does Tryz.prog 8 [(.int .i64 n37), (.int .i64 4099)] H24 fun v38 H39 => ∃ n40 : Int, v38 = (.int .i64 n40) ∧ (
 (In64 (n40 - 1)) ∧
 Cells H39 b16 (0 + 3) 1 ∧ ∀ H41 : Heap, Puts H39 b16 (0 + 3) [(.int .i64 (n40 - 1))] H41 → (
 I25 H41))))) ∧ (¬ ((n26 : Int) = 10) → (
 I25 H24))))))))))) ∧
 ∀ H42 : Heap, I25 H42 → (
 ∃ I43 : Heap → Prop, (
 ∃ n44 : Int, hcell H42 b16 0 = some (.int .i64 n44) ∧ (
 ((((n44 : Int) = 1) → (
 ((((n44 : Int) = 1) → (
 ∃ n45 : Int, hcell H42 b1 (0 + 4) = some (.int .i64 n45) ∧ (
 ∃ f46 : Nat, hcell H42 b1 (0 + 8) = some (.float .f64 f46) ∧ (
 Does Tryz.prog 66 [(.int .i64 n45), (.float .f64 f46)] H42 fun v47 H48 => ∃ f49 : Nat, v47 = (.float .f64 f49) ∧ (
 Cells H48 b16 (0 + 4) 1 ∧ ∀ H50 : Heap, Puts H48 b16 (0 + 4) [(.float .f64 f49)] H50 → (
 I43 H50)))))) ∧ (¬ ((n44 : Int) = 1) → (
 I43 H42))))) ∧ (¬ ((n44 : Int) = 1) → (
 ((((n44 : Int) = 2) → (
 ((((n44 : Int) = 2) → (
 ∃ n51 : Int, hcell H42 b1 (0 + 4) = some (.int .i64 n51) ∧ (
 ∃ f52 : Nat, hcell H42 b1 (0 + 8) = some (.float .f64 f52) ∧ (
 Does Tryz.prog 66 [(.int .i64 n51), (.float .f64 f52)] H42 fun v53 H54 => ∃ f55 : Nat, v53 = (.float .f64 f55) ∧ (
 Cells H54 b16 (0 + 4) 1 ∧ ∀ H56 : Heap, Puts H54 b16 (0 + 4) [(.float .f64 f55)] H56 → (
 I43 H56)))))) ∧ (¬ ((n44 : Int) = 2) → (
 I43 H42))))) ∧ (¬ ((n44 : Int) = 2) → (
 ((((n44 : Int) = 7) → (
 ((((n44 : Int) = 7) → (
 ∃ n57 : Int, hcell H42 b1 (0 + 4) = some (.int .i64 n57) ∧ (
 ∃ f58 : Nat, hcell H42 b1 (0 + 8) = some (.float .f64 f58) ∧ (
 Does Tryz.prog 66 [(.int .i64 n57), (.float .f64 f58)] H42 fun v59 H60 => ∃ f61 : Nat, v59 = (.float .f64 f61) ∧ (
 Cells H60 b16 (0 + 4) 1 ∧ ∀ H62 : Heap, Puts H60 b16 (0 + 4) [(.float .f64 f61)] H62 → (
 I43 H62)))))) ∧ (¬ ((n44 : Int) = 7) → (
 I43 H42))))) ∧ (¬ ((n44 : Int) = 7) → (
 ((((n44 : Int) = 11) → (
 ∃ n63 : Int, hcell H42 b1 (0 + 4) = some (.int .i64 n63) ∧ (
 ∃ f64 : Nat, hcell H42 b1 (0 + 8) = some (.float .f64 f64) ∧ (
 Does Tryz.prog 66 [(.int .i64 n63), (.float .f64 f64)] H42 fun v65 H66 => ∃ f67 : Nat, v65 = (.float .f64 f67) ∧ (
 Cells H66 b16 (0 + 4) 1 ∧ ∀ H68 : Heap, Puts H66 b16 (0 + 4) [(.float .f64 f67)] H68 → (
 I43 H68)))))) ∧ (¬ ((n44 : Int) = 11) → (
 I43 H42)))))))))))))) ∧
 ∀ H69 : Heap, I43 H69 → (
 ∃ I70 : Heap → Prop, (
 ∃ n71 : Int, hcell H69 b16 0 = some (.int .i64 n71) ∧ (
 ((((n71 : Int) = 2) → (
 ((((n71 : Int) = 2) → (
 ∃ a72 : Option Addr, ∃ l73 : Nat, ∃ c74 : Nat, hcell H69 b1 (0 + 9) = some (.slice a72 l73 c74) ∧ (
 Does Tryz.prog 48 [(.slice a72 l73 c74), (.int .i64 60)] H69 fun v75 H76 => ∃ a77 : Option Addr, ∃ l78 : Nat, ∃ c79 : Nat, v75 = (.slice a77 l78 c79) ∧ (
 Cells H76 b16 (0 + 7) 1 ∧ ∀ H80 : Heap, Puts H76 b16 (0 + 7) [(.slice a77 l78 c79)] H80 → (
 ∃ n81 : Int, hcell H80 b1 (0 + 6) = some (.int .i64 n81) ∧ (
 ((67 : Int) ≠ 0) ∧
 ∀ q82 : Int, q82 = Int.tmod n81 67 → (
 ((((q82 : Int) = 66) → (
 ∃ n83 : Int, hcell H80 b1 (0 + 5) = some (.int .i64 n83) ∧ (
 Does Tryz.prog 8 [(.int .i64 n83), (.int .i64 40)] H80 fun v84 H85 => ∃ n86 : Int, v84 = (.int .i64 n86) ∧ (
 (In64 (1980 + n86)) ∧
 (0 : Int) ≤ (1980 + n86) ∧ ((1980 + n86) : Int) ≤ (1980 + n86) ∧ (1 : Int) * (1980 + n86) ≤ 281474976710656 ∧ ∀ b87 : Nat, ∀ H88 : Heap, New H85 b87 (List.replicate (Int.toNat (1980 + n86)) (.int .u8 0)) 5 H88 → (
 Cells H88 b16 (0 + 7) 1 ∧ ∀ H89 : Heap, Puts H88 b16 (0 + 7) [(.slice (some (⟨b87, 0, none⟩ : Addr)) (Int.toNat (1980 + n86)) (Int.toNat (1980 + n86)))] H89 → (
 I70 H89)))))) ∧ (¬ ((q82 : Int) = 66) → (
 I70 H80)))))))))) ∧ (¬ ((n71 : Int) = 2) → (
 ((((n71 : Int) = 7) → (
 ∃ n90 : Int, hcell H69 b1 (0 + 2) = some (.int .i64 n90) ∧ (
 Does Tryz.prog 67 [(.agg #[(.int .i64 2), (.int .i64 n90), (.int .i64 0), (.float .f64 0), (.slice none 0 0)])] H69 fun v91 H92 => ∃ n93 : Int, ∃ n94 : Int, ∃ f95 : Nat, ∃ a96 : Option Addr, ∃ l97 : Nat, ∃ c98 : Nat, v91 = (.agg #[(.int .i64 n93), (.int .i64 n94), (.float .f64 f95), (.slice a96 l97 c98)]) ∧ (
 Cells H92 b16 (0 + 7) 1 ∧ ∀ H99 : Heap, Puts H92 b16 (0 + 7) [(.slice a96 l97 c98)] H99 → (
 ∃ n100 : Int, hcell H99 b1 (0 + 6) = some (.int .i64 n100) ∧ (
 ((17 : Int) ≠ 0) ∧
 ∀ q101 : Int, q101 = Int.tmod n100 17 → (
 ((((q101 : Int) = 16) → (
 ∃ a102 : Option Addr, ∃ l103 : Nat, ∃ c104 : Nat, hcell H99 b1 (0 + 9) = some (.slice a102 l103 c104) ∧ (
 Does Tryz.prog 48 [(.slice a102 l103 c104), (.int .i64 200)] H99 fun v105 H106 => ∃ a107 : Option Addr, ∃ l108 : Nat, ∃ c109 : Nat, v105 = (.slice a107 l108 c109) ∧ (
 Cells H106 b16 (0 + 7) 1 ∧ ∀ H110 : Heap, Puts H106 b16 (0 + 7) [(.slice a107 l108 c109)] H110 → (
 I70 H110))))) ∧ (¬ ((q101 : Int) = 16) → (
 I70 H99)))))))))) ∧ (¬ ((n71 : Int) = 7) → (
 ((((n71 : Int) = 9) → (
 ∃ n111 : Int, hcell H69 b1 (0 + 2) = some (.int .i64 n111) ∧ (
 ∃ n112 : Int, hcell H69 b1 (0 + 7) = some (.int .i64 n112) ∧ (
 ((24 : Int) ≠ 0) ∧
 ∀ q113 : Int, q113 = IntKind.wrap .i64 (Int.tdiv n112 24) → (
 ∃ s114 : ByteArray, hcell H69 b1 (0 + 10) = some (.string s114) ∧ (
 Does Tryz.prog 65 [(.int .i64 n111), (.int .i64 q113), (.string s114)] H69 fun v115 H116 => ∃ s117 : ByteArray, v115 = (.string s117) ∧ (
 Cells H116 b16 (0 + 2) 1 ∧ ∀ H118 : Heap, Puts H116 b16 (0 + 2) [(.string s117)] H118 → (
 I70 H118)))))))) ∧ (¬ ((n71 : Int) = 9) → (
 I70 H69))))))))))) ∧ (¬ ((n71 : Int) = 2) → (
 ((((n71 : Int) = 3) → (
 ∃ a119 : Option Addr, ∃ l120 : Nat, ∃ c121 : Nat, hcell H69 b1 (0 + 9) = some (.slice a119 l120 c121) ∧ (
 Does Tryz.prog 48 [(.slice a119 l120 c121), (.int .i64 60)] H69 fun v122 H123 => ∃ a124 : Option Addr, ∃ l125 : Nat, ∃ c126 : Nat, v122 = (.slice a124 l125 c126) ∧ (
 Cells H123 b16 (0 + 7) 1 ∧ ∀ H127 : Heap, Puts H123 b16 (0 + 7) [(.slice a124 l125 c126)] H127 → (
 ∃ n128 : Int, hcell H127 b1 (0 + 6) = some (.int .i64 n128) ∧ (
 ((67 : Int) ≠ 0) ∧
 ∀ q129 : Int, q129 = Int.tmod n128 67 → (
 ((((q129 : Int) = 66) → (
 ∃ n130 : Int, hcell H127 b1 (0 + 5) = some (.int .i64 n130) ∧ (
 Does Tryz.prog 8 [(.int .i64 n130), (.int .i64 40)] H127 fun v131 H132 => ∃ n133 : Int, v131 = (.int .i64 n133) ∧ (
 (In64 (1980 + n133)) ∧
 (0 : Int) ≤ (1980 + n133) ∧ ((1980 + n133) : Int) ≤ (1980 + n133) ∧ (1 : Int) * (1980 + n133) ≤ 281474976710656 ∧ ∀ b134 : Nat, ∀ H135 : Heap, New H132 b134 (List.replicate (Int.toNat (1980 + n133)) (.int .u8 0)) 5 H135 → (
 Cells H135 b16 (0 + 7) 1 ∧ ∀ H136 : Heap, Puts H135 b16 (0 + 7) [(.slice (some (⟨b134, 0, none⟩ : Addr)) (Int.toNat (1980 + n133)) (Int.toNat (1980 + n133)))] H136 → (
 I70 H136)))))) ∧ (¬ ((q129 : Int) = 66) → (
 I70 H127)))))))))) ∧ (¬ ((n71 : Int) = 3) → (
 ((((n71 : Int) = 7) → (
 ∃ n137 : Int, hcell H69 b1 (0 + 2) = some (.int .i64 n137) ∧ (
 Does Tryz.prog 67 [(.agg #[(.int .i64 2), (.int .i64 n137), (.int .i64 0), (.float .f64 0), (.slice none 0 0)])] H69 fun v138 H139 => ∃ n140 : Int, ∃ n141 : Int, ∃ f142 : Nat, ∃ a143 : Option Addr, ∃ l144 : Nat, ∃ c145 : Nat, v138 = (.agg #[(.int .i64 n140), (.int .i64 n141), (.float .f64 f142), (.slice a143 l144 c145)]) ∧ (
 Cells H139 b16 (0 + 7) 1 ∧ ∀ H146 : Heap, Puts H139 b16 (0 + 7) [(.slice a143 l144 c145)] H146 → (
 ∃ n147 : Int, hcell H146 b1 (0 + 6) = some (.int .i64 n147) ∧ (
 ((17 : Int) ≠ 0) ∧
 ∀ q148 : Int, q148 = Int.tmod n147 17 → (
 ((((q148 : Int) = 16) → (
 ∃ a149 : Option Addr, ∃ l150 : Nat, ∃ c151 : Nat, hcell H146 b1 (0 + 9) = some (.slice a149 l150 c151) ∧ (
 Does Tryz.prog 48 [(.slice a149 l150 c151), (.int .i64 200)] H146 fun v152 H153 => ∃ a154 : Option Addr, ∃ l155 : Nat, ∃ c156 : Nat, v152 = (.slice a154 l155 c156) ∧ (
 Cells H153 b16 (0 + 7) 1 ∧ ∀ H157 : Heap, Puts H153 b16 (0 + 7) [(.slice a154 l155 c156)] H157 → (
 I70 H157))))) ∧ (¬ ((q148 : Int) = 16) → (
 I70 H146)))))))))) ∧ (¬ ((n71 : Int) = 7) → (
 ((((n71 : Int) = 9) → (
 ∃ n158 : Int, hcell H69 b1 (0 + 2) = some (.int .i64 n158) ∧ (
 ∃ n159 : Int, hcell H69 b1 (0 + 7) = some (.int .i64 n159) ∧ (
 ((24 : Int) ≠ 0) ∧
 ∀ q160 : Int, q160 = IntKind.wrap .i64 (Int.tdiv n159 24) → (
 ∃ s161 : ByteArray, hcell H69 b1 (0 + 10) = some (.string s161) ∧ (
 Does Tryz.prog 65 [(.int .i64 n158), (.int .i64 q160), (.string s161)] H69 fun v162 H163 => ∃ s164 : ByteArray, v162 = (.string s164) ∧ (
 Cells H163 b16 (0 + 2) 1 ∧ ∀ H165 : Heap, Puts H163 b16 (0 + 2) [(.string s164)] H165 → (
 I70 H165)))))))) ∧ (¬ ((n71 : Int) = 9) → (
 I70 H69)))))))))))))) ∧
 ∀ H166 : Heap, I70 H166 → (
 ∃ I167 : Heap → Prop, (
 ∃ n168 : Int, hcell H166 b16 0 = some (.int .i64 n168) ∧ (
 ((((n168 : Int) = 3) → (
 ((((n168 : Int) = 3) → (
 ∃ n169 : Int, hcell H166 b1 (0 + 5) = some (.int .i64 n169) ∧ (
 Does Tryz.prog 8 [(.int .i64 n169), (.int .i64 30)] H166 fun v170 H171 => ∃ n172 : Int, v170 = (.int .i64 n172) ∧ (
 (In64 (n172 - 1)) ∧
 Cells H171 b16 (0 + 5) 1 ∧ ∀ H173 : Heap, Puts H171 b16 (0 + 5) [(.int .i64 (n172 - 1))] H173 → (
 I167 H173))))) ∧ (¬ ((n168 : Int) = 3) → (
 I167 H166))))) ∧ (¬ ((n168 : Int) = 3) → (
 ((((n168 : Int) = 14) → (
 ∃ n174 : Int, hcell H166 b1 (0 + 5) = some (.int .i64 n174) ∧ (
 Does Tryz.prog 8 [(.int .i64 n174), (.int .i64 30)] H166 fun v175 H176 => ∃ n177 : Int, v175 = (.int .i64 n177) ∧ (
 (In64 (n177 - 1)) ∧
 Cells H176 b16 (0 + 5) 1 ∧ ∀ H178 : Heap, Puts H176 b16 (0 + 5) [(.int .i64 (n177 - 1))] H178 → (
 I167 H178))))) ∧ (¬ ((n168 : Int) = 14) → (
 I167 H166)))))))) ∧
 ∀ H179 : Heap, I167 H179 → (
 ∃ I180 : Heap → Prop, (
 ∃ n181 : Int, hcell H179 b16 0 = some (.int .i64 n181) ∧ (
 ((((n181 : Int) = 4) → (
 ((((n181 : Int) = 4) → (
 ∃ n182 : Int, hcell H179 b1 (0 + 6) = some (.int .i64 n182) ∧ (
 Does Tryz.prog 8 [(.int .i64 n182), (.int .i64 40)] H179 fun v183 H184 => ∃ n185 : Int, v183 = (.int .i64 n185) ∧ (
 (In64 (n185 - 1)) ∧
 Cells H184 b16 (0 + 6) 1 ∧ ∀ H186 : Heap, Puts H184 b16 (0 + 6) [(.int .i64 (n185 - 1))] H186 → (
 I180 H186))))) ∧ (¬ ((n181 : Int) = 4) → (
 I180 H179))))) ∧ (¬ ((n181 : Int) = 4) → (
 ((((n181 : Int) = 14) → (
 ∃ n187 : Int, hcell H179 b1 (0 + 6) = some (.int .i64 n187) ∧ (
 Does Tryz.prog 8 [(.int .i64 n187), (.int .i64 40)] H179 fun v188 H189 => ∃ n190 : Int, v188 = (.int .i64 n190) ∧ (
 (In64 (n190 - 1)) ∧
 Cells H189 b16 (0 + 6) 1 ∧ ∀ H191 : Heap, Puts H189 b16 (0 + 6) [(.int .i64 (n190 - 1))] H191 → (
 I180 H191))))) ∧ (¬ ((n181 : Int) = 14) → (
 I180 H179)))))))) ∧
 ∀ H192 : Heap, I180 H192 → (
 ∃ n193 : Int, hcell H192 b16 0 = some (.int .i64 n193) ∧ (
 ∃ s194 : ByteArray, hcell H192 b16 (0 + 1) = some (.string s194) ∧ (
 ∃ s195 : ByteArray, hcell H192 b16 ((0 + 1) + 1) = some (.string s195) ∧ (
 ∃ n196 : Int, hcell H192 b16 (((0 + 1) + 1) + 1) = some (.int .i64 n196) ∧ (
 ∃ f197 : Nat, hcell H192 b16 ((((0 + 1) + 1) + 1) + 1) = some (.float .f64 f197) ∧ (
 ∃ n198 : Int, hcell H192 b16 (((((0 + 1) + 1) + 1) + 1) + 1) = some (.int .i64 n198) ∧ (
 ∃ n199 : Int, hcell H192 b16 ((((((0 + 1) + 1) + 1) + 1) + 1) + 1) = some (.int .i64 n199) ∧ (
 ∃ a200 : Option Addr, ∃ l201 : Nat, ∃ c202 : Nat, hcell H192 b16 (((((((0 + 1) + 1) + 1) + 1) + 1) + 1) + 1) = some (.slice a200 l201 c202) ∧ (
 Cells H192 b3 0 8 ∧ ∀ H203 : Heap, Puts H192 b3 0 [(.int .i64 n193), (.string s194), (.string s195), (.int .i64 n196), (.float .f64 f197), (.int .i64 n198), (.int .i64 n199), (.slice a200 l201 c202)] H203 → (
 ∃ n204 : Int, hcell H203 b3 0 = some (.int .i64 n204) ∧ (
 ∃ s205 : ByteArray, hcell H203 b3 (0 + 1) = some (.string s205) ∧ (
 ∃ s206 : ByteArray, hcell H203 b3 ((0 + 1) + 1) = some (.string s206) ∧ (
 ∃ n207 : Int, hcell H203 b3 (((0 + 1) + 1) + 1) = some (.int .i64 n207) ∧ (
 ∃ f208 : Nat, hcell H203 b3 ((((0 + 1) + 1) + 1) + 1) = some (.float .f64 f208) ∧ (
 ∃ n209 : Int, hcell H203 b3 (((((0 + 1) + 1) + 1) + 1) + 1) = some (.int .i64 n209) ∧ (
 ∃ n210 : Int, hcell H203 b3 ((((((0 + 1) + 1) + 1) + 1) + 1) + 1) = some (.int .i64 n210) ∧ (
 ∃ a211 : Option Addr, ∃ l212 : Nat, ∃ c213 : Nat, hcell H203 b3 (((((((0 + 1) + 1) + 1) + 1) + 1) + 1) + 1) = some (.slice a211 l212 c213) ∧ (
 R (.agg #[(.int .i64 n204), (.string s205), (.string s206), (.int .i64 n207), (.float .f64 f208), (.int .i64 n209), (.int .i64 n210), (.slice a211 l212 c213)]) H203)))))))))))))))))))))))))))))) ∧ (∀ b214 : Nat, ∀ H215 : Heap, New H10 b214 [(.int .i64 0), (.string (ByteArray.mk #[])), (.string (ByteArray.mk #[])), (.int .i64 0), (.float .f64 0), (.int .i64 0), (.int .i64 0), (.slice none 0 0)] 31 H215 → (
 isL H215 1 (0 + (Int.toNat n11)) [(.int .i64 n12)] ∧ isL H215 b1 (0 + 10) [(.string s8)] ∧ isL H215 b1 (0 + 7) [(.int .i64 n7)] ∧ isL H215 b1 (0 + 1) [(.int .i64 n6)] ∧ isL H215 b1 0 [(.int .i64 n5)] ∧ (Does Tryz.prog 65 [(.int .i64 n6), (.int .i64 n7), (.string s8)] H215 fun v216 H217 => ∃ s218 : ByteArray, v216 = (.string s218) ∧ (
 isL H217 1 (0 + (Int.toNat n11)) [(.int .i64 n12)] ∧ (Cells H217 b214 0 8 ∧ ∀ H219 : Heap, Puts H217 b214 0 [(.int .i64 n12), (.string s218), (.string (ByteArray.mk #[])), (.int .i64 0), (.float .f64 0), (.int .i64 0), (.int .i64 0), (.slice none 0 0)] H219 → (
 (∃ I220 : Heap → Prop, (
 ∃ n221 : Int, hcell H219 b1 (0 + 7) = some (.int .i64 n221) ∧ (
 ((41 : Int) ≠ 0) ∧
 ∀ q222 : Int, q222 = Int.tmod n221 41 → (
 ((((q222 : Int) = 40) → (
 ∃ n223 : Int, hcell H219 b1 0 = some (.int .i64 n223) ∧ (
 Cells H219 b214 0 1 ∧ ∀ H224 : Heap, Puts H219 b214 0 [(.int .i64 n223)] H224 → (
 I220 H224)))) ∧ (¬ ((q222 : Int) = 40) → (
 I220 H219)))))) ∧
 ∀ H225 : Heap, I220 H225 → (
 ∃ I226 : Heap → Prop, (
 ∃ n227 : Int, hcell H225 b214 0 = some (.int .i64 n227) ∧ (
 ((((n227 : Int) = 1) → (
 ((((n227 : Int) = 1) → (
 ∃ n228 : Int, hcell H225 b1 (0 + 3) = some (.int .i64 n228) ∧ (
 Does Tryz.prog 8 [(.int .i64 n228), (.int .i64 4099)] H225 fun v229 H230 => ∃ n231 : Int, v229 = (.int .i64 n231) ∧ (
 (In64 (n231 - 1)) ∧
 Cells H230 b214 (0 + 3) 1 ∧ ∀ H232 : Heap, Puts H230 b214 (0 + 3) [(.int .i64 (n231 - 1))] H232 → (
 I226 H232))))) ∧ (¬ ((n227 : Int) = 1) → (
 I226 H225))))) ∧ (¬ ((n227 : Int) = 1) → (
 ((((n227 : Int) = 2) → (
 ((((n227 : Int) = 2) → (
 ∃ n233 : Int, hcell H225 b1 (0 + 3) = some (.int .i64 n233) ∧ (
 Does Tryz.prog 8 [(.int .i64 n233), (.int .i64 4099)] H225 fun v234 H235 => ∃ n236 : Int, v234 = (.int .i64 n236) ∧ (
 (In64 (n236 - 1)) ∧
 Cells H235 b214 (0 + 3) 1 ∧ ∀ H237 : Heap, Puts H235 b214 (0 + 3) [(.int .i64 (n236 - 1))] H237 → (
 I226 H237))))) ∧ (¬ ((n227 : Int) = 2) → (
 I226 H225))))) ∧ (¬ ((n227 : Int) = 2) → (
 ((((n227 : Int) = 10) → (
 ∃ n238 : Int, hcell H225 b1 (0 + 3) = some (.int .i64 n238) ∧ (
 Does Tryz.prog 8 [(.int .i64 n238), (.int .i64 4099)] H225 fun v239 H240 => ∃ n241 : Int, v239 = (.int .i64 n241) ∧ (
 (In64 (n241 - 1)) ∧
 Cells H240 b214 (0 + 3) 1 ∧ ∀ H242 : Heap, Puts H240 b214 (0 + 3) [(.int .i64 (n241 - 1))] H242 → (
 I226 H242))))) ∧ (¬ ((n227 : Int) = 10) → (
 I226 H225))))))))))) ∧
 ∀ H243 : Heap, I226 H243 → (
 ∃ I244 : Heap → Prop, (
 ∃ n245 : Int, hcell H243 b214 0 = some (.int .i64 n245) ∧ (
 ((((n245 : Int) = 1) → (
 ((((n245 : Int) = 1) → (
 ∃ n246 : Int, hcell H243 b1 (0 + 4) = some (.int .i64 n246) ∧ (
 ∃ f247 : Nat, hcell H243 b1 (0 + 8) = some (.float .f64 f247) ∧ (
 Does Tryz.prog 66 [(.int .i64 n246), (.float .f64 f247)] H243 fun v248 H249 => ∃ f250 : Nat, v248 = (.float .f64 f250) ∧ (
 Cells H249 b214 (0 + 4) 1 ∧ ∀ H251 : Heap, Puts H249 b214 (0 + 4) [(.float .f64 f250)] H251 → (
 I244 H251)))))) ∧ (¬ ((n245 : Int) = 1) → (
 I244 H243))))) ∧ (¬ ((n245 : Int) = 1) → (
 ((((n245 : Int) = 2) → (
 ((((n245 : Int) = 2) → (
 ∃ n252 : Int, hcell H243 b1 (0 + 4) = some (.int .i64 n252) ∧ (
 ∃ f253 : Nat, hcell H243 b1 (0 + 8) = some (.float .f64 f253) ∧ (
 Does Tryz.prog 66 [(.int .i64 n252), (.float .f64 f253)] H243 fun v254 H255 => ∃ f256 : Nat, v254 = (.float .f64 f256) ∧ (
 Cells H255 b214 (0 + 4) 1 ∧ ∀ H257 : Heap, Puts H255 b214 (0 + 4) [(.float .f64 f256)] H257 → (
 I244 H257)))))) ∧ (¬ ((n245 : Int) = 2) → (
 I244 H243))))) ∧ (¬ ((n245 : Int) = 2) → (
 ((((n245 : Int) = 7) → (
 ((((n245 : Int) = 7) → (
 ∃ n258 : Int, hcell H243 b1 (0 + 4) = some (.int .i64 n258) ∧ (
 ∃ f259 : Nat, hcell H243 b1 (0 + 8) = some (.float .f64 f259) ∧ (
 Does Tryz.prog 66 [(.int .i64 n258), (.float .f64 f259)] H243 fun v260 H261 => ∃ f262 : Nat, v260 = (.float .f64 f262) ∧ (
 Cells H261 b214 (0 + 4) 1 ∧ ∀ H263 : Heap, Puts H261 b214 (0 + 4) [(.float .f64 f262)] H263 → (
 I244 H263)))))) ∧ (¬ ((n245 : Int) = 7) → (
 I244 H243))))) ∧ (¬ ((n245 : Int) = 7) → (
 ((((n245 : Int) = 11) → (
 ∃ n264 : Int, hcell H243 b1 (0 + 4) = some (.int .i64 n264) ∧ (
 ∃ f265 : Nat, hcell H243 b1 (0 + 8) = some (.float .f64 f265) ∧ (
 Does Tryz.prog 66 [(.int .i64 n264), (.float .f64 f265)] H243 fun v266 H267 => ∃ f268 : Nat, v266 = (.float .f64 f268) ∧ (
 Cells H267 b214 (0 + 4) 1 ∧ ∀ H269 : Heap, Puts H267 b214 (0 + 4) [(.float .f64 f268)] H269 → (
 I244 H269)))))) ∧ (¬ ((n245 : Int) = 11) → (
 I244 H243)))))))))))))) ∧
 ∀ H270 : Heap, I244 H270 → (
 ∃ I271 : Heap → Prop, (
 ∃ n272 : Int, hcell H270 b214 0 = some (.int .i64 n272) ∧ (
 ((((n272 : Int) = 2) → (
 ((((n272 : Int) = 2) → (
 ∃ a273 : Option Addr, ∃ l274 : Nat, ∃ c275 : Nat, hcell H270 b1 (0 + 9) = some (.slice a273 l274 c275) ∧ (
 Does Tryz.prog 48 [(.slice a273 l274 c275), (.int .i64 60)] H270 fun v276 H277 => ∃ a278 : Option Addr, ∃ l279 : Nat, ∃ c280 : Nat, v276 = (.slice a278 l279 c280) ∧ (
 Cells H277 b214 (0 + 7) 1 ∧ ∀ H281 : Heap, Puts H277 b214 (0 + 7) [(.slice a278 l279 c280)] H281 → (
 ∃ n282 : Int, hcell H281 b1 (0 + 6) = some (.int .i64 n282) ∧ (
 ((67 : Int) ≠ 0) ∧
 ∀ q283 : Int, q283 = Int.tmod n282 67 → (
 ((((q283 : Int) = 66) → (
 ∃ n284 : Int, hcell H281 b1 (0 + 5) = some (.int .i64 n284) ∧ (
 Does Tryz.prog 8 [(.int .i64 n284), (.int .i64 40)] H281 fun v285 H286 => ∃ n287 : Int, v285 = (.int .i64 n287) ∧ (
 (In64 (1980 + n287)) ∧
 (0 : Int) ≤ (1980 + n287) ∧ ((1980 + n287) : Int) ≤ (1980 + n287) ∧ (1 : Int) * (1980 + n287) ≤ 281474976710656 ∧ ∀ b288 : Nat, ∀ H289 : Heap, New H286 b288 (List.replicate (Int.toNat (1980 + n287)) (.int .u8 0)) 5 H289 → (
 Cells H289 b214 (0 + 7) 1 ∧ ∀ H290 : Heap, Puts H289 b214 (0 + 7) [(.slice (some (⟨b288, 0, none⟩ : Addr)) (Int.toNat (1980 + n287)) (Int.toNat (1980 + n287)))] H290 → (
 I271 H290)))))) ∧ (¬ ((q283 : Int) = 66) → (
 I271 H281)))))))))) ∧ (¬ ((n272 : Int) = 2) → (
 ((((n272 : Int) = 7) → (
 ∃ n291 : Int, hcell H270 b1 (0 + 2) = some (.int .i64 n291) ∧ (
 Does Tryz.prog 67 [(.agg #[(.int .i64 2), (.int .i64 n291), (.int .i64 0), (.float .f64 0), (.slice none 0 0)])] H270 fun v292 H293 => ∃ n294 : Int, ∃ n295 : Int, ∃ f296 : Nat, ∃ a297 : Option Addr, ∃ l298 : Nat, ∃ c299 : Nat, v292 = (.agg #[(.int .i64 n294), (.int .i64 n295), (.float .f64 f296), (.slice a297 l298 c299)]) ∧ (
 Cells H293 b214 (0 + 7) 1 ∧ ∀ H300 : Heap, Puts H293 b214 (0 + 7) [(.slice a297 l298 c299)] H300 → (
 ∃ n301 : Int, hcell H300 b1 (0 + 6) = some (.int .i64 n301) ∧ (
 ((17 : Int) ≠ 0) ∧
 ∀ q302 : Int, q302 = Int.tmod n301 17 → (
 ((((q302 : Int) = 16) → (
 ∃ a303 : Option Addr, ∃ l304 : Nat, ∃ c305 : Nat, hcell H300 b1 (0 + 9) = some (.slice a303 l304 c305) ∧ (
 Does Tryz.prog 48 [(.slice a303 l304 c305), (.int .i64 200)] H300 fun v306 H307 => ∃ a308 : Option Addr, ∃ l309 : Nat, ∃ c310 : Nat, v306 = (.slice a308 l309 c310) ∧ (
 Cells H307 b214 (0 + 7) 1 ∧ ∀ H311 : Heap, Puts H307 b214 (0 + 7) [(.slice a308 l309 c310)] H311 → (
 I271 H311))))) ∧ (¬ ((q302 : Int) = 16) → (
 I271 H300)))))))))) ∧ (¬ ((n272 : Int) = 7) → (
 ((((n272 : Int) = 9) → (
 ∃ n312 : Int, hcell H270 b1 (0 + 2) = some (.int .i64 n312) ∧ (
 ∃ n313 : Int, hcell H270 b1 (0 + 7) = some (.int .i64 n313) ∧ (
 ((24 : Int) ≠ 0) ∧
 ∀ q314 : Int, q314 = IntKind.wrap .i64 (Int.tdiv n313 24) → (
 ∃ s315 : ByteArray, hcell H270 b1 (0 + 10) = some (.string s315) ∧ (
 Does Tryz.prog 65 [(.int .i64 n312), (.int .i64 q314), (.string s315)] H270 fun v316 H317 => ∃ s318 : ByteArray, v316 = (.string s318) ∧ (
 Cells H317 b214 (0 + 2) 1 ∧ ∀ H319 : Heap, Puts H317 b214 (0 + 2) [(.string s318)] H319 → (
 I271 H319)))))))) ∧ (¬ ((n272 : Int) = 9) → (
 I271 H270))))))))))) ∧ (¬ ((n272 : Int) = 2) → (
 ((((n272 : Int) = 3) → (
 ∃ a320 : Option Addr, ∃ l321 : Nat, ∃ c322 : Nat, hcell H270 b1 (0 + 9) = some (.slice a320 l321 c322) ∧ (
 Does Tryz.prog 48 [(.slice a320 l321 c322), (.int .i64 60)] H270 fun v323 H324 => ∃ a325 : Option Addr, ∃ l326 : Nat, ∃ c327 : Nat, v323 = (.slice a325 l326 c327) ∧ (
 Cells H324 b214 (0 + 7) 1 ∧ ∀ H328 : Heap, Puts H324 b214 (0 + 7) [(.slice a325 l326 c327)] H328 → (
 ∃ n329 : Int, hcell H328 b1 (0 + 6) = some (.int .i64 n329) ∧ (
 ((67 : Int) ≠ 0) ∧
 ∀ q330 : Int, q330 = Int.tmod n329 67 → (
 ((((q330 : Int) = 66) → (
 ∃ n331 : Int, hcell H328 b1 (0 + 5) = some (.int .i64 n331) ∧ (
 Does Tryz.prog 8 [(.int .i64 n331), (.int .i64 40)] H328 fun v332 H333 => ∃ n334 : Int, v332 = (.int .i64 n334) ∧ (
 (In64 (1980 + n334)) ∧
 (0 : Int) ≤ (1980 + n334) ∧ ((1980 + n334) : Int) ≤ (1980 + n334) ∧ (1 : Int) * (1980 + n334) ≤ 281474976710656 ∧ ∀ b335 : Nat, ∀ H336 : Heap, New H333 b335 (List.replicate (Int.toNat (1980 + n334)) (.int .u8 0)) 5 H336 → (
 Cells H336 b214 (0 + 7) 1 ∧ ∀ H337 : Heap, Puts H336 b214 (0 + 7) [(.slice (some (⟨b335, 0, none⟩ : Addr)) (Int.toNat (1980 + n334)) (Int.toNat (1980 + n334)))] H337 → (
 I271 H337)))))) ∧ (¬ ((q330 : Int) = 66) → (
 I271 H328)))))))))) ∧ (¬ ((n272 : Int) = 3) → (
 ((((n272 : Int) = 7) → (
 ∃ n338 : Int, hcell H270 b1 (0 + 2) = some (.int .i64 n338) ∧ (
 Does Tryz.prog 67 [(.agg #[(.int .i64 2), (.int .i64 n338), (.int .i64 0), (.float .f64 0), (.slice none 0 0)])] H270 fun v339 H340 => ∃ n341 : Int, ∃ n342 : Int, ∃ f343 : Nat, ∃ a344 : Option Addr, ∃ l345 : Nat, ∃ c346 : Nat, v339 = (.agg #[(.int .i64 n341), (.int .i64 n342), (.float .f64 f343), (.slice a344 l345 c346)]) ∧ (
 Cells H340 b214 (0 + 7) 1 ∧ ∀ H347 : Heap, Puts H340 b214 (0 + 7) [(.slice a344 l345 c346)] H347 → (
 ∃ n348 : Int, hcell H347 b1 (0 + 6) = some (.int .i64 n348) ∧ (
 ((17 : Int) ≠ 0) ∧
 ∀ q349 : Int, q349 = Int.tmod n348 17 → (
 ((((q349 : Int) = 16) → (
 ∃ a350 : Option Addr, ∃ l351 : Nat, ∃ c352 : Nat, hcell H347 b1 (0 + 9) = some (.slice a350 l351 c352) ∧ (
 Does Tryz.prog 48 [(.slice a350 l351 c352), (.int .i64 200)] H347 fun v353 H354 => ∃ a355 : Option Addr, ∃ l356 : Nat, ∃ c357 : Nat, v353 = (.slice a355 l356 c357) ∧ (
 Cells H354 b214 (0 + 7) 1 ∧ ∀ H358 : Heap, Puts H354 b214 (0 + 7) [(.slice a355 l356 c357)] H358 → (
 I271 H358))))) ∧ (¬ ((q349 : Int) = 16) → (
 I271 H347)))))))))) ∧ (¬ ((n272 : Int) = 7) → (
 ((((n272 : Int) = 9) → (
 ∃ n359 : Int, hcell H270 b1 (0 + 2) = some (.int .i64 n359) ∧ (
 ∃ n360 : Int, hcell H270 b1 (0 + 7) = some (.int .i64 n360) ∧ (
 ((24 : Int) ≠ 0) ∧
 ∀ q361 : Int, q361 = IntKind.wrap .i64 (Int.tdiv n360 24) → (
 ∃ s362 : ByteArray, hcell H270 b1 (0 + 10) = some (.string s362) ∧ (
 Does Tryz.prog 65 [(.int .i64 n359), (.int .i64 q361), (.string s362)] H270 fun v363 H364 => ∃ s365 : ByteArray, v363 = (.string s365) ∧ (
 Cells H364 b214 (0 + 2) 1 ∧ ∀ H366 : Heap, Puts H364 b214 (0 + 2) [(.string s365)] H366 → (
 I271 H366)))))))) ∧ (¬ ((n272 : Int) = 9) → (
 I271 H270)))))))))))))) ∧
 ∀ H367 : Heap, I271 H367 → (
 ∃ I368 : Heap → Prop, (
 ∃ n369 : Int, hcell H367 b214 0 = some (.int .i64 n369) ∧ (
 ((((n369 : Int) = 3) → (
 ((((n369 : Int) = 3) → (
 ∃ n370 : Int, hcell H367 b1 (0 + 5) = some (.int .i64 n370) ∧ (
 Does Tryz.prog 8 [(.int .i64 n370), (.int .i64 30)] H367 fun v371 H372 => ∃ n373 : Int, v371 = (.int .i64 n373) ∧ (
 (In64 (n373 - 1)) ∧
 Cells H372 b214 (0 + 5) 1 ∧ ∀ H374 : Heap, Puts H372 b214 (0 + 5) [(.int .i64 (n373 - 1))] H374 → (
 I368 H374))))) ∧ (¬ ((n369 : Int) = 3) → (
 I368 H367))))) ∧ (¬ ((n369 : Int) = 3) → (
 ((((n369 : Int) = 14) → (
 ∃ n375 : Int, hcell H367 b1 (0 + 5) = some (.int .i64 n375) ∧ (
 Does Tryz.prog 8 [(.int .i64 n375), (.int .i64 30)] H367 fun v376 H377 => ∃ n378 : Int, v376 = (.int .i64 n378) ∧ (
 (In64 (n378 - 1)) ∧
 Cells H377 b214 (0 + 5) 1 ∧ ∀ H379 : Heap, Puts H377 b214 (0 + 5) [(.int .i64 (n378 - 1))] H379 → (
 I368 H379))))) ∧ (¬ ((n369 : Int) = 14) → (
 I368 H367)))))))) ∧
 ∀ H380 : Heap, I368 H380 → (
 ∃ I381 : Heap → Prop, (
 ∃ n382 : Int, hcell H380 b214 0 = some (.int .i64 n382) ∧ (
 ((((n382 : Int) = 4) → (
 ((((n382 : Int) = 4) → (
 ∃ n383 : Int, hcell H380 b1 (0 + 6) = some (.int .i64 n383) ∧ (
 Does Tryz.prog 8 [(.int .i64 n383), (.int .i64 40)] H380 fun v384 H385 => ∃ n386 : Int, v384 = (.int .i64 n386) ∧ (
 (In64 (n386 - 1)) ∧
 Cells H385 b214 (0 + 6) 1 ∧ ∀ H387 : Heap, Puts H385 b214 (0 + 6) [(.int .i64 (n386 - 1))] H387 → (
 I381 H387))))) ∧ (¬ ((n382 : Int) = 4) → (
 I381 H380))))) ∧ (¬ ((n382 : Int) = 4) → (
 ((((n382 : Int) = 14) → (
 ∃ n388 : Int, hcell H380 b1 (0 + 6) = some (.int .i64 n388) ∧ (
 Does Tryz.prog 8 [(.int .i64 n388), (.int .i64 40)] H380 fun v389 H390 => ∃ n391 : Int, v389 = (.int .i64 n391) ∧ (
 (In64 (n391 - 1)) ∧
 Cells H390 b214 (0 + 6) 1 ∧ ∀ H392 : Heap, Puts H390 b214 (0 + 6) [(.int .i64 (n391 - 1))] H392 → (
 I381 H392))))) ∧ (¬ ((n382 : Int) = 14) → (
 I381 H380)))))))) ∧
 ∀ H393 : Heap, I381 H393 → (
 ∃ n394 : Int, hcell H393 b214 0 = some (.int .i64 n394) ∧ (
 ∃ s395 : ByteArray, hcell H393 b214 (0 + 1) = some (.string s395) ∧ (
 ∃ s396 : ByteArray, hcell H393 b214 ((0 + 1) + 1) = some (.string s396) ∧ (
 ∃ n397 : Int, hcell H393 b214 (((0 + 1) + 1) + 1) = some (.int .i64 n397) ∧ (
 ∃ f398 : Nat, hcell H393 b214 ((((0 + 1) + 1) + 1) + 1) = some (.float .f64 f398) ∧ (
 ∃ n399 : Int, hcell H393 b214 (((((0 + 1) + 1) + 1) + 1) + 1) = some (.int .i64 n399) ∧ (
 ∃ n400 : Int, hcell H393 b214 ((((((0 + 1) + 1) + 1) + 1) + 1) + 1) = some (.int .i64 n400) ∧ (
 ∃ a401 : Option Addr, ∃ l402 : Nat, ∃ c403 : Nat, hcell H393 b214 (((((((0 + 1) + 1) + 1) + 1) + 1) + 1) + 1) = some (.slice a401 l402 c403) ∧ (
 Cells H393 b3 0 8 ∧ ∀ H404 : Heap, Puts H393 b3 0 [(.int .i64 n394), (.string s395), (.string s396), (.int .i64 n397), (.float .f64 f398), (.int .i64 n399), (.int .i64 n400), (.slice a401 l402 c403)] H404 → (
 ∃ n405 : Int, hcell H404 b3 0 = some (.int .i64 n405) ∧ (
 ∃ s406 : ByteArray, hcell H404 b3 (0 + 1) = some (.string s406) ∧ (
 ∃ s407 : ByteArray, hcell H404 b3 ((0 + 1) + 1) = some (.string s407) ∧ (
 ∃ n408 : Int, hcell H404 b3 (((0 + 1) + 1) + 1) = some (.int .i64 n408) ∧ (
 ∃ f409 : Nat, hcell H404 b3 ((((0 + 1) + 1) + 1) + 1) = some (.float .f64 f409) ∧ (
 ∃ n410 : Int, hcell H404 b3 (((((0 + 1) + 1) + 1) + 1) + 1) = some (.int .i64 n410) ∧ (
 ∃ n411 : Int, hcell H404 b3 ((((((0 + 1) + 1) + 1) + 1) + 1) + 1) = some (.int .i64 n411) ∧ (
 ∃ a412 : Option Addr, ∃ l413 : Nat, ∃ c414 : Nat, hcell H404 b3 (((((((0 + 1) + 1) + 1) + 1) + 1) + 1) + 1) = some (.slice a412 l413 c414) ∧ (
 R (.agg #[(.int .i64 n405), (.string s406), (.string s407), (.int .i64 n408), (.float .f64 f409), (.int .i64 n410), (.int .i64 n411), (.slice a412 l413 c414)]) H404))))))))))))))))))))))))))))))))))) ∧ (∀ b415 : Nat, ∀ H416 : Heap, New H4 b415 [(.int .i64 0), (.string (ByteArray.mk #[])), (.string (ByteArray.mk #[])), (.int .i64 0), (.float .f64 0), (.int .i64 0), (.int .i64 0), (.slice none 0 0)] 31 H416 → (
 isL H416 b1 (0 + 10) [(.string s8)] ∧ isL H416 b1 (0 + 7) [(.int .i64 n7)] ∧ isL H416 b1 (0 + 1) [(.int .i64 n6)] ∧ isL H416 b1 0 [(.int .i64 n5)] ∧ (Does Tryz.prog 8 [(.int .i64 n5), (.int .i64 24)] H416 fun v417 H418 => ∃ n419 : Int, v417 = (.int .i64 n419) ∧ (
 isL H418 b1 (0 + 10) [(.string s8)] ∧ isL H418 b1 (0 + 7) [(.int .i64 n7)] ∧ isL H418 b1 (0 + 1) [(.int .i64 n6)] ∧ ((0 : Int) ≤ n419 ∧ (n419 : Int) < (24 : Nat) ∧ (
 ∃ n420 : Int, hcell H418 1 (0 + (Int.toNat n419)) = some (.int .i64 n420) ∧ (
 Does Tryz.prog 65 [(.int .i64 n6), (.int .i64 n7), (.string s8)] H418 fun v421 H422 => ∃ s423 : ByteArray, v421 = (.string s423) ∧ (
 isL H422 1 (0 + (Int.toNat n419)) [(.int .i64 n420)] ∧ (Cells H422 b415 0 8 ∧ ∀ H424 : Heap, Puts H422 b415 0 [(.int .i64 n420), (.string s423), (.string (ByteArray.mk #[])), (.int .i64 0), (.float .f64 0), (.int .i64 0), (.int .i64 0), (.slice none 0 0)] H424 → (
 (∃ I425 : Heap → Prop, (
 ∃ n426 : Int, hcell H424 b1 (0 + 7) = some (.int .i64 n426) ∧ (
 ((41 : Int) ≠ 0) ∧
 ∀ q427 : Int, q427 = Int.tmod n426 41 → (
 ((((q427 : Int) = 40) → (
 ∃ n428 : Int, hcell H424 b1 0 = some (.int .i64 n428) ∧ (
 Cells H424 b415 0 1 ∧ ∀ H429 : Heap, Puts H424 b415 0 [(.int .i64 n428)] H429 → (
 I425 H429)))) ∧ (¬ ((q427 : Int) = 40) → (
 I425 H424)))))) ∧
 ∀ H430 : Heap, I425 H430 → (
 ∃ I431 : Heap → Prop, (
 ∃ n432 : Int, hcell H430 b415 0 = some (.int .i64 n432) ∧ (
 ((((n432 : Int) = 1) → (
 ((((n432 : Int) = 1) → (
 ∃ n433 : Int, hcell H430 b1 (0 + 3) = some (.int .i64 n433) ∧ (
 Does Tryz.prog 8 [(.int .i64 n433), (.int .i64 4099)] H430 fun v434 H435 => ∃ n436 : Int, v434 = (.int .i64 n436) ∧ (
 (In64 (n436 - 1)) ∧
 Cells H435 b415 (0 + 3) 1 ∧ ∀ H437 : Heap, Puts H435 b415 (0 + 3) [(.int .i64 (n436 - 1))] H437 → (
 I431 H437))))) ∧ (¬ ((n432 : Int) = 1) → (
 I431 H430))))) ∧ (¬ ((n432 : Int) = 1) → (
 ((((n432 : Int) = 2) → (
 ((((n432 : Int) = 2) → (
 ∃ n438 : Int, hcell H430 b1 (0 + 3) = some (.int .i64 n438) ∧ (
 Does Tryz.prog 8 [(.int .i64 n438), (.int .i64 4099)] H430 fun v439 H440 => ∃ n441 : Int, v439 = (.int .i64 n441) ∧ (
 (In64 (n441 - 1)) ∧
 Cells H440 b415 (0 + 3) 1 ∧ ∀ H442 : Heap, Puts H440 b415 (0 + 3) [(.int .i64 (n441 - 1))] H442 → (
 I431 H442))))) ∧ (¬ ((n432 : Int) = 2) → (
 I431 H430))))) ∧ (¬ ((n432 : Int) = 2) → (
 ((((n432 : Int) = 10) → (
 ∃ n443 : Int, hcell H430 b1 (0 + 3) = some (.int .i64 n443) ∧ (
 Does Tryz.prog 8 [(.int .i64 n443), (.int .i64 4099)] H430 fun v444 H445 => ∃ n446 : Int, v444 = (.int .i64 n446) ∧ (
 (In64 (n446 - 1)) ∧
 Cells H445 b415 (0 + 3) 1 ∧ ∀ H447 : Heap, Puts H445 b415 (0 + 3) [(.int .i64 (n446 - 1))] H447 → (
 I431 H447))))) ∧ (¬ ((n432 : Int) = 10) → (
 I431 H430))))))))))) ∧
 ∀ H448 : Heap, I431 H448 → (
 ∃ I449 : Heap → Prop, (
 ∃ n450 : Int, hcell H448 b415 0 = some (.int .i64 n450) ∧ (
 ((((n450 : Int) = 1) → (
 ((((n450 : Int) = 1) → (
 ∃ n451 : Int, hcell H448 b1 (0 + 4) = some (.int .i64 n451) ∧ (
 ∃ f452 : Nat, hcell H448 b1 (0 + 8) = some (.float .f64 f452) ∧ (
 Does Tryz.prog 66 [(.int .i64 n451), (.float .f64 f452)] H448 fun v453 H454 => ∃ f455 : Nat, v453 = (.float .f64 f455) ∧ (
 Cells H454 b415 (0 + 4) 1 ∧ ∀ H456 : Heap, Puts H454 b415 (0 + 4) [(.float .f64 f455)] H456 → (
 I449 H456)))))) ∧ (¬ ((n450 : Int) = 1) → (
 I449 H448))))) ∧ (¬ ((n450 : Int) = 1) → (
 ((((n450 : Int) = 2) → (
 ((((n450 : Int) = 2) → (
 ∃ n457 : Int, hcell H448 b1 (0 + 4) = some (.int .i64 n457) ∧ (
 ∃ f458 : Nat, hcell H448 b1 (0 + 8) = some (.float .f64 f458) ∧ (
 Does Tryz.prog 66 [(.int .i64 n457), (.float .f64 f458)] H448 fun v459 H460 => ∃ f461 : Nat, v459 = (.float .f64 f461) ∧ (
 Cells H460 b415 (0 + 4) 1 ∧ ∀ H462 : Heap, Puts H460 b415 (0 + 4) [(.float .f64 f461)] H462 → (
 I449 H462)))))) ∧ (¬ ((n450 : Int) = 2) → (
 I449 H448))))) ∧ (¬ ((n450 : Int) = 2) → (
 ((((n450 : Int) = 7) → (
 ((((n450 : Int) = 7) → (
 ∃ n463 : Int, hcell H448 b1 (0 + 4) = some (.int .i64 n463) ∧ (
 ∃ f464 : Nat, hcell H448 b1 (0 + 8) = some (.float .f64 f464) ∧ (
 Does Tryz.prog 66 [(.int .i64 n463), (.float .f64 f464)] H448 fun v465 H466 => ∃ f467 : Nat, v465 = (.float .f64 f467) ∧ (
 Cells H466 b415 (0 + 4) 1 ∧ ∀ H468 : Heap, Puts H466 b415 (0 + 4) [(.float .f64 f467)] H468 → (
 I449 H468)))))) ∧ (¬ ((n450 : Int) = 7) → (
 I449 H448))))) ∧ (¬ ((n450 : Int) = 7) → (
 ((((n450 : Int) = 11) → (
 ∃ n469 : Int, hcell H448 b1 (0 + 4) = some (.int .i64 n469) ∧ (
 ∃ f470 : Nat, hcell H448 b1 (0 + 8) = some (.float .f64 f470) ∧ (
 Does Tryz.prog 66 [(.int .i64 n469), (.float .f64 f470)] H448 fun v471 H472 => ∃ f473 : Nat, v471 = (.float .f64 f473) ∧ (
 Cells H472 b415 (0 + 4) 1 ∧ ∀ H474 : Heap, Puts H472 b415 (0 + 4) [(.float .f64 f473)] H474 → (
 I449 H474)))))) ∧ (¬ ((n450 : Int) = 11) → (
 I449 H448)))))))))))))) ∧
 ∀ H475 : Heap, I449 H475 → (
 ∃ I476 : Heap → Prop, (
 ∃ n477 : Int, hcell H475 b415 0 = some (.int .i64 n477) ∧ (
 ((((n477 : Int) = 2) → (
 ((((n477 : Int) = 2) → (
 ∃ a478 : Option Addr, ∃ l479 : Nat, ∃ c480 : Nat, hcell H475 b1 (0 + 9) = some (.slice a478 l479 c480) ∧ (
 Does Tryz.prog 48 [(.slice a478 l479 c480), (.int .i64 60)] H475 fun v481 H482 => ∃ a483 : Option Addr, ∃ l484 : Nat, ∃ c485 : Nat, v481 = (.slice a483 l484 c485) ∧ (
 Cells H482 b415 (0 + 7) 1 ∧ ∀ H486 : Heap, Puts H482 b415 (0 + 7) [(.slice a483 l484 c485)] H486 → (
 ∃ n487 : Int, hcell H486 b1 (0 + 6) = some (.int .i64 n487) ∧ (
 ((67 : Int) ≠ 0) ∧
 ∀ q488 : Int, q488 = Int.tmod n487 67 → (
 ((((q488 : Int) = 66) → (
 ∃ n489 : Int, hcell H486 b1 (0 + 5) = some (.int .i64 n489) ∧ (
 Does Tryz.prog 8 [(.int .i64 n489), (.int .i64 40)] H486 fun v490 H491 => ∃ n492 : Int, v490 = (.int .i64 n492) ∧ (
 (In64 (1980 + n492)) ∧
 (0 : Int) ≤ (1980 + n492) ∧ ((1980 + n492) : Int) ≤ (1980 + n492) ∧ (1 : Int) * (1980 + n492) ≤ 281474976710656 ∧ ∀ b493 : Nat, ∀ H494 : Heap, New H491 b493 (List.replicate (Int.toNat (1980 + n492)) (.int .u8 0)) 5 H494 → (
 Cells H494 b415 (0 + 7) 1 ∧ ∀ H495 : Heap, Puts H494 b415 (0 + 7) [(.slice (some (⟨b493, 0, none⟩ : Addr)) (Int.toNat (1980 + n492)) (Int.toNat (1980 + n492)))] H495 → (
 I476 H495)))))) ∧ (¬ ((q488 : Int) = 66) → (
 I476 H486)))))))))) ∧ (¬ ((n477 : Int) = 2) → (
 ((((n477 : Int) = 7) → (
 ∃ n496 : Int, hcell H475 b1 (0 + 2) = some (.int .i64 n496) ∧ (
 Does Tryz.prog 67 [(.agg #[(.int .i64 2), (.int .i64 n496), (.int .i64 0), (.float .f64 0), (.slice none 0 0)])] H475 fun v497 H498 => ∃ n499 : Int, ∃ n500 : Int, ∃ f501 : Nat, ∃ a502 : Option Addr, ∃ l503 : Nat, ∃ c504 : Nat, v497 = (.agg #[(.int .i64 n499), (.int .i64 n500), (.float .f64 f501), (.slice a502 l503 c504)]) ∧ (
 Cells H498 b415 (0 + 7) 1 ∧ ∀ H505 : Heap, Puts H498 b415 (0 + 7) [(.slice a502 l503 c504)] H505 → (
 ∃ n506 : Int, hcell H505 b1 (0 + 6) = some (.int .i64 n506) ∧ (
 ((17 : Int) ≠ 0) ∧
 ∀ q507 : Int, q507 = Int.tmod n506 17 → (
 ((((q507 : Int) = 16) → (
 ∃ a508 : Option Addr, ∃ l509 : Nat, ∃ c510 : Nat, hcell H505 b1 (0 + 9) = some (.slice a508 l509 c510) ∧ (
 Does Tryz.prog 48 [(.slice a508 l509 c510), (.int .i64 200)] H505 fun v511 H512 => ∃ a513 : Option Addr, ∃ l514 : Nat, ∃ c515 : Nat, v511 = (.slice a513 l514 c515) ∧ (
 Cells H512 b415 (0 + 7) 1 ∧ ∀ H516 : Heap, Puts H512 b415 (0 + 7) [(.slice a513 l514 c515)] H516 → (
 I476 H516))))) ∧ (¬ ((q507 : Int) = 16) → (
 I476 H505)))))))))) ∧ (¬ ((n477 : Int) = 7) → (
 ((((n477 : Int) = 9) → (
 ∃ n517 : Int, hcell H475 b1 (0 + 2) = some (.int .i64 n517) ∧ (
 ∃ n518 : Int, hcell H475 b1 (0 + 7) = some (.int .i64 n518) ∧ (
 ((24 : Int) ≠ 0) ∧
 ∀ q519 : Int, q519 = IntKind.wrap .i64 (Int.tdiv n518 24) → (
 ∃ s520 : ByteArray, hcell H475 b1 (0 + 10) = some (.string s520) ∧ (
 Does Tryz.prog 65 [(.int .i64 n517), (.int .i64 q519), (.string s520)] H475 fun v521 H522 => ∃ s523 : ByteArray, v521 = (.string s523) ∧ (
 Cells H522 b415 (0 + 2) 1 ∧ ∀ H524 : Heap, Puts H522 b415 (0 + 2) [(.string s523)] H524 → (
 I476 H524)))))))) ∧ (¬ ((n477 : Int) = 9) → (
 I476 H475))))))))))) ∧ (¬ ((n477 : Int) = 2) → (
 ((((n477 : Int) = 3) → (
 ∃ a525 : Option Addr, ∃ l526 : Nat, ∃ c527 : Nat, hcell H475 b1 (0 + 9) = some (.slice a525 l526 c527) ∧ (
 Does Tryz.prog 48 [(.slice a525 l526 c527), (.int .i64 60)] H475 fun v528 H529 => ∃ a530 : Option Addr, ∃ l531 : Nat, ∃ c532 : Nat, v528 = (.slice a530 l531 c532) ∧ (
 Cells H529 b415 (0 + 7) 1 ∧ ∀ H533 : Heap, Puts H529 b415 (0 + 7) [(.slice a530 l531 c532)] H533 → (
 ∃ n534 : Int, hcell H533 b1 (0 + 6) = some (.int .i64 n534) ∧ (
 ((67 : Int) ≠ 0) ∧
 ∀ q535 : Int, q535 = Int.tmod n534 67 → (
 ((((q535 : Int) = 66) → (
 ∃ n536 : Int, hcell H533 b1 (0 + 5) = some (.int .i64 n536) ∧ (
 Does Tryz.prog 8 [(.int .i64 n536), (.int .i64 40)] H533 fun v537 H538 => ∃ n539 : Int, v537 = (.int .i64 n539) ∧ (
 (In64 (1980 + n539)) ∧
 (0 : Int) ≤ (1980 + n539) ∧ ((1980 + n539) : Int) ≤ (1980 + n539) ∧ (1 : Int) * (1980 + n539) ≤ 281474976710656 ∧ ∀ b540 : Nat, ∀ H541 : Heap, New H538 b540 (List.replicate (Int.toNat (1980 + n539)) (.int .u8 0)) 5 H541 → (
 Cells H541 b415 (0 + 7) 1 ∧ ∀ H542 : Heap, Puts H541 b415 (0 + 7) [(.slice (some (⟨b540, 0, none⟩ : Addr)) (Int.toNat (1980 + n539)) (Int.toNat (1980 + n539)))] H542 → (
 I476 H542)))))) ∧ (¬ ((q535 : Int) = 66) → (
 I476 H533)))))))))) ∧ (¬ ((n477 : Int) = 3) → (
 ((((n477 : Int) = 7) → (
 ∃ n543 : Int, hcell H475 b1 (0 + 2) = some (.int .i64 n543) ∧ (
 Does Tryz.prog 67 [(.agg #[(.int .i64 2), (.int .i64 n543), (.int .i64 0), (.float .f64 0), (.slice none 0 0)])] H475 fun v544 H545 => ∃ n546 : Int, ∃ n547 : Int, ∃ f548 : Nat, ∃ a549 : Option Addr, ∃ l550 : Nat, ∃ c551 : Nat, v544 = (.agg #[(.int .i64 n546), (.int .i64 n547), (.float .f64 f548), (.slice a549 l550 c551)]) ∧ (
 Cells H545 b415 (0 + 7) 1 ∧ ∀ H552 : Heap, Puts H545 b415 (0 + 7) [(.slice a549 l550 c551)] H552 → (
 ∃ n553 : Int, hcell H552 b1 (0 + 6) = some (.int .i64 n553) ∧ (
 ((17 : Int) ≠ 0) ∧
 ∀ q554 : Int, q554 = Int.tmod n553 17 → (
 ((((q554 : Int) = 16) → (
 ∃ a555 : Option Addr, ∃ l556 : Nat, ∃ c557 : Nat, hcell H552 b1 (0 + 9) = some (.slice a555 l556 c557) ∧ (
 Does Tryz.prog 48 [(.slice a555 l556 c557), (.int .i64 200)] H552 fun v558 H559 => ∃ a560 : Option Addr, ∃ l561 : Nat, ∃ c562 : Nat, v558 = (.slice a560 l561 c562) ∧ (
 Cells H559 b415 (0 + 7) 1 ∧ ∀ H563 : Heap, Puts H559 b415 (0 + 7) [(.slice a560 l561 c562)] H563 → (
 I476 H563))))) ∧ (¬ ((q554 : Int) = 16) → (
 I476 H552)))))))))) ∧ (¬ ((n477 : Int) = 7) → (
 ((((n477 : Int) = 9) → (
 ∃ n564 : Int, hcell H475 b1 (0 + 2) = some (.int .i64 n564) ∧ (
 ∃ n565 : Int, hcell H475 b1 (0 + 7) = some (.int .i64 n565) ∧ (
 ((24 : Int) ≠ 0) ∧
 ∀ q566 : Int, q566 = IntKind.wrap .i64 (Int.tdiv n565 24) → (
 ∃ s567 : ByteArray, hcell H475 b1 (0 + 10) = some (.string s567) ∧ (
 Does Tryz.prog 65 [(.int .i64 n564), (.int .i64 q566), (.string s567)] H475 fun v568 H569 => ∃ s570 : ByteArray, v568 = (.string s570) ∧ (
 Cells H569 b415 (0 + 2) 1 ∧ ∀ H571 : Heap, Puts H569 b415 (0 + 2) [(.string s570)] H571 → (
 I476 H571)))))))) ∧ (¬ ((n477 : Int) = 9) → (
 I476 H475)))))))))))))) ∧
 ∀ H572 : Heap, I476 H572 → (
 ∃ I573 : Heap → Prop, (
 ∃ n574 : Int, hcell H572 b415 0 = some (.int .i64 n574) ∧ (
 ((((n574 : Int) = 3) → (
 ((((n574 : Int) = 3) → (
 ∃ n575 : Int, hcell H572 b1 (0 + 5) = some (.int .i64 n575) ∧ (
 Does Tryz.prog 8 [(.int .i64 n575), (.int .i64 30)] H572 fun v576 H577 => ∃ n578 : Int, v576 = (.int .i64 n578) ∧ (
 (In64 (n578 - 1)) ∧
 Cells H577 b415 (0 + 5) 1 ∧ ∀ H579 : Heap, Puts H577 b415 (0 + 5) [(.int .i64 (n578 - 1))] H579 → (
 I573 H579))))) ∧ (¬ ((n574 : Int) = 3) → (
 I573 H572))))) ∧ (¬ ((n574 : Int) = 3) → (
 ((((n574 : Int) = 14) → (
 ∃ n580 : Int, hcell H572 b1 (0 + 5) = some (.int .i64 n580) ∧ (
 Does Tryz.prog 8 [(.int .i64 n580), (.int .i64 30)] H572 fun v581 H582 => ∃ n583 : Int, v581 = (.int .i64 n583) ∧ (
 (In64 (n583 - 1)) ∧
 Cells H582 b415 (0 + 5) 1 ∧ ∀ H584 : Heap, Puts H582 b415 (0 + 5) [(.int .i64 (n583 - 1))] H584 → (
 I573 H584))))) ∧ (¬ ((n574 : Int) = 14) → (
 I573 H572)))))))) ∧
 ∀ H585 : Heap, I573 H585 → (
 ∃ I586 : Heap → Prop, (
 ∃ n587 : Int, hcell H585 b415 0 = some (.int .i64 n587) ∧ (
 ((((n587 : Int) = 4) → (
 ((((n587 : Int) = 4) → (
 ∃ n588 : Int, hcell H585 b1 (0 + 6) = some (.int .i64 n588) ∧ (
 Does Tryz.prog 8 [(.int .i64 n588), (.int .i64 40)] H585 fun v589 H590 => ∃ n591 : Int, v589 = (.int .i64 n591) ∧ (
 (In64 (n591 - 1)) ∧
 Cells H590 b415 (0 + 6) 1 ∧ ∀ H592 : Heap, Puts H590 b415 (0 + 6) [(.int .i64 (n591 - 1))] H592 → (
 I586 H592))))) ∧ (¬ ((n587 : Int) = 4) → (
 I586 H585))))) ∧ (¬ ((n587 : Int) = 4) → (
 ((((n587 : Int) = 14) → (
 ∃ n593 : Int, hcell H585 b1 (0 + 6) = some (.int .i64 n593) ∧ (
 Does Tryz.prog 8 [(.int .i64 n593), (.int .i64 40)] H585 fun v594 H595 => ∃ n596 : Int, v594 = (.int .i64 n596) ∧ (
 (In64 (n596 - 1)) ∧
 Cells H595 b415 (0 + 6) 1 ∧ ∀ H597 : Heap, Puts H595 b415 (0 + 6) [(.int .i64 (n596 - 1))] H597 → (
 I586 H597))))) ∧ (¬ ((n587 : Int) = 14) → (
 I586 H585)))))))) ∧
 ∀ H598 : Heap, I586 H598 → (
 ∃ n599 : Int, hcell H598 b415 0 = some (.int .i64 n599) ∧ (
 ∃ s600 : ByteArray, hcell H598 b415 (0 + 1) = some (.string s600) ∧ (
 ∃ s601 : ByteArray, hcell H598 b415 ((0 + 1) + 1) = some (.string s601) ∧ (
 ∃ n602 : Int, hcell H598 b415 (((0 + 1) + 1) + 1) = some (.int .i64 n602) ∧ (
 ∃ f603 : Nat, hcell H598 b415 ((((0 + 1) + 1) + 1) + 1) = some (.float .f64 f603) ∧ (
 ∃ n604 : Int, hcell H598 b415 (((((0 + 1) + 1) + 1) + 1) + 1) = some (.int .i64 n604) ∧ (
 ∃ n605 : Int, hcell H598 b415 ((((((0 + 1) + 1) + 1) + 1) + 1) + 1) = some (.int .i64 n605) ∧ (
 ∃ a606 : Option Addr, ∃ l607 : Nat, ∃ c608 : Nat, hcell H598 b415 (((((((0 + 1) + 1) + 1) + 1) + 1) + 1) + 1) = some (.slice a606 l607 c608) ∧ (
 Cells H598 b3 0 8 ∧ ∀ H609 : Heap, Puts H598 b3 0 [(.int .i64 n599), (.string s600), (.string s601), (.int .i64 n602), (.float .f64 f603), (.int .i64 n604), (.int .i64 n605), (.slice a606 l607 c608)] H609 → (
 ∃ n610 : Int, hcell H609 b3 0 = some (.int .i64 n610) ∧ (
 ∃ s611 : ByteArray, hcell H609 b3 (0 + 1) = some (.string s611) ∧ (
 ∃ s612 : ByteArray, hcell H609 b3 ((0 + 1) + 1) = some (.string s612) ∧ (
 ∃ n613 : Int, hcell H609 b3 (((0 + 1) + 1) + 1) = some (.int .i64 n613) ∧ (
 ∃ f614 : Nat, hcell H609 b3 ((((0 + 1) + 1) + 1) + 1) = some (.float .f64 f614) ∧ (
 ∃ n615 : Int, hcell H609 b3 (((((0 + 1) + 1) + 1) + 1) + 1) = some (.int .i64 n615) ∧ (
 ∃ n616 : Int, hcell H609 b3 ((((((0 + 1) + 1) + 1) + 1) + 1) + 1) = some (.int .i64 n616) ∧ (
 ∃ a617 : Option Addr, ∃ l618 : Nat, ∃ c619 : Nat, hcell H609 b3 (((((((0 + 1) + 1) + 1) + 1) + 1) + 1) + 1) = some (.slice a617 l618 c619) ∧ (
 R (.agg #[(.int .i64 n610), (.string s611), (.string s612), (.int .i64 n613), (.float .f64 f614), (.int .i64 n615), (.int .i64 n616), (.slice a617 l618 c619)]) H609))))))))))))))))))))))))))))))))))))))))) := by kernel_rfl


/-- pentimento/pentimentoplay.Make -/
theorem MakeV (x0_0 : Int) (x0_1 : Int) (x0_2 : Int) (x0_3 : Int) (x0_4 : Int) (x0_5 : Int) (x0_6 : Int) (x0_7 : Int) (x0_8 : Int) (x0_9 : Int) (x0_10 : Int) (x0_11 : Int) (x0_12 : Int) (x0_13 : Nat) (x0_14 : Option Addr) (x0_14l : Nat) (x0_14c : Nat) (x0_15 : ByteArray) (x0_16 : Option Addr) (x0_16l : Nat) (x0_16c : Nat) (x1 : Bool) (H : Heap) (R : Value → Heap → Prop) : Walk Tryz.prog 22 [(41, [])] [(.agg #[(.int .i64 x0_0), (.int .i64 x0_1), (.int .i64 x0_2), (.int .i64 x0_3), (.int .i64 x0_4), (.int .i64 x0_5), (.int .i64 x0_6), (.int .i64 x0_7), (.int .i64 x0_8), (.int .i64 x0_9), (.int .i64 x0_10), (.int .i64 x0_11), (.int .i64 x0_12), (.float .f64 x0_13), (.slice x0_14 x0_14l x0_14c), (.string x0_15), (.slice x0_16 x0_16l x0_16c)]), (.bool x1)] H R = (
 ∀ b1 : Nat, ∀ H2 : Heap, New H b1 [(.int .i64 x0_0), (.int .i64 x0_1), (.int .i64 x0_2), (.int .i64 x0_3), (.int .i64 x0_4), (.int .i64 x0_5), (.int .i64 x0_6), (.int .i64 x0_7), (.int .i64 x0_8), (.int .i64 x0_9), (.int .i64 x0_10), (.int .i64 x0_11), (.int .i64 x0_12), (.float .f64 x0_13), (.slice x0_14 x0_14l x0_14c), (.string x0_15), (.slice x0_16 x0_16l x0_16c)] 27 H2 → (
 ∀ b3 : Nat, ∀ H4 : Heap, New H2 b3 [(.int .i64 0), (.string (ByteArray.mk #[])), (.string (ByteArray.mk #[])), (.string (ByteArray.mk #[])), (.int .i64 0), (.string (ByteArray.mk #[])), (.string (ByteArray.mk #[])), (.int .i64 0), (.float .f64 0), (.int .i64 0), (.int .i64 0), (.slice none 0 0), (.int .i64 0), (.slice none 0 0)] 67 H4 → (
 ∃ n5 : Int, hcell H4 b1 (0 + 1) = some (.int .i64 n5) ∧ (
 Does Tryz.prog 46 [(.int .i64 n5)] H4 fun v6 H7 => ∃ s8 : ByteArray, v6 = (.string s8) ∧ (
 ∀ b9 : Nat, ∀ H10 : Heap, New H7 b9 [(.int .i64 0), (.string (ByteArray.mk #[])), (.string (ByteArray.mk #[])), (.string (ByteArray.mk #[])), (.int .i64 0), (.string (ByteArray.mk #[])), (.string (ByteArray.mk #[])), (.int .i64 0), (.float .f64 0), (.int .i64 0), (.int .i64 0), (.slice none 0 0), (.int .i64 0), (.slice none 0 0)] 67 H10 → (
 Cells H10 b9 0 14 ∧ ∀ H11 : Heap, Puts H10 b9 0 [(.int .i64 0), (.string s8), (.string (ByteArray.mk #[])), (.string (ByteArray.mk #[])), (.int .i64 0), (.string (ByteArray.mk #[])), (.string (ByteArray.mk #[])), (.int .i64 0), (.float .f64 0), (.int .i64 0), (.int .i64 0), (.slice none 0 0), (.int .i64 0), (.slice none 0 0)] H11 → (
 ∃ I12 : Heap → Prop, (
 ∃ n13 : Int, hcell H11 b1 0 = some (.int .i64 n13) ∧ (
 Does Tryz.prog 8 [(.int .i64 n13), (.int .i64 25)] H11 fun v14 H15 => ∃ n16 : Int, v14 = (.int .i64 n16) ∧ (
 ((((n16 : Int) < 12) → (
 Cells H15 b9 0 1 ∧ ∀ H17 : Heap, Puts H15 b9 0 [(.int .i64 1)] H17 → (
 ∃ n18 : Int, hcell H17 b1 (0 + 5) = some (.int .i64 n18) ∧ (
 ∃ n19 : Int, hcell H17 b1 ((0 + 5) + 1) = some (.int .i64 n19) ∧ (
 ∃ n20 : Int, hcell H17 b1 (((0 + 5) + 1) + 1) = some (.int .i64 n20) ∧ (
 ∃ n21 : Int, hcell H17 b1 ((((0 + 5) + 1) + 1) + 1) = some (.int .i64 n21) ∧ (
 ∃ n22 : Int, hcell H17 b1 (((((0 + 5) + 1) + 1) + 1) + 1) = some (.int .i64 n22) ∧ (
 ∃ n23 : Int, hcell H17 b1 ((((((0 + 5) + 1) + 1) + 1) + 1) + 1) = some (.int .i64 n23) ∧ (
 ∃ n24 : Int, hcell H17 b1 (((((((0 + 5) + 1) + 1) + 1) + 1) + 1) + 1) = some (.int .i64 n24) ∧ (
 ∃ n25 : Int, hcell H17 b1 ((((((((0 + 5) + 1) + 1) + 1) + 1) + 1) + 1) + 1) = some (.int .i64 n25) ∧ (
 ∃ f26 : Nat, hcell H17 b1 (((((((((0 + 5) + 1) + 1) + 1) + 1) + 1) + 1) + 1) + 1) = some (.float .f64 f26) ∧ (
 ∃ a27 : Option Addr, ∃ l28 : Nat, ∃ c29 : Nat, hcell H17 b1 ((((((((((0 + 5) + 1) + 1) + 1) + 1) + 1) + 1) + 1) + 1) + 1) = some (.slice a27 l28 c29) ∧ (
 ∃ s30 : ByteArray, hcell H17 b1 (((((((((((0 + 5) + 1) + 1) + 1) + 1) + 1) + 1) + 1) + 1) + 1) + 1) = some (.string s30) ∧ (
 Does Tryz.prog 47 [(.agg #[(.int .i64 n18), (.int .i64 n19), (.int .i64 n20), (.int .i64 n21), (.int .i64 n22), (.int .i64 n23), (.int .i64 n24), (.int .i64 n25), (.float .f64 f26), (.slice a27 l28 c29), (.string s30)])] H17 fun v31 H32 => ∃ n33 : Int, ∃ s34 : ByteArray, ∃ s35 : ByteArray, ∃ n36 : Int, ∃ f37 : Nat, ∃ n38 : Int, ∃ n39 : Int, ∃ a40 : Option Addr, ∃ l41 : Nat, ∃ c42 : Nat, v31 = (.agg #[(.int .i64 n33), (.string s34), (.string s35), (.int .i64 n36), (.float .f64 f37), (.int .i64 n38), (.int .i64 n39), (.slice a40 l41 c42)]) ∧ (
 Cells H32 b9 (0 + 4) 8 ∧ ∀ H43 : Heap, Puts H32 b9 (0 + 4) [(.int .i64 n33), (.string s34), (.string s35), (.int .i64 n36), (.float .f64 f37), (.int .i64 n38), (.int .i64 n39), (.slice a40 l41 c42)] H43 → (
 ∃ n44 : Int, hcell H43 b1 (0 + 1) = some (.int .i64 n44) ∧ (
 ((3 : Int) ≠ 0) ∧
 ∀ q45 : Int, q45 = Int.tmod n44 3 → (
 ((((0 : Int) < q45) → (
 Cells H43 b9 (0 + 1) 1 ∧ ∀ H46 : Heap, Puts H43 b9 (0 + 1) [(.string (ByteArray.mk #[109, 97, 105, 110]))] H46 → (
 I12 H46))) ∧ (¬ ((0 : Int) < q45) → (
 I12 H43))))))))))))))))))))) ∧ (¬ ((n16 : Int) < 12) → (
 ((((n16 : Int) < 14) → (
 Cells H15 b9 0 1 ∧ ∀ H47 : Heap, Puts H15 b9 0 [(.int .i64 2)] H47 → (
 ∃ n48 : Int, hcell H47 b1 (0 + 2) = some (.int .i64 n48) ∧ (
 Does Tryz.prog 46 [(.int .i64 n48)] H47 fun v49 H50 => ∃ s51 : ByteArray, v49 = (.string s51) ∧ (
 Cells H50 b9 (0 + 2) 1 ∧ ∀ H52 : Heap, Puts H50 b9 (0 + 2) [(.string s51)] H52 → (
 ∃ n53 : Int, hcell H52 b1 (0 + 1) = some (.int .i64 n53) ∧ (
 ((2 : Int) ≠ 0) ∧
 ∀ q54 : Int, q54 = Int.tmod n53 2 → (
 ((((q54 : Int) = 0) → (
 Cells H52 b9 (0 + 1) 1 ∧ ∀ H55 : Heap, Puts H52 b9 (0 + 1) [(.string (ByteArray.mk #[109, 97, 105, 110]))] H55 → (
 I12 H55))) ∧ (¬ ((q54 : Int) = 0) → (
 I12 H52))))))))))) ∧ (¬ ((n16 : Int) < 14) → (
 ((((n16 : Int) < 16) → (
 Cells H15 b9 0 1 ∧ ∀ H56 : Heap, Puts H15 b9 0 [(.int .i64 3)] H56 → (
 ∃ n57 : Int, hcell H56 b1 (0 + 2) = some (.int .i64 n57) ∧ (
 Does Tryz.prog 46 [(.int .i64 n57)] H56 fun v58 H59 => ∃ s60 : ByteArray, v58 = (.string s60) ∧ (
 Cells H59 b9 (0 + 2) 1 ∧ ∀ H61 : Heap, Puts H59 b9 (0 + 2) [(.string s60)] H61 → (
 I12 H61)))))) ∧ (¬ ((n16 : Int) < 16) → (
 ((((n16 : Int) = 16) → (
 Cells H15 b9 0 1 ∧ ∀ H62 : Heap, Puts H15 b9 0 [(.int .i64 4)] H62 → (
 ∃ n63 : Int, hcell H62 b1 (0 + 2) = some (.int .i64 n63) ∧ (
 Does Tryz.prog 46 [(.int .i64 n63)] H62 fun v64 H65 => ∃ s66 : ByteArray, v64 = (.string s66) ∧ (
 Cells H65 b9 (0 + 2) 1 ∧ ∀ H67 : Heap, Puts H65 b9 (0 + 2) [(.string s66)] H67 → (
 I12 H67)))))) ∧ (¬ ((n16 : Int) = 16) → (
 ((((n16 : Int) = 17) → (
 Cells H15 b9 0 1 ∧ ∀ H68 : Heap, Puts H15 b9 0 [(.int .i64 5)] H68 → (
 ∃ n69 : Int, hcell H68 b1 (0 + 2) = some (.int .i64 n69) ∧ (
 Does Tryz.prog 46 [(.int .i64 n69)] H68 fun v70 H71 => ∃ s72 : ByteArray, v70 = (.string s72) ∧ (
 Cells H71 b9 (0 + 2) 1 ∧ ∀ H73 : Heap, Puts H71 b9 (0 + 2) [(.string s72)] H73 → (
 ∃ n74 : Int, hcell H73 b1 (0 + 3) = some (.int .i64 n74) ∧ (
 Does Tryz.prog 46 [(.int .i64 n74)] H73 fun v75 H76 => ∃ s77 : ByteArray, v75 = (.string s77) ∧ (
 Cells H76 b9 (0 + 3) 1 ∧ ∀ H78 : Heap, Puts H76 b9 (0 + 3) [(.string s77)] H78 → (
 I12 H78))))))))) ∧ (¬ ((n16 : Int) = 17) → (
 ((((n16 : Int) < 20) → (
 Cells H15 b9 0 1 ∧ ∀ H79 : Heap, Puts H15 b9 0 [(.int .i64 6)] H79 → (
 ∃ n80 : Int, hcell H79 b1 (0 + 2) = some (.int .i64 n80) ∧ (
 Does Tryz.prog 46 [(.int .i64 n80)] H79 fun v81 H82 => ∃ s83 : ByteArray, v81 = (.string s83) ∧ (
 Cells H82 b9 (0 + 2) 1 ∧ ∀ H84 : Heap, Puts H82 b9 (0 + 2) [(.string s83)] H84 → (
 ∃ n85 : Int, hcell H84 b1 (0 + 3) = some (.int .i64 n85) ∧ (
 Does Tryz.prog 46 [(.int .i64 n85)] H84 fun v86 H87 => ∃ s88 : ByteArray, v86 = (.string s88) ∧ (
 Cells H87 b9 (0 + 3) 1 ∧ ∀ H89 : Heap, Puts H87 b9 (0 + 3) [(.string s88)] H89 → (
 I12 H89))))))))) ∧ (¬ ((n16 : Int) < 20) → (
 ((((n16 : Int) = 20) → (
 Cells H15 b9 0 1 ∧ ∀ H90 : Heap, Puts H15 b9 0 [(.int .i64 7)] H90 → (
 ∃ n91 : Int, hcell H90 b1 (0 + 2) = some (.int .i64 n91) ∧ (
 Does Tryz.prog 46 [(.int .i64 n91)] H90 fun v92 H93 => ∃ s94 : ByteArray, v92 = (.string s94) ∧ (
 Cells H93 b9 (0 + 2) 1 ∧ ∀ H95 : Heap, Puts H93 b9 (0 + 2) [(.string s94)] H95 → (
 I12 H95)))))) ∧ (¬ ((n16 : Int) = 20) → (
 ((((n16 : Int) = 21) → (
 Cells H15 b9 0 1 ∧ ∀ H96 : Heap, Puts H15 b9 0 [(.int .i64 8)] H96 → (
 ∃ n97 : Int, hcell H96 b1 (0 + 2) = some (.int .i64 n97) ∧ (
 ((3 : Int) ≠ 0) ∧
 ∀ q98 : Int, q98 = Int.tmod n97 3 → (
 ((((0 : Int) < q98) → (
 Cells H96 b9 0 1 ∧ ∀ H99 : Heap, Puts H96 b9 0 [(.int .i64 9)] H99 → (
 I12 H99))) ∧ (¬ ((0 : Int) < q98) → (
 I12 H96)))))))) ∧ (¬ ((n16 : Int) = 21) → (
 ((((n16 : Int) = 22) → (
 Cells H15 b9 0 1 ∧ ∀ H100 : Heap, Puts H15 b9 0 [(.int .i64 9)] H100 → (
 I12 H100))) ∧ (¬ ((n16 : Int) = 22) → (
 (((x1 = false) → (
 Cells H15 b9 0 1 ∧ ∀ H101 : Heap, Puts H15 b9 0 [(.int .i64 9)] H101 → (
 I12 H101))) ∧ (¬ (x1 = false) → (
 ((((n16 : Int) = 23) → (
 Cells H15 b9 0 1 ∧ ∀ H102 : Heap, Puts H15 b9 0 [(.int .i64 11)] H102 → (
 ∃ a103 : Option Addr, ∃ l104 : Nat, ∃ c105 : Nat, hcell H102 b1 (0 + 16) = some (.slice a103 l104 c105) ∧ (
 Does Tryz.prog 48 [(.slice a103 l104 c105), (.int .i64 60)] H102 fun v106 H107 => ∃ a108 : Option Addr, ∃ l109 : Nat, ∃ c110 : Nat, v106 = (.slice a108 l109 c110) ∧ (
 Cells H107 b9 (0 + 13) 1 ∧ ∀ H111 : Heap, Puts H107 b9 (0 + 13) [(.slice a108 l109 c110)] H111 → (
 I12 H111)))))) ∧ (¬ ((n16 : Int) = 23) → (
 Cells H15 b9 0 1 ∧ ∀ H112 : Heap, Puts H15 b9 0 [(.int .i64 10)] H112 → (
 ∃ n113 : Int, hcell H112 b1 (0 + 4) = some (.int .i64 n113) ∧ (
 Does Tryz.prog 8 [(.int .i64 n113), (.int .i64 40)] H112 fun v114 H115 => ∃ n116 : Int, v114 = (.int .i64 n116) ∧ (
 Cells H115 b9 (0 + 12) 1 ∧ ∀ H117 : Heap, Puts H115 b9 (0 + 12) [(.int .i64 n116)] H117 → (
 I12 H117)))))))))))))))))))))))))))))))))))))))) ∧
 ∀ H118 : Heap, I12 H118 → (
 ∃ n119 : Int, hcell H118 b9 0 = some (.int .i64 n119) ∧ (
 ∃ s120 : ByteArray, hcell H118 b9 (0 + 1) = some (.string s120) ∧ (
 ∃ s121 : ByteArray, hcell H118 b9 ((0 + 1) + 1) = some (.string s121) ∧ (
 ∃ s122 : ByteArray, hcell H118 b9 (((0 + 1) + 1) + 1) = some (.string s122) ∧ (
 ∃ n123 : Int, hcell H118 b9 ((((0 + 1) + 1) + 1) + 1) = some (.int .i64 n123) ∧ (
 ∃ s124 : ByteArray, hcell H118 b9 (((((0 + 1) + 1) + 1) + 1) + 1) = some (.string s124) ∧ (
 ∃ s125 : ByteArray, hcell H118 b9 ((((((0 + 1) + 1) + 1) + 1) + 1) + 1) = some (.string s125) ∧ (
 ∃ n126 : Int, hcell H118 b9 (((((((0 + 1) + 1) + 1) + 1) + 1) + 1) + 1) = some (.int .i64 n126) ∧ (
 ∃ f127 : Nat, hcell H118 b9 ((((((((0 + 1) + 1) + 1) + 1) + 1) + 1) + 1) + 1) = some (.float .f64 f127) ∧ (
 ∃ n128 : Int, hcell H118 b9 (((((((((0 + 1) + 1) + 1) + 1) + 1) + 1) + 1) + 1) + 1) = some (.int .i64 n128) ∧ (
 ∃ n129 : Int, hcell H118 b9 ((((((((((0 + 1) + 1) + 1) + 1) + 1) + 1) + 1) + 1) + 1) + 1) = some (.int .i64 n129) ∧ (
 ∃ a130 : Option Addr, ∃ l131 : Nat, ∃ c132 : Nat, hcell H118 b9 (((((((((((0 + 1) + 1) + 1) + 1) + 1) + 1) + 1) + 1) + 1) + 1) + 1) = some (.slice a130 l131 c132) ∧ (
 ∃ n133 : Int, hcell H118 b9 ((((((((((((0 + 1) + 1) + 1) + 1) + 1) + 1) + 1) + 1) + 1) + 1) + 1) + 1) = some (.int .i64 n133) ∧ (
 ∃ a134 : Option Addr, ∃ l135 : Nat, ∃ c136 : Nat, hcell H118 b9 (((((((((((((0 + 1) + 1) + 1) + 1) + 1) + 1) + 1) + 1) + 1) + 1) + 1) + 1) + 1) = some (.slice a134 l135 c136) ∧ (
 Cells H118 b3 0 14 ∧ ∀ H137 : Heap, Puts H118 b3 0 [(.int .i64 n119), (.string s120), (.string s121), (.string s122), (.int .i64 n123), (.string s124), (.string s125), (.int .i64 n126), (.float .f64 f127), (.int .i64 n128), (.int .i64 n129), (.slice a130 l131 c132), (.int .i64 n133), (.slice a134 l135 c136)] H137 → (
 ∃ n138 : Int, hcell H137 b3 0 = some (.int .i64 n138) ∧ (
 ∃ s139 : ByteArray, hcell H137 b3 (0 + 1) = some (.string s139) ∧ (
 ∃ s140 : ByteArray, hcell H137 b3 ((0 + 1) + 1) = some (.string s140) ∧ (
 ∃ s141 : ByteArray, hcell H137 b3 (((0 + 1) + 1) + 1) = some (.string s141) ∧ (
 ∃ n142 : Int, hcell H137 b3 ((((0 + 1) + 1) + 1) + 1) = some (.int .i64 n142) ∧ (
 ∃ s143 : ByteArray, hcell H137 b3 (((((0 + 1) + 1) + 1) + 1) + 1) = some (.string s143) ∧ (
 ∃ s144 : ByteArray, hcell H137 b3 ((((((0 + 1) + 1) + 1) + 1) + 1) + 1) = some (.string s144) ∧ (
 ∃ n145 : Int, hcell H137 b3 (((((((0 + 1) + 1) + 1) + 1) + 1) + 1) + 1) = some (.int .i64 n145) ∧ (
 ∃ f146 : Nat, hcell H137 b3 ((((((((0 + 1) + 1) + 1) + 1) + 1) + 1) + 1) + 1) = some (.float .f64 f146) ∧ (
 ∃ n147 : Int, hcell H137 b3 (((((((((0 + 1) + 1) + 1) + 1) + 1) + 1) + 1) + 1) + 1) = some (.int .i64 n147) ∧ (
 ∃ n148 : Int, hcell H137 b3 ((((((((((0 + 1) + 1) + 1) + 1) + 1) + 1) + 1) + 1) + 1) + 1) = some (.int .i64 n148) ∧ (
 ∃ a149 : Option Addr, ∃ l150 : Nat, ∃ c151 : Nat, hcell H137 b3 (((((((((((0 + 1) + 1) + 1) + 1) + 1) + 1) + 1) + 1) + 1) + 1) + 1) = some (.slice a149 l150 c151) ∧ (
 ∃ n152 : Int, hcell H137 b3 ((((((((((((0 + 1) + 1) + 1) + 1) + 1) + 1) + 1) + 1) + 1) + 1) + 1) + 1) = some (.int .i64 n152) ∧ (
 ∃ a153 : Option Addr, ∃ l154 : Nat, ∃ c155 : Nat, hcell H137 b3 (((((((((((((0 + 1) + 1) + 1) + 1) + 1) + 1) + 1) + 1) + 1) + 1) + 1) + 1) + 1) = some (.slice a153 l154 c155) ∧ (
 R (.agg #[(.int .i64 n138), (.string s139), (.string s140), (.string s141), (.int .i64 n142), (.string s143), (.string s144), (.int .i64 n145), (.float .f64 f146), (.int .i64 n147), (.int .i64 n148), (.slice a149 l150 c151), (.int .i64 n152), (.slice a153 l154 c155)]) H137))))))))))))))))))))))))))))))))))))) := by kernel_rfl


/-- pentimento/pentimentolaw25.event -/
theorem EventV (x0_0 : Int) (x0_1 : Int) (x0_2 : Int) (x0_3 : Int) (x0_4 : Int) (x0_5 : Int) (x0_6 : Int) (x0_7 : Int) (x0_8 : Int) (x0_9 : Int) (x0_10 : Int) (x0_11 : Int) (x0_12 : Int) (x0_13 : Nat) (x0_14 : Option Addr) (x0_14l : Nat) (x0_14c : Nat) (x0_15 : ByteArray) (x0_16 : Option Addr) (x0_16l : Nat) (x0_16c : Nat) (x1 : Int) (H : Heap) (R : Value → Heap → Prop) : Walk Tryz.prog 7 [(19, [])] [(.agg #[(.int .i64 x0_0), (.int .i64 x0_1), (.int .i64 x0_2), (.int .i64 x0_3), (.int .i64 x0_4), (.int .i64 x0_5), (.int .i64 x0_6), (.int .i64 x0_7), (.int .i64 x0_8), (.int .i64 x0_9), (.int .i64 x0_10), (.int .i64 x0_11), (.int .i64 x0_12), (.float .f64 x0_13), (.slice x0_14 x0_14l x0_14c), (.string x0_15), (.slice x0_16 x0_16l x0_16c)]), (.int .i64 x1)] H R = (
 ∀ b1 : Nat, ∀ H2 : Heap, New H b1 [(.int .i64 x0_0), (.int .i64 x0_1), (.int .i64 x0_2), (.int .i64 x0_3), (.int .i64 x0_4), (.int .i64 x0_5), (.int .i64 x0_6), (.int .i64 x0_7), (.int .i64 x0_8), (.int .i64 x0_9), (.int .i64 x0_10), (.int .i64 x0_11), (.int .i64 x0_12), (.float .f64 x0_13), (.slice x0_14 x0_14l x0_14c), (.string x0_15), (.slice x0_16 x0_16l x0_16c)] 27 H2 → (
 ∀ b3 : Nat, ∀ H4 : Heap, New H2 b3 [(.int .i64 0), (.string (ByteArray.mk #[])), (.string (ByteArray.mk #[])), (.string (ByteArray.mk #[])), (.int .i64 0), (.string (ByteArray.mk #[])), (.string (ByteArray.mk #[])), (.int .i64 0), (.float .f64 0), (.int .i64 0), (.int .i64 0), (.slice none 0 0), (.int .i64 0), (.slice none 0 0)] 33 H4 → (
 ∃ n5 : Int, hcell H4 b1 0 = some (.int .i64 n5) ∧ (
 ∃ n6 : Int, hcell H4 b1 (0 + 1) = some (.int .i64 n6) ∧ (
 ∃ n7 : Int, hcell H4 b1 ((0 + 1) + 1) = some (.int .i64 n7) ∧ (
 ∃ n8 : Int, hcell H4 b1 (((0 + 1) + 1) + 1) = some (.int .i64 n8) ∧ (
 ∃ n9 : Int, hcell H4 b1 ((((0 + 1) + 1) + 1) + 1) = some (.int .i64 n9) ∧ (
 ∃ n10 : Int, hcell H4 b1 (((((0 + 1) + 1) + 1) + 1) + 1) = some (.int .i64 n10) ∧ (
 ∃ n11 : Int, hcell H4 b1 ((((((0 + 1) + 1) + 1) + 1) + 1) + 1) = some (.int .i64 n11) ∧ (
 ∃ n12 : Int, hcell H4 b1 (((((((0 + 1) + 1) + 1) + 1) + 1) + 1) + 1) = some (.int .i64 n12) ∧ (
 ∃ n13 : Int, hcell H4 b1 ((((((((0 + 1) + 1) + 1) + 1) + 1) + 1) + 1) + 1) = some (.int .i64 n13) ∧ (
 ∃ n14 : Int, hcell H4 b1 (((((((((0 + 1) + 1) + 1) + 1) + 1) + 1) + 1) + 1) + 1) = some (.int .i64 n14) ∧ (
 ∃ n15 : Int, hcell H4 b1 ((((((((((0 + 1) + 1) + 1) + 1) + 1) + 1) + 1) + 1) + 1) + 1) = some (.int .i64 n15) ∧ (
 ∃ n16 : Int, hcell H4 b1 (((((((((((0 + 1) + 1) + 1) + 1) + 1) + 1) + 1) + 1) + 1) + 1) + 1) = some (.int .i64 n16) ∧ (
 ∃ n17 : Int, hcell H4 b1 ((((((((((((0 + 1) + 1) + 1) + 1) + 1) + 1) + 1) + 1) + 1) + 1) + 1) + 1) = some (.int .i64 n17) ∧ (
 ∃ f18 : Nat, hcell H4 b1 (((((((((((((0 + 1) + 1) + 1) + 1) + 1) + 1) + 1) + 1) + 1) + 1) + 1) + 1) + 1) = some (.float .f64 f18) ∧ (
 ∃ a19 : Option Addr, ∃ l20 : Nat, ∃ c21 : Nat, hcell H4 b1 ((((((((((((((0 + 1) + 1) + 1) + 1) + 1) + 1) + 1) + 1) + 1) + 1) + 1) + 1) + 1) + 1) = some (.slice a19 l20 c21) ∧ (
 ∃ s22 : ByteArray, hcell H4 b1 (((((((((((((((0 + 1) + 1) + 1) + 1) + 1) + 1) + 1) + 1) + 1) + 1) + 1) + 1) + 1) + 1) + 1) = some (.string s22) ∧ (
 ∃ a23 : Option Addr, ∃ l24 : Nat, ∃ c25 : Nat, hcell H4 b1 ((((((((((((((((0 + 1) + 1) + 1) + 1) + 1) + 1) + 1) + 1) + 1) + 1) + 1) + 1) + 1) + 1) + 1) + 1) = some (.slice a23 l24 c25) ∧ (
 Does Tryz.prog 22 [(.agg #[(.int .i64 n5), (.int .i64 n6), (.int .i64 n7), (.int .i64 n8), (.int .i64 n9), (.int .i64 n10), (.int .i64 n11), (.int .i64 n12), (.int .i64 n13), (.int .i64 n14), (.int .i64 n15), (.int .i64 n16), (.int .i64 n17), (.float .f64 f18), (.slice a19 l20 c21), (.string s22), (.slice a23 l24 c25)]), (.bool true)] H4 fun v26 H27 => ∃ n28 : Int, ∃ s29 : ByteArray, ∃ s30 : ByteArray, ∃ s31 : ByteArray, ∃ n32 : Int, ∃ s33 : ByteArray, ∃ s34 : ByteArray, ∃ n35 : Int, ∃ f36 : Nat, ∃ n37 : Int, ∃ n38 : Int, ∃ a39 : Option Addr, ∃ l40 : Nat, ∃ c41 : Nat, ∃ n42 : Int, ∃ a43 : Option Addr, ∃ l44 : Nat, ∃ c45 : Nat, v26 = (.agg #[(.int .i64 n28), (.string s29), (.string s30), (.string s31), (.int .i64 n32), (.string s33), (.string s34), (.int .i64 n35), (.float .f64 f36), (.int .i64 n37), (.int .i64 n38), (.slice a39 l40 c41), (.int .i64 n42), (.slice a43 l44 c45)]) ∧ (
 ∀ b46 : Nat, ∀ H47 : Heap, New H27 b46 [(.int .i64 0), (.string (ByteArray.mk #[])), (.string (ByteArray.mk #[])), (.string (ByteArray.mk #[])), (.int .i64 0), (.string (ByteArray.mk #[])), (.string (ByteArray.mk #[])), (.int .i64 0), (.float .f64 0), (.int .i64 0), (.int .i64 0), (.slice none 0 0), (.int .i64 0), (.slice none 0 0)] 33 H47 → (
 Cells H47 b46 0 14 ∧ ∀ H48 : Heap, Puts H47 b46 0 [(.int .i64 n28), (.string s29), (.string s30), (.string s31), (.int .i64 n32), (.string s33), (.string s34), (.int .i64 n35), (.float .f64 f36), (.int .i64 n37), (.int .i64 n38), (.slice a39 l40 c41), (.int .i64 n42), (.slice a43 l44 c45)] H48 → (
 ∃ I49 : Heap → Prop, (
 Does Tryz.prog 8 [(.int .i64 x1), (.int .i64 16)] H48 fun v50 H51 => ∃ n52 : Int, v50 = (.int .i64 n52) ∧ (
 ((((n52 : Int) = 0) → (
 ((16 : Int) ≠ 0) ∧
 ∀ q53 : Int, q53 = IntKind.wrap .i64 (Int.tdiv x1 16) → (
 Does Tryz.prog 8 [(.int .i64 q53), (.int .i64 14)] H51 fun v54 H55 => ∃ n56 : Int, v54 = (.int .i64 n56) ∧ (
 Cells H55 b46 0 1 ∧ ∀ H57 : Heap, Puts H55 b46 0 [(.int .i64 n56)] H57 → (
 I49 H57))))) ∧ (¬ ((n52 : Int) = 0) → (
 ((((n52 : Int) = 1) → (
 ((16 : Int) ≠ 0) ∧
 ∀ q58 : Int, q58 = IntKind.wrap .i64 (Int.tdiv x1 16) → (
 Does Tryz.prog 8 [(.int .i64 q58), (.int .i64 18)] H51 fun v59 H60 => ∃ n61 : Int, v59 = (.int .i64 n61) ∧ (
 Cells H60 b46 (0 + 4) 1 ∧ ∀ H62 : Heap, Puts H60 b46 (0 + 4) [(.int .i64 n61)] H62 → (
 I49 H62))))) ∧ (¬ ((n52 : Int) = 1) → (
 ((((n52 : Int) = 2) → (
 Cells H51 b46 (0 + 12) 1 ∧ ∀ H63 : Heap, Puts H51 b46 (0 + 12) [(.int .i64 x1)] H63 → (
 I49 H63))) ∧ (¬ ((n52 : Int) = 2) → (
 ((((n52 : Int) = 3) → (
 Cells H51 b46 ((0 + 4) + 3) 1 ∧ ∀ H64 : Heap, Puts H51 b46 ((0 + 4) + 3) [(.int .i64 x1)] H64 → (
 I49 H64))) ∧ (¬ ((n52 : Int) = 3) → (
 ((((n52 : Int) = 4) → (
 ((16 : Int) ≠ 0) ∧
 ∀ q65 : Int, q65 = IntKind.wrap .i64 (Int.tdiv x1 16) → (
 Does Tryz.prog 8 [(.int .i64 q65), (.int .i64 220)] H51 fun v66 H67 => ∃ n68 : Int, v66 = (.int .i64 n68) ∧ (
 (0 : Int) ≤ n68 ∧ (n68 : Int) ≤ n68 ∧ (1 : Int) * n68 ≤ 281474976710656 ∧ ∀ b69 : Nat, ∀ H70 : Heap, New H67 b69 (List.replicate (Int.toNat n68) (.int .u8 0)) 5 H70 → (
 ∃ l71 : List UInt8, SRow H70 1 (Int.toNat n68) (.slice (some (⟨b69, 0, none⟩ : Addr)) (Int.toNat n68) (Int.toNat n68)) (List.map (fun (b : UInt8) => Value.int .u8 b.toNat) l71) ∧ (
 Cells H70 b46 (0 + 1) 1 ∧ ∀ H72 : Heap, Puts H70 b46 (0 + 1) [(.string (ByteArray.mk (List.toArray l71)))] H72 → (
 I49 H72))))))) ∧ (¬ ((n52 : Int) = 4) → (
 ((((n52 : Int) = 5) → (
 Cells H51 b46 ((0 + 4) + 5) 1 ∧ ∀ H73 : Heap, Puts H51 b46 ((0 + 4) + 5) [(.int .i64 x1)] H73 → (
 I49 H73))) ∧ (¬ ((n52 : Int) = 5) → (
 ((((n52 : Int) = 6) → (
 ((16 : Int) ≠ 0) ∧
 ∀ q74 : Int, q74 = IntKind.wrap .i64 (Int.tdiv x1 16) → (
 Does Tryz.prog 8 [(.int .i64 q74), (.int .i64 3100)] H51 fun v75 H76 => ∃ n77 : Int, v75 = (.int .i64 n77) ∧ (
 (0 : Int) ≤ n77 ∧ (n77 : Int) ≤ n77 ∧ (1 : Int) * n77 ≤ 281474976710656 ∧ ∀ b78 : Nat, ∀ H79 : Heap, New H76 b78 (List.replicate (Int.toNat n77) (.int .u8 0)) 5 H79 → (
 Cells H79 b46 (0 + 13) 1 ∧ ∀ H80 : Heap, Puts H79 b46 (0 + 13) [(.slice (some (⟨b78, 0, none⟩ : Addr)) (Int.toNat n77) (Int.toNat n77))] H80 → (
 I49 H80)))))) ∧ (¬ ((n52 : Int) = 6) → (
 ((((n52 : Int) = 7) → (
 ((16 : Int) ≠ 0) ∧
 ∀ q81 : Int, q81 = IntKind.wrap .i64 (Int.tdiv x1 16) → (
 Does Tryz.prog 8 [(.int .i64 q81), (.int .i64 3100)] H51 fun v82 H83 => ∃ n84 : Int, v82 = (.int .i64 n84) ∧ (
 (0 : Int) ≤ n84 ∧ (n84 : Int) ≤ n84 ∧ (1 : Int) * n84 ≤ 281474976710656 ∧ ∀ b85 : Nat, ∀ H86 : Heap, New H83 b85 (List.replicate (Int.toNat n84) (.int .u8 0)) 5 H86 → (
 Cells H86 b46 ((0 + 4) + 7) 1 ∧ ∀ H87 : Heap, Puts H86 b46 ((0 + 4) + 7) [(.slice (some (⟨b85, 0, none⟩ : Addr)) (Int.toNat n84) (Int.toNat n84))] H87 → (
 I49 H87)))))) ∧ (¬ ((n52 : Int) = 7) → (
 I49 H51)))))))))))))))))))))))))) ∧
 ∀ H88 : Heap, I49 H88 → (
 ∃ n89 : Int, hcell H88 b46 0 = some (.int .i64 n89) ∧ (
 ∃ s90 : ByteArray, hcell H88 b46 (0 + 1) = some (.string s90) ∧ (
 ∃ s91 : ByteArray, hcell H88 b46 ((0 + 1) + 1) = some (.string s91) ∧ (
 ∃ s92 : ByteArray, hcell H88 b46 (((0 + 1) + 1) + 1) = some (.string s92) ∧ (
 ∃ n93 : Int, hcell H88 b46 ((((0 + 1) + 1) + 1) + 1) = some (.int .i64 n93) ∧ (
 ∃ s94 : ByteArray, hcell H88 b46 (((((0 + 1) + 1) + 1) + 1) + 1) = some (.string s94) ∧ (
 ∃ s95 : ByteArray, hcell H88 b46 ((((((0 + 1) + 1) + 1) + 1) + 1) + 1) = some (.string s95) ∧ (
 ∃ n96 : Int, hcell H88 b46 (((((((0 + 1) + 1) + 1) + 1) + 1) + 1) + 1) = some (.int .i64 n96) ∧ (
 ∃ f97 : Nat, hcell H88 b46 ((((((((0 + 1) + 1) + 1) + 1) + 1) + 1) + 1) + 1) = some (.float .f64 f97) ∧ (
 ∃ n98 : Int, hcell H88 b46 (((((((((0 + 1) + 1) + 1) + 1) + 1) + 1) + 1) + 1) + 1) = some (.int .i64 n98) ∧ (
 ∃ n99 : Int, hcell H88 b46 ((((((((((0 + 1) + 1) + 1) + 1) + 1) + 1) + 1) + 1) + 1) + 1) = some (.int .i64 n99) ∧ (
 ∃ a100 : Option Addr, ∃ l101 : Nat, ∃ c102 : Nat, hcell H88 b46 (((((((((((0 + 1) + 1) + 1) + 1) + 1) + 1) + 1) + 1) + 1) + 1) + 1) = some (.slice a100 l101 c102) ∧ (
 ∃ n103 : Int, hcell H88 b46 ((((((((((((0 + 1) + 1) + 1) + 1) + 1) + 1) + 1) + 1) + 1) + 1) + 1) + 1) = some (.int .i64 n103) ∧ (
 ∃ a104 : Option Addr, ∃ l105 : Nat, ∃ c106 : Nat, hcell H88 b46 (((((((((((((0 + 1) + 1) + 1) + 1) + 1) + 1) + 1) + 1) + 1) + 1) + 1) + 1) + 1) = some (.slice a104 l105 c106) ∧ (
 Cells H88 b3 0 14 ∧ ∀ H107 : Heap, Puts H88 b3 0 [(.int .i64 n89), (.string s90), (.string s91), (.string s92), (.int .i64 n93), (.string s94), (.string s95), (.int .i64 n96), (.float .f64 f97), (.int .i64 n98), (.int .i64 n99), (.slice a100 l101 c102), (.int .i64 n103), (.slice a104 l105 c106)] H107 → (
 ∃ n108 : Int, hcell H107 b3 0 = some (.int .i64 n108) ∧ (
 ∃ s109 : ByteArray, hcell H107 b3 (0 + 1) = some (.string s109) ∧ (
 ∃ s110 : ByteArray, hcell H107 b3 ((0 + 1) + 1) = some (.string s110) ∧ (
 ∃ s111 : ByteArray, hcell H107 b3 (((0 + 1) + 1) + 1) = some (.string s111) ∧ (
 ∃ n112 : Int, hcell H107 b3 ((((0 + 1) + 1) + 1) + 1) = some (.int .i64 n112) ∧ (
 ∃ s113 : ByteArray, hcell H107 b3 (((((0 + 1) + 1) + 1) + 1) + 1) = some (.string s113) ∧ (
 ∃ s114 : ByteArray, hcell H107 b3 ((((((0 + 1) + 1) + 1) + 1) + 1) + 1) = some (.string s114) ∧ (
 ∃ n115 : Int, hcell H107 b3 (((((((0 + 1) + 1) + 1) + 1) + 1) + 1) + 1) = some (.int .i64 n115) ∧ (
 ∃ f116 : Nat, hcell H107 b3 ((((((((0 + 1) + 1) + 1) + 1) + 1) + 1) + 1) + 1) = some (.float .f64 f116) ∧ (
 ∃ n117 : Int, hcell H107 b3 (((((((((0 + 1) + 1) + 1) + 1) + 1) + 1) + 1) + 1) + 1) = some (.int .i64 n117) ∧ (
 ∃ n118 : Int, hcell H107 b3 ((((((((((0 + 1) + 1) + 1) + 1) + 1) + 1) + 1) + 1) + 1) + 1) = some (.int .i64 n118) ∧ (
 ∃ a119 : Option Addr, ∃ l120 : Nat, ∃ c121 : Nat, hcell H107 b3 (((((((((((0 + 1) + 1) + 1) + 1) + 1) + 1) + 1) + 1) + 1) + 1) + 1) = some (.slice a119 l120 c121) ∧ (
 ∃ n122 : Int, hcell H107 b3 ((((((((((((0 + 1) + 1) + 1) + 1) + 1) + 1) + 1) + 1) + 1) + 1) + 1) + 1) = some (.int .i64 n122) ∧ (
 ∃ a123 : Option Addr, ∃ l124 : Nat, ∃ c125 : Nat, hcell H107 b3 (((((((((((((0 + 1) + 1) + 1) + 1) + 1) + 1) + 1) + 1) + 1) + 1) + 1) + 1) + 1) = some (.slice a123 l124 c125) ∧ (
 R (.agg #[(.int .i64 n108), (.string s109), (.string s110), (.string s111), (.int .i64 n112), (.string s113), (.string s114), (.int .i64 n115), (.float .f64 f116), (.int .i64 n117), (.int .i64 n118), (.slice a119 l120 c121), (.int .i64 n122), (.slice a123 l124 c125)]) H107))))))))))))))))))))))))))))))))))))))))))))))))))))) := by kernel_rfl


/-- pentimento/pentimentolaw25.same -/
theorem SameV (x0_0 : Int) (x0_1 : ByteArray) (x0_2 : ByteArray) (x0_3 : ByteArray) (x0_4 : Int) (x0_5 : ByteArray) (x0_6 : ByteArray) (x0_7 : Int) (x0_8 : Nat) (x0_9 : Int) (x0_10 : Int) (x0_11 : Option Addr) (x0_11l : Nat) (x0_11c : Nat) (x0_12 : Int) (x0_13 : Option Addr) (x0_13l : Nat) (x0_13c : Nat) (x1_0 : Int) (x1_1 : ByteArray) (x1_2 : ByteArray) (x1_3 : ByteArray) (x1_4 : Int) (x1_5 : ByteArray) (x1_6 : ByteArray) (x1_7 : Int) (x1_8 : Nat) (x1_9 : Int) (x1_10 : Int) (x1_11 : Option Addr) (x1_11l : Nat) (x1_11c : Nat) (x1_12 : Int) (x1_13 : Option Addr) (x1_13l : Nat) (x1_13c : Nat) (H : Heap) (R : Value → Heap → Prop) : Walk Tryz.prog 12 [] [(.agg #[(.int .i64 x0_0), (.string x0_1), (.string x0_2), (.string x0_3), (.int .i64 x0_4), (.string x0_5), (.string x0_6), (.int .i64 x0_7), (.float .f64 x0_8), (.int .i64 x0_9), (.int .i64 x0_10), (.slice x0_11 x0_11l x0_11c), (.int .i64 x0_12), (.slice x0_13 x0_13l x0_13c)]), (.agg #[(.int .i64 x1_0), (.string x1_1), (.string x1_2), (.string x1_3), (.int .i64 x1_4), (.string x1_5), (.string x1_6), (.int .i64 x1_7), (.float .f64 x1_8), (.int .i64 x1_9), (.int .i64 x1_10), (.slice x1_11 x1_11l x1_11c), (.int .i64 x1_12), (.slice x1_13 x1_13l x1_13c)])] H R = (
 ∀ b1 : Nat, ∀ H2 : Heap, New H b1 [(.int .i64 x0_0), (.string x0_1), (.string x0_2), (.string x0_3), (.int .i64 x0_4), (.string x0_5), (.string x0_6), (.int .i64 x0_7), (.float .f64 x0_8), (.int .i64 x0_9), (.int .i64 x0_10), (.slice x0_11 x0_11l x0_11c), (.int .i64 x0_12), (.slice x0_13 x0_13l x0_13c)] 33 H2 → (
 ∀ b3 : Nat, ∀ H4 : Heap, New H2 b3 [(.int .i64 x1_0), (.string x1_1), (.string x1_2), (.string x1_3), (.int .i64 x1_4), (.string x1_5), (.string x1_6), (.int .i64 x1_7), (.float .f64 x1_8), (.int .i64 x1_9), (.int .i64 x1_10), (.slice x1_11 x1_11l x1_11c), (.int .i64 x1_12), (.slice x1_13 x1_13l x1_13c)] 33 H4 → (
 ∃ n5 : Int, hcell H4 b1 0 = some (.int .i64 n5) ∧ (
 ∃ s6 : ByteArray, hcell H4 b1 (0 + 1) = some (.string s6) ∧ (
 ∃ s7 : ByteArray, hcell H4 b1 ((0 + 1) + 1) = some (.string s7) ∧ (
 ∃ s8 : ByteArray, hcell H4 b1 (((0 + 1) + 1) + 1) = some (.string s8) ∧ (
 ∃ n9 : Int, hcell H4 b1 ((((0 + 1) + 1) + 1) + 1) = some (.int .i64 n9) ∧ (
 ∃ s10 : ByteArray, hcell H4 b1 (((((0 + 1) + 1) + 1) + 1) + 1) = some (.string s10) ∧ (
 ∃ s11 : ByteArray, hcell H4 b1 ((((((0 + 1) + 1) + 1) + 1) + 1) + 1) = some (.string s11) ∧ (
 ∃ n12 : Int, hcell H4 b1 (((((((0 + 1) + 1) + 1) + 1) + 1) + 1) + 1) = some (.int .i64 n12) ∧ (
 ∃ f13 : Nat, hcell H4 b1 ((((((((0 + 1) + 1) + 1) + 1) + 1) + 1) + 1) + 1) = some (.float .f64 f13) ∧ (
 ∃ n14 : Int, hcell H4 b1 (((((((((0 + 1) + 1) + 1) + 1) + 1) + 1) + 1) + 1) + 1) = some (.int .i64 n14) ∧ (
 ∃ n15 : Int, hcell H4 b1 ((((((((((0 + 1) + 1) + 1) + 1) + 1) + 1) + 1) + 1) + 1) + 1) = some (.int .i64 n15) ∧ (
 ∃ a16 : Option Addr, ∃ l17 : Nat, ∃ c18 : Nat, hcell H4 b1 (((((((((((0 + 1) + 1) + 1) + 1) + 1) + 1) + 1) + 1) + 1) + 1) + 1) = some (.slice a16 l17 c18) ∧ (
 ∃ n19 : Int, hcell H4 b1 ((((((((((((0 + 1) + 1) + 1) + 1) + 1) + 1) + 1) + 1) + 1) + 1) + 1) + 1) = some (.int .i64 n19) ∧ (
 ∃ a20 : Option Addr, ∃ l21 : Nat, ∃ c22 : Nat, hcell H4 b1 (((((((((((((0 + 1) + 1) + 1) + 1) + 1) + 1) + 1) + 1) + 1) + 1) + 1) + 1) + 1) = some (.slice a20 l21 c22) ∧ (
 Does Tryz.prog 6 [(.agg #[(.int .i64 n5), (.string s6), (.string s7), (.string s8), (.int .i64 n9), (.string s10), (.string s11), (.int .i64 n12), (.float .f64 f13), (.int .i64 n14), (.int .i64 n15), (.slice a16 l17 c18), (.int .i64 n19), (.slice a20 l21 c22)])] H4 fun v23 H24 => ∃ s25 : ByteArray, ∃ t26 : Bool, v23 = (.tuple #[(.string s25), (.bool t26)]) ∧ (
 ∃ n27 : Int, hcell H24 b3 0 = some (.int .i64 n27) ∧ (
 ∃ s28 : ByteArray, hcell H24 b3 (0 + 1) = some (.string s28) ∧ (
 ∃ s29 : ByteArray, hcell H24 b3 ((0 + 1) + 1) = some (.string s29) ∧ (
 ∃ s30 : ByteArray, hcell H24 b3 (((0 + 1) + 1) + 1) = some (.string s30) ∧ (
 ∃ n31 : Int, hcell H24 b3 ((((0 + 1) + 1) + 1) + 1) = some (.int .i64 n31) ∧ (
 ∃ s32 : ByteArray, hcell H24 b3 (((((0 + 1) + 1) + 1) + 1) + 1) = some (.string s32) ∧ (
 ∃ s33 : ByteArray, hcell H24 b3 ((((((0 + 1) + 1) + 1) + 1) + 1) + 1) = some (.string s33) ∧ (
 ∃ n34 : Int, hcell H24 b3 (((((((0 + 1) + 1) + 1) + 1) + 1) + 1) + 1) = some (.int .i64 n34) ∧ (
 ∃ f35 : Nat, hcell H24 b3 ((((((((0 + 1) + 1) + 1) + 1) + 1) + 1) + 1) + 1) = some (.float .f64 f35) ∧ (
 ∃ n36 : Int, hcell H24 b3 (((((((((0 + 1) + 1) + 1) + 1) + 1) + 1) + 1) + 1) + 1) = some (.int .i64 n36) ∧ (
 ∃ n37 : Int, hcell H24 b3 ((((((((((0 + 1) + 1) + 1) + 1) + 1) + 1) + 1) + 1) + 1) + 1) = some (.int .i64 n37) ∧ (
 ∃ a38 : Option Addr, ∃ l39 : Nat, ∃ c40 : Nat, hcell H24 b3 (((((((((((0 + 1) + 1) + 1) + 1) + 1) + 1) + 1) + 1) + 1) + 1) + 1) = some (.slice a38 l39 c40) ∧ (
 ∃ n41 : Int, hcell H24 b3 ((((((((((((0 + 1) + 1) + 1) + 1) + 1) + 1) + 1) + 1) + 1) + 1) + 1) + 1) = some (.int .i64 n41) ∧ (
 ∃ a42 : Option Addr, ∃ l43 : Nat, ∃ c44 : Nat, hcell H24 b3 (((((((((((((0 + 1) + 1) + 1) + 1) + 1) + 1) + 1) + 1) + 1) + 1) + 1) + 1) + 1) = some (.slice a42 l43 c44) ∧ (
 Does Tryz.prog 6 [(.agg #[(.int .i64 n27), (.string s28), (.string s29), (.string s30), (.int .i64 n31), (.string s32), (.string s33), (.int .i64 n34), (.float .f64 f35), (.int .i64 n36), (.int .i64 n37), (.slice a38 l39 c40), (.int .i64 n41), (.slice a42 l43 c44)])] H24 fun v45 H46 => ∃ s47 : ByteArray, ∃ t48 : Bool, v45 = (.tuple #[(.string s47), (.bool t48)]) ∧ (
 ((t26 = true → (
 ((t48 = true → (
 R (.bool (@decide ((s25 : ByteArray) = s47) (Classical.propDecidable _))) H46)) ∧ (t48 = false → (
 R (.bool false) H46))))) ∧ (t26 = false → (
 R (.bool false) H46)))))))))))))))))))))))))))))))))))) := by kernel_rfl


/-- pentimento/pentimentolaw25.known -/
theorem KnownV (H : Heap) (R : Value → Heap → Prop) : Walk Tryz.prog 11 [] [] H R = (
 Does Tryz.prog 9 [(.string (ByteArray.mk #[99, 97, 108, 108, 32, 109, 97, 105, 110, 32, 109, 107, 100, 105, 114, 32, 97, 32, 52, 57, 51, 32, 48, 48, 48, 48, 48, 48, 48, 48, 48, 48, 48, 48, 48, 48, 48, 48]))] H fun v1 H2 => ∃ n3 : Int, ∃ s4 : ByteArray, ∃ s5 : ByteArray, ∃ s6 : ByteArray, ∃ n7 : Int, ∃ s8 : ByteArray, ∃ s9 : ByteArray, ∃ n10 : Int, ∃ f11 : Nat, ∃ n12 : Int, ∃ n13 : Int, ∃ a14 : Option Addr, ∃ l15 : Nat, ∃ c16 : Nat, ∃ n17 : Int, ∃ a18 : Option Addr, ∃ l19 : Nat, ∃ c20 : Nat, ∃ t21 : Bool, v1 = (.tuple #[(.agg #[(.int .i64 n3), (.string s4), (.string s5), (.string s6), (.int .i64 n7), (.string s8), (.string s9), (.int .i64 n10), (.float .f64 f11), (.int .i64 n12), (.int .i64 n13), (.slice a14 l15 c16), (.int .i64 n17), (.slice a18 l19 c20)]), (.bool t21)]) ∧ (
 ∀ b22 : Nat, ∀ H23 : Heap, New H2 b22 [(.int .i64 0), (.string (ByteArray.mk #[])), (.string (ByteArray.mk #[])), (.string (ByteArray.mk #[])), (.int .i64 0), (.string (ByteArray.mk #[])), (.string (ByteArray.mk #[])), (.int .i64 0), (.float .f64 0), (.int .i64 0), (.int .i64 0), (.slice none 0 0), (.int .i64 0), (.slice none 0 0)] 33 H23 → (
 Cells H23 b22 0 14 ∧ ∀ H24 : Heap, Puts H23 b22 0 [(.int .i64 n3), (.string s4), (.string s5), (.string s6), (.int .i64 n7), (.string s8), (.string s9), (.int .i64 n10), (.float .f64 f11), (.int .i64 n12), (.int .i64 n13), (.slice a14 l15 c16), (.int .i64 n17), (.slice a18 l19 c20)] H24 → (
 ((t21 = true → (
 ∃ n25 : Int, hcell H24 b22 0 = some (.int .i64 n25) ∧ (
 ((((n25 : Int) = 1) → (
 ∃ s26 : ByteArray, hcell H24 b22 (0 + 1) = some (.string s26) ∧ (
 ((((s26 : ByteArray) = (ByteArray.mk #[109, 97, 105, 110])) → (
 ∃ n27 : Int, hcell H24 b22 (0 + 4) = some (.int .i64 n27) ∧ (
 ((((n27 : Int) = 1) → (
 ∃ n28 : Int, hcell H24 b22 ((0 + 4) + 3) = some (.int .i64 n28) ∧ (
 R (.bool (@decide ((n28 : Int) = 493) (Classical.propDecidable _))) H24))) ∧ (¬ ((n27 : Int) = 1) → (
 R (.bool false) H24)))))) ∧ (¬ ((s26 : ByteArray) = (ByteArray.mk #[109, 97, 105, 110])) → (
 R (.bool false) H24)))))) ∧ (¬ ((n25 : Int) = 1) → (
 R (.bool false) H24)))))) ∧ (t21 = false → (
 R (.bool false) H24))))))) := by kernel_rfl


end Go.Proofs
end

section
open Go Go.Vc
namespace Go.Proofs

/-! ### Marks, and rows that are appended to -/
section
variable {H H' : Heap} {b : Nat}
theorem _root_.Go.Vc.MarkTo.size (h : MarkTo H b H') : H'.size = H.size := by
  obtain ⟨cs, e, lo, hi, _, rfl⟩ := h
  simp
theorem _root_.Go.Vc.MarkTo.ext (h : MarkTo H b H') : Ext [b] H H' := by
  obtain ⟨cs, e, lo, hi, hb, rfl⟩ := h
  refine ⟨by simp, fun k hk hm => ?_⟩
  rw [Array.getElem?_setIfInBounds, if_neg (fun e => hm (by simp [e]))]
theorem _root_.Go.Vc.MarkTo.cell (h : MarkTo H b H') (k o : Nat) : hcell H' k o = hcell H k o := by
  obtain ⟨cs, e, lo, hi, hb, rfl⟩ := h
  by_cases hk : b = k
  · subst hk
    have hlt := (Array.getElem?_eq_some_iff.1 hb).1
    unfold hcell
    rw [Array.getElem?_setIfInBounds, if_pos rfl, if_pos hlt, hb]
  · simp [hcell, hk]
theorem _root_.Go.Vc.MarkTo.row (h : MarkTo H b H') {m n l c : Nat} {a : Option Addr} {xs : List Value} (hr : SRow H m n (.slice a l c) xs) : SRow H' m n (.slice a l c) xs := by
  refine ⟨hr.1, ?_⟩
  have h2 := hr.2
  cases a with
  | none => exact h2
  | some ad => exact ⟨h2.1, fun j u hj => (h.cell _ _).trans (h2.2 j u hj)⟩
theorem _root_.Go.Vc.New.isCells {vs : List Value} {e : TypeId} (h : New H b vs e H') : IsCells H' b := by
  obtain ⟨rfl, rfl⟩ := h
  exact ⟨vs.toArray, e, (0, 0), by simp⟩
theorem _root_.Go.Vc.New.srow {vs : List Value} {e : TypeId} (h : New H b vs e H') {n : Nat} (hn : vs.length = n) (l c : Nat) : SRow H' 1 n (.slice (some ⟨b, 0, none⟩) l c) vs := by
  refine ⟨by omega, .inr rfl, fun j u hj => ?_⟩
  show hcell H' b (0 + j) = some u
  rw [h.blk.cell, Nat.zero_add]; exact hj
end

theorem app_fresh {H H' : Heap} {e : TypeId} {z : List Value} {b n l c' : Nat} {a' : Option Addr} {old news : List Value} (h : App H 1 e z (some ⟨b, 0, none⟩) n n old news l a' c' H') (ho : SRow H 1 n (.slice (some ⟨b, 0, none⟩) n n) old) (hn : news.length = l) :
    SRow H' 1 (n + l) (.slice a' (n + l) c') (old ++ news) ∧ Ext [] H H' ∧ (∀ k ∈ blkOf a', k = b ∨ H.size ≤ k) := by
  have hol := ho.1
  rcases h with ⟨h1, rfl, rfl, h4⟩ | ⟨h1, rfl, h3, h5, h4⟩
  · have hl0 : l = 0 := by omega
    subst hl0
    have hnil : news = [] := List.eq_nil_of_length_eq_zero hn
    subst hnil
    have h4 : H' = H := h4
    subst h4
    refine ⟨?_, Ext.refl _ _, fun k hk => .inl (by simpa [blkOf] using hk)⟩
    rw [List.append_nil, Nat.add_zero]
    exact ho
  · subst h4
    refine ⟨⟨by simp; omega, .inr rfl, fun j u hj => ?_⟩, ⟨by simp, fun k hk _ => by rw [Array.getElem?_push, if_neg (by omega)]⟩, fun k hk => .inr (by simp [blkOf] at hk; omega)⟩
    show hcell _ H.size (0 + j) = some u
    have hlt := (List.getElem?_eq_some_iff.1 hj).1
    simp only [hcell, Array.getElem?_push_size]
    rw [Nat.zero_add]
    simp only [List.getElem?_toArray]
    rw [List.getElem?_append_left hlt]
    exact hj

/-! ### Numbers and names of a raw event -/
theorem hname_ok (n : Int) (H : Heap) : Does Tryz.prog 86 [.int .i64 n] H fun v H' => (∃ s : ByteArray, v = .string s ∧ s.size ≤ 10) ∧ H = H' := by
  refine Fn_of_vc Tryz.mixed (HNameV _ _ _) ?_
  refine (pick_ok n 6 H (by decide) (by decide)).mono ?_
  rintro _ _ ⟨rfl, rfl⟩
  refine ⟨_, rfl, by omega, by omega, by omega, fun s4 e => ⟨⟨s4, rfl, ?_⟩, rfl⟩⟩
  have h : ∀ k, k < 6 → (List.getD [(ByteArray.mk #[97]), (ByteArray.mk #[98]), (ByteArray.mk #[99]), (ByteArray.mk #[100, 46, 101]), (ByteArray.mk #[102, 45, 49]), (ByteArray.mk #[255])] k ByteArray.empty).size ≤ 10 := by decide
  rw [e]
  exact h _ (by omega)
theorem pname_ok (n : Int) {H : Heap} (g : Glob H) : Does Tryz.prog 46 [.int .i64 n] H fun v H' => (∃ s : ByteArray, v = .string s ∧ s.size ≤ 100) ∧ H = H' := by
  refine Fn_of_vc Tryz.mixed (PNameV _ _ _) ?_
  refine ⟨by decide, fun q1 e1 => ⟨fun h => ⟨⟨_, rfl, by decide⟩, rfl⟩, fun h => ?_⟩⟩
  refine (pick_ok n 7 H (by decide) (by decide)).mono ?_
  rintro _ _ ⟨rfl, rfl⟩
  obtain ⟨s, h1, h2⟩ := g.names (n % 7).toNat (by omega)
  exact ⟨_, rfl, by omega, by omega, s, by rw [Nat.zero_add]; exact h1, ⟨s, rfl, h2⟩, rfl⟩
theorem path_ok (n : Int) (H : Heap) : Does Tryz.prog 85 [.int .i64 n] H fun v H' => (∃ s : ByteArray, v = .string s ∧ s.size ≤ 100) ∧ H = H' := by
  refine Fn_of_vc Tryz.mixed (PathV _ _ _) ?_
  refine (pick_ok n 1073741824 H (by decide) (by decide)).mono ?_
  rintro _ _ ⟨rfl, rfl⟩
  refine ⟨_, rfl, (hname_ok _ H).mono ?_⟩
  rintro _ _ ⟨⟨s, rfl, hs⟩, rfl⟩
  refine ⟨_, rfl, by decide, fun q7 e7 => ⟨by decide, fun q8 e8 => ?_⟩⟩
  have h0 : 0 ≤ n % 1073741824 ∧ n % 1073741824 < 1073741824 := by omega
  have e7' : q7 = (n % 1073741824) / 6 := by rw [e7, wrap_tdiv (by omega) (by omega) (by omega)]
  have e8' : q8 = q7 % 3 := by rw [e8, tmod_pos (by omega)]
  have es47 : (ByteArray.mk #[47]).size = 1 := rfl
  refine ⟨fun _ s k H' => k ≤ 2 ∧ (s.size : Int) ≤ 10 + 11 * (2 - max k 0) ∧ H' = H, fun _ _ k _ => k.toNat, ⟨by omega, by omega, rfl⟩, ?_⟩
  rintro n11 s12 k _ ⟨h1, h2, rfl⟩
  refine ⟨fun hpos => ⟨by decide, fun q15 e15 => ⟨⟨by omega, by omega⟩, (hname_ok _ _).mono ?_⟩⟩, fun hneg => ⟨⟨s12, rfl, by omega⟩, rfl⟩⟩
  rintro _ _ ⟨⟨t, rfl, ht⟩, rfl⟩
  have esz := ByteArray.size_append (a := s12) (b := ByteArray.mk #[47])
  have esz2 := ByteArray.size_append (a := s12 ++ ByteArray.mk #[47]) (b := t)
  exact ⟨_, rfl, ⟨by omega, by omega⟩, ⟨by omega, by omega⟩, ⟨by omega, by rw [esz2, esz, es47]; omega, rfl⟩, by dsimp only; omega⟩
theorem saidp_ok (n how : Int) (s : ByteArray) (hs : s.size ≤ 10000000) (H : Heap) : Does Tryz.prog 65 [.int .i64 n, .int .i64 how, .string s] H fun v H' => (∃ t : ByteArray, v = .string t ∧ t.size ≤ 10000000) ∧ H = H' := by
  refine Fn_of_vc Tryz.mixed (SaidPV _ _ _ _ _) ?_
  refine (path_ok n H).mono ?_
  rintro _ _ ⟨⟨p, rfl, hp⟩, rfl⟩
  refine ⟨_, rfl, (pick_ok how 24 H (by decide) (by decide)).mono ?_⟩
  rintro _ _ ⟨rfl, rfl⟩
  refine ⟨_, rfl, ?_⟩
  have e1 : (ByteArray.mk #[47]).size = 1 := rfl
  have e2 : (ByteArray.mk #[46, 47]).size = 2 := rfl
  have e3 : (ByteArray.mk #[47, 46, 46]).size = 3 := rfl
  have e4 : (ByteArray.mk #[47, 46, 46, 47]).size = 4 := rfl
  have e5 : (ByteArray.mk #[47, 46]).size = 2 := rfl
  have e6 : (ByteArray.mk #[47, 47]).size = 2 := rfl
  refine ⟨fun _ => ⟨⟨by omega, by omega⟩, ⟨_, rfl, by rw [ByteArray.size_append]; omega⟩, rfl⟩, fun _ => ⟨fun _ => ⟨⟨by omega, by omega⟩, ⟨_, rfl, by rw [ByteArray.size_append]; omega⟩, rfl⟩, fun _ => ⟨fun _ => ⟨⟨by omega, by omega⟩, ⟨_, rfl, by rw [ByteArray.size_append]; omega⟩, rfl⟩, fun _ => ⟨fun _ => ⟨⟨by omega, by omega⟩, ⟨_, rfl, by rw [ByteArray.size_append]; omega⟩, rfl⟩, fun _ => ⟨fun _ => ⟨⟨by omega, by omega⟩, ?_⟩, fun _ => ⟨fun _ => ⟨⟨by omega, by omega⟩, ⟨_, rfl, by rw [ByteArray.size_append]; omega⟩, rfl⟩, fun _ => ⟨fun _ => ⟨⟨_, rfl, hs⟩, rfl⟩, fun _ => ⟨fun _ => ⟨⟨_, rfl, by decide⟩, rfl⟩, fun _ => ⟨fun _ => ?_, fun _ => ⟨⟨_, rfl, by omega⟩, rfl⟩⟩⟩⟩⟩⟩⟩⟩⟩⟩
  · refine (hname_ok n H).mono ?_
    rintro _ _ ⟨⟨t, rfl, ht⟩, rfl⟩
    have h1 := ByteArray.size_append (a := p) (b := ByteArray.mk #[47, 46, 46, 47])
    exact ⟨_, rfl, ⟨by omega, by omega⟩, ⟨_, rfl, by rw [ByteArray.size_append]; omega⟩, rfl⟩
  · refine (hname_ok n H).mono ?_
    rintro _ _ ⟨⟨t, rfl, ht⟩, rfl⟩
    have h1 := ByteArray.size_append (a := t) (b := ByteArray.mk #[47, 47])
    refine ⟨_, rfl, ⟨by omega, by omega⟩, by decide, fun q e => (hname_ok q H).mono ?_⟩
    rintro _ _ ⟨⟨u, rfl, hu⟩, rfl⟩
    exact ⟨_, rfl, ⟨by omega, by omega⟩, ⟨_, rfl, by rw [ByteArray.size_append]; omega⟩, rfl⟩

theorem srow_takeN {H : Heap} {n m : Nat} {a : Option Addr} {l c l' c' : Nat} {xs : List Value} (h : SRow H m n (.slice a l c) xs) {k : Nat} (hk : k ≤ n) : SRow H m k (.slice a l' c') (xs.take (k * m)) := by
  obtain ⟨h1, h2⟩ := h
  have : k * m ≤ n * m := Nat.mul_le_mul_right _ hk
  refine ⟨by rw [List.length_take]; omega, ?_⟩
  cases a with
  | none =>
    have h2 : xs = [] := h2
    subst h2; simp
  | some ad =>
    obtain ⟨h3, h4⟩ := h2
    refine ⟨?_, fun j u hj => ?_⟩
    · rcases h3 with h3 | h3
      · exact .inl (by rw [h3]; simp)
      · exact .inr h3
    · rw [List.getElem?_take] at hj
      split at hj
      · exact h4 j u hj
      · cases hj
theorem few_ok {H : Heap} {a : Option Addr} {l c : Nat} {bs : List UInt8} (hr : SRow H 1 l (.slice a l c) (bytesV bs)) (hlc : l ≤ c) (m : Nat) (hm : m ≤ 1000000) {q : Int} (hq : q = (m : Int)) : Does Tryz.prog 48 [.slice a l c, .int .i64 q] H fun v H' => ∃ a' n' c' bs', v = .slice a' n' c' ∧ SRow H' 1 n' (.slice a' n' c') (bytesV bs') ∧ n' ≤ m ∧ (∀ k ∈ blkOf a', H.size ≤ k) ∧ Ext [] H H' := by
  subst hq
  refine Fn_of_vc Tryz.mixed (FewV _ _ _ _ _ _) ?_
  intro b1 H2 hn
  have e1 := hn.eq
  have emin : Int.toNat (min (l : Int) (m : Int)) = min l m := by omega
  rw [emin]
  have hl := srow_len hr
  rw [bytesV_length] at hl
  have hr2 : SRow H2 1 (min l m) (.slice a (min l m) c) (bytesV (bs.take (min l m))) := by
    have := srow_takeN (srow_ext hr hn.ext) (k := min l m) (l' := min l m) (c' := c) (by omega)
    rw [Nat.mul_one] at this
    unfold bytesV at this ⊢
    rwa [List.map_take]
  have hnl : (bytesV (bs.take (min l m))).length = min l m := by rw [bytesV_length, List.length_take]; omega
  refine ⟨by omega, by omega, [], bytesV (bs.take (min l m)), hn.srow rfl 0 0, hr2, ?_, by omega, fun hle => ?_, ?_⟩
  · intro u hu
    unfold bytesV at hu
    obtain ⟨x, _, rfl⟩ := List.mem_map.1 hu
    rfl
  · have h0 : min l m * 1 = 0 := by omega
    rw [h0]
    exact ⟨rfl, trivial⟩
  · intro a5 c6 H7 happ
    obtain ⟨h1, h2, h3⟩ := app_fresh happ (hn.srow rfl 0 0) hnl
    refine ⟨a5, _, c6, bs.take (min l m), rfl, by simpa using h1, by omega, fun k hk => ?_, hn.ext.trans h2⟩
    have hs := hn.size
    rcases h3 k hk with h' | h' <;> omega
end Go.Proofs
end

section
open Go Go.Vc
namespace Go.Proofs

theorem br {p A B : Prop} (h1 : p → A) (h2 : ¬ p → B) : (p → A) ∧ (¬ p → B) := ⟨h1, h2⟩
theorem brb {t : Bool} {A B : Prop} (h1 : t = true → A) (h2 : t = false → B) : (t = true → A) ∧ (t = false → B) := ⟨h1, h2⟩
/-! ### Objects whose cells are of given sorts -/
inductive Sr where
  | i | s | f | r
deriving DecidableEq
def CellOk (N : Nat) (H : Heap) : Sr → Value → Prop
  | .i, v => ∃ n : Int, v = .int .i64 n ∧ In64 n
  | .s, v => ∃ s : ByteArray, v = .string s ∧ s.size ≤ 1000000000
  | .f, v => ∃ w : Nat, v = .float .f64 w ∧ w < 18446744073709551616
  | .r, v => ∃ a l c bs, v = .slice a l c ∧ SRow H 1 l (.slice a l c) (bytesV bs) ∧ l ≤ 1000000000 ∧ ∀ k ∈ blkOf a, N ≤ k
def AllOk (N : Nat) (H : Heap) : List Sr → List Value → Prop
  | [], [] => True
  | σ :: ss, v :: vs => CellOk N H σ v ∧ AllOk N H ss vs
  | _, _ => False
theorem CellOk.ext {N : Nat} {M : List Nat} {H H' : Heap} {σ : Sr} {v : Value} (h : CellOk N H σ v) (hx : Ext M H H') (hm : ∀ k ∈ M, k < N) : CellOk N H' σ v := by
  cases σ with
  | i => exact h
  | s => exact h
  | f => exact h
  | r =>
    obtain ⟨a, l, c, bs, rfl, h1, h2, h3⟩ := h
    exact ⟨a, l, c, bs, rfl, h1.ext hx (fun k hk hm' => by have := h3 k hk; have := hm k hm'; omega), h2, h3⟩
theorem CellOk.mono {N N' : Nat} {H : Heap} {σ : Sr} {v : Value} (h : CellOk N H σ v) (hn : N' ≤ N) : CellOk N' H σ v := by
  cases σ with
  | i => exact h
  | s => exact h
  | f => exact h
  | r =>
    obtain ⟨a, l, c, bs, rfl, h1, h2, h3⟩ := h
    exact ⟨a, l, c, bs, rfl, h1, h2, fun k hk => Nat.le_trans hn (h3 k hk)⟩
theorem AllOk.ext {N : Nat} {M : List Nat} {H H' : Heap} (hx : Ext M H H') (hm : ∀ k ∈ M, k < N) : ∀ {ss : List Sr} {vs : List Value}, AllOk N H ss vs → AllOk N H' ss vs
  | [], [], _ => trivial
  | _ :: _, _ :: _, h => ⟨h.1.ext hx hm, AllOk.ext hx hm h.2⟩
  | [], _ :: _, h => h.elim
  | _ :: _, [], h => h.elim
theorem AllOk.mono {N N' : Nat} {H : Heap} (hn : N' ≤ N) : ∀ {ss : List Sr} {vs : List Value}, AllOk N H ss vs → AllOk N' H ss vs
  | [], [], _ => trivial
  | _ :: _, _ :: _, h => ⟨h.1.mono hn, AllOk.mono hn h.2⟩
  | [], _ :: _, h => h.elim
  | _ :: _, [], h => h.elim
theorem AllOk.len {N : Nat} {H : Heap} : ∀ {ss : List Sr} {vs : List Value}, AllOk N H ss vs → vs.length = ss.length
  | [], [], _ => rfl
  | _ :: _, _ :: _, h => by simp [AllOk.len h.2]
  | [], _ :: _, h => h.elim
  | _ :: _, [], h => h.elim
theorem AllOk.get {N : Nat} {H : Heap} : ∀ {ss : List Sr} {vs : List Value}, AllOk N H ss vs → ∀ {j : Nat} {σ : Sr}, ss[j]? = some σ → ∃ v, vs[j]? = some v ∧ CellOk N H σ v
  | [], [], _, j, σ, hj => by simp at hj
  | _ :: _, v :: _, h, 0, σ, hj => by
    simp only [List.getElem?_cons_zero, Option.some.injEq] at hj
    subst hj
    exact ⟨v, rfl, h.1⟩
  | _ :: _, _ :: _, h, j + 1, σ, hj => by
    simp only [List.getElem?_cons_succ] at hj ⊢
    exact AllOk.get h.2 hj
  | [], _ :: _, h, _, _, _ => h.elim
  | _ :: _, [], h, _, _, _ => h.elim
/-- Some cells are written. -/
theorem AllOk.splice0 {N : Nat} {H : Heap} : ∀ {ss ts : List Sr} {vs us : List Value}, AllOk N H ss vs → AllOk N H ts us → (∃ r, ss = ts ++ r) → AllOk N H ss (us ++ vs.drop us.length)
  | ss, [], vs, [], h, _, _ => by simpa using h
  | _ :: ss, t :: ts, v :: vs, u :: us, h, h2, hp => by
    obtain ⟨r, hr⟩ := hp
    simp only [List.cons_append, List.cons.injEq] at hr
    obtain ⟨rfl, hr⟩ := hr
    exact ⟨h2.1, AllOk.splice0 h.2 h2.2 ⟨r, hr⟩⟩
  | _, [], _, _ :: _, _, h2, _ => h2.elim
  | _, _ :: _, _, [], _, h2, _ => h2.elim
  | [], _ :: _, _, _ :: _, _, _, hp => by obtain ⟨r, hr⟩ := hp; simp at hr
  | _ :: _, _ :: _, [], _ :: _, h, _, _ => h.elim
theorem AllOk.splice {N : Nat} {H : Heap} : ∀ {j : Nat} {ss ts : List Sr} {vs us : List Value}, AllOk N H ss vs → AllOk N H ts us → (∃ r, ss.drop j = ts ++ r) → AllOk N H ss (splice vs j us)
  | 0, ss, ts, vs, us, h, h2, hp => by
    have := AllOk.splice0 h h2 hp
    simpa [Go.Vc.splice] using this
  | j + 1, [], ts, [], us, h, h2, hp => by
    obtain ⟨r, hr⟩ := hp
    cases ts with
    | nil =>
      cases us with
      | nil => simp [Go.Vc.splice, AllOk]
      | cons => exact h2.elim
    | cons => simp at hr
  | j + 1, _ :: ss, ts, v :: vs, us, h, h2, hp => by
    have := AllOk.splice (j := j) h.2 h2 (by simpa using hp)
    unfold Go.Vc.splice at this ⊢
    rw [show j + 1 + us.length = j + us.length + 1 by omega]
    exact ⟨h.1, this⟩
  | _ + 1, [], _, _ :: _, _, h, _, _ => h.elim
  | _ + 1, _ :: _, _, [], _, h, _, _ => h.elim

def ObjOk (N : Nat) (H : Heap) (b : Nat) (ss : List Sr) : Prop := b < N ∧ ∃ vs, Blk H b vs ∧ AllOk N H ss vs
section
variable {N b : Nat} {H H' : Heap} {ss : List Sr}
theorem ObjOk.more (h : ObjOk N H b ss) (hx : Ext [] H H') : ObjOk N H' b ss := by
  obtain ⟨h1, vs, hb, ha⟩ := h
  exact ⟨h1, vs, hb.ext hx (by simp), ha.ext hx (by simp)⟩
theorem ObjOk.cells (h : ObjOk N H b ss) (n o : Nat) (ho : o + n ≤ ss.length) : Cells H b o n := by
  obtain ⟨h1, vs, hb, ha⟩ := h
  exact hb.cells _ _ (by rw [ha.len]; exact ho)
theorem ObjOk.puts (h : ObjOk N H b ss) {j : Nat} {ts : List Sr} {us : List Value} (hu : AllOk N H ts us) (hp : Puts H b j us H') (hd : ∃ r, ss.drop j = ts ++ r) : ObjOk N H' b ss := by
  obtain ⟨h1, vs, hb, ha⟩ := h
  have hl : j + us.length ≤ vs.length ∨ us = [] := by
    rw [ha.len, hu.len]
    obtain ⟨r, hr⟩ := hd
    have := congrArg List.length hr
    rw [List.length_drop, List.length_append] at this
    cases us with
    | nil => exact .inr rfl
    | cons u us =>
      have h2 := hu.len
      simp at h2
      left; omega
  have ho : ∀ k ∈ [b], k < N := by simpa using h1
  rcases hl with hl | rfl
  · exact ⟨h1, _, hp.blk hb hl, (ha.splice hu hd).ext hp.ext ho⟩
  · have : H' = H := by
      have h0 := hp.ext
      have h1 := hp
      unfold Puts at h1
      simpa [hsets] using h1
    subst this
    exact ⟨h1, vs, hb, ha⟩
theorem ObjOk.lt (h : ObjOk N H b ss) : b < H.size := by
  obtain ⟨h1, vs, hb, ha⟩ := h
  exact hb.lt
end

/-! ### What is made of a raw thing -/
structure HX (H0 H : Heap) (b1 : Nat) (xs : List Value) (N b : Nat) (ss : List Sr) : Prop where
  copy : Blk H b1 xs
  obj : ObjOk N H b ss
  nn : H0.size ≤ b
  ne : b1 ≠ b
  ext : Ext [] H0 H
  glob : Glob H0
  sz : N ≤ H.size
  rows : ∀ a l c, Value.slice a l c ∈ xs → ∃ bs, SRow H0 1 l (.slice a l c) (bytesV bs) ∧ l ≤ c
section
variable {H0 H H' : Heap} {b1 N b : Nat} {xs : List Value} {ss : List Sr}
theorem HX.more (h : HX H0 H b1 xs N b ss) (hx : Ext [] H H') : HX H0 H' b1 xs N b ss :=
  ⟨h.copy.ext hx (by simp), h.obj.more hx, h.nn, h.ne, h.ext.trans hx, h.glob, Nat.le_trans h.sz hx.size, h.rows⟩
theorem HX.puts (h : HX H0 H b1 xs N b ss) {j : Nat} {ts : List Sr} {us : List Value} (hu : AllOk N H ts us) (hp : Puts H b j us H') (hd : ∃ r, ss.drop j = ts ++ r) : HX H0 H' b1 xs N b ss :=
  ⟨h.copy.ext hp.ext (by simpa using h.ne), h.obj.puts hu hp hd, h.nn, h.ne, ext_put h.ext h.nn hp, h.glob, by rw [hp.size]; exact h.sz, h.rows⟩
theorem get_lt {ss : List Sr} {j : Nat} {σ : Sr} (h : ss[j]? = some σ) : j + 1 ≤ ss.length := (List.getElem?_eq_some_iff.1 h).1
theorem drop_get {ss : List Sr} {j : Nat} {σ : Sr} (h : ss[j]? = some σ) : ∃ r, ss.drop j = [σ] ++ r := by
  obtain ⟨h1, h2⟩ := List.getElem?_eq_some_iff.1 h
  exact ⟨ss.drop (j + 1), by rw [List.drop_eq_getElem_cons h1, h2]; rfl⟩
structure EX (H0 H : Heap) (b1 : Nat) (xs : List Value) : Prop where
  copy : Blk H b1 xs
  ext : Ext [] H0 H
  glob : Glob H0
  rows : ∀ a l c, Value.slice a l c ∈ xs → ∃ bs, SRow H0 1 l (.slice a l c) (bytesV bs) ∧ l ≤ c
theorem HX.ex (h : HX H0 H b1 xs N b ss) : EX H0 H b1 xs := ⟨h.copy, h.ext, h.glob, h.rows⟩
theorem EX.more (h : EX H0 H b1 xs) (hx : Ext [] H H') : EX H0 H' b1 xs := ⟨h.copy.ext hx (by simp), h.ext.trans hx, h.glob, h.rows⟩
theorem EX.g (h : EX H0 H b1 xs) : Glob H := h.glob.ext h.ext
theorem HX.g (h : HX H0 H b1 xs N b ss) : Glob H := h.glob.ext h.ext

/-! Loads of the raw thing's cells. -/
variable {j : Nat}
theorem hx_li {X : Int → Prop} {m : Int} (h : HX H0 H b1 xs N b ss) (hj : xs[j]? = some (.int .i64 m)) (k : X m) : ∃ m : Int, hcell H b1 j = some (.int .i64 m) ∧ X m := ⟨m, by rw [h.copy.cell]; exact hj, k⟩
theorem hx_lf {X : Nat → Prop} {m : Nat} (h : HX H0 H b1 xs N b ss) (hj : xs[j]? = some (.float .f64 m)) (k : X m) : ∃ m : Nat, hcell H b1 j = some (.float .f64 m) ∧ X m := ⟨m, by rw [h.copy.cell]; exact hj, k⟩
theorem hx_ls {X : ByteArray → Prop} {m : ByteArray} (h : HX H0 H b1 xs N b ss) (hj : xs[j]? = some (.string m)) (k : X m) : ∃ m : ByteArray, hcell H b1 j = some (.string m) ∧ X m := ⟨m, by rw [h.copy.cell]; exact hj, k⟩
theorem hx_lr {X : Option Addr → Nat → Nat → Prop} {a : Option Addr} {l c : Nat} (h : HX H0 H b1 xs N b ss) (hj : xs[j]? = some (.slice a l c)) (k : X a l c) : ∃ a : Option Addr, ∃ l : Nat, ∃ c : Nat, hcell H b1 j = some (.slice a l c) ∧ X a l c := ⟨a, l, c, by rw [h.copy.cell]; exact hj, k⟩
/-- The kind of what is made. -/
theorem hx_oi {X : Int → Prop} (h : HX H0 H b1 xs N b ss) (hj : ss[j]? = some .i) (k : ∀ m, X m) : ∃ m : Int, hcell H b j = some (.int .i64 m) ∧ X m := by
  obtain ⟨h1, vs, hb, ha⟩ := h.obj
  obtain ⟨v, hv, m, rfl, hm⟩ := ha.get hj
  exact ⟨m, by rw [hb.cell]; exact hv, k m⟩

/-! Before the thing is there. -/
theorem ex_li {X : Int → Prop} {m : Int} (h : EX H0 H b1 xs) (hj : xs[j]? = some (.int .i64 m)) (k : X m) : ∃ m : Int, hcell H b1 j = some (.int .i64 m) ∧ X m := ⟨m, by rw [h.copy.cell]; exact hj, k⟩
theorem ex_lf {X : Nat → Prop} {m : Nat} (h : EX H0 H b1 xs) (hj : xs[j]? = some (.float .f64 m)) (k : X m) : ∃ m : Nat, hcell H b1 j = some (.float .f64 m) ∧ X m := ⟨m, by rw [h.copy.cell]; exact hj, k⟩
theorem ex_ls {X : ByteArray → Prop} {m : ByteArray} (h : EX H0 H b1 xs) (hj : xs[j]? = some (.string m)) (k : X m) : ∃ m : ByteArray, hcell H b1 j = some (.string m) ∧ X m := ⟨m, by rw [h.copy.cell]; exact hj, k⟩
theorem ex_is {X : Prop} {v : Value} (h : EX H0 H b1 xs) (hj : xs[j]? = some v) (k : X) : isL H b1 j [v] ∧ X := ⟨⟨by rw [h.copy.cell]; exact hj, trivial⟩, k⟩
theorem ex_time {X : Nat → Heap → Prop} {n : Int} {w : Nat} (h : EX H0 H b1 xs) (hw : w < 18446744073709551616) (k : ∀ r H', r < 18446744073709551616 → Ext [] H H' → EX H0 H' b1 xs → X r H') : Does Tryz.prog 66 [.int .i64 n, .float .f64 w] H fun v H' => ∃ r : Nat, v = .float .f64 r ∧ X r H' := by
  refine (time_ok n hw H).mono ?_
  rintro _ H' ⟨r, rfl, hr, hx⟩
  exact ⟨r, rfl, k r H' hr hx (h.more hx)⟩
theorem plain90_ok {w : Nat} (hw : w < 18446744073709551616) (H : Heap) : Does Tryz.prog 90 [.float .f64 w] H fun v H' => (∃ r : Nat, v = .float .f64 r ∧ r < 18446744073709551616) ∧ H = H' := by
  refine Fn_of_vc Tryz.mixed (PlainTimeV _ _ _) ?_
  refine Does.mono (R := fun v H' => v = .float .f64 (plainW w) ∧ H = H') ?_ ?_
  · refine Fn_of_vc Tryz.mixed (RPlainV _ _ _) ?_
    refine (bits_ok hw H).mono ?_
    rintro _ _ ⟨rfl, rfl⟩
    exact ⟨_, rfl, by rw [Int.toNat_natCast], rfl⟩
  · rintro _ _ ⟨rfl, rfl⟩
    exact ⟨_, rfl, ⟨_, rfl, plain_lt hw⟩, rfl⟩
theorem hx_plain {X : Nat → Heap → Prop} {w : Nat} (hw : w < 18446744073709551616) (k : ∀ r, r < 18446744073709551616 → X r H) : Does Tryz.prog 90 [.float .f64 w] H fun v H' => ∃ r : Nat, v = .float .f64 r ∧ X r H' := by
  refine (plain90_ok hw H).mono ?_
  rintro _ _ ⟨⟨r, rfl, hr⟩, rfl⟩
  exact ⟨r, rfl, k r hr⟩
/-- The thing is made, of nothing. -/
theorem ex_new {X : Nat → Heap → Prop} {vs : List Value} {e : TypeId} (ss : List Sr) (h : EX H0 H b1 xs) (ha : ∀ N H', AllOk N H' ss vs) (k : ∀ d H', Ext [] H H' → HX H0 H' b1 xs (d + 1) d ss → X d H') : ∀ d : Nat, ∀ H' : Heap, New H d vs e H' → X d H' := by
  intro d H' hn
  have e1 := hn.eq
  have e2 := hn.size
  have e3 := h.ext.size
  have e4 := h.copy.lt
  exact k d H' hn.ext ⟨h.copy.ext hn.ext (by simp), ⟨by omega, vs, hn.blk, ha _ _⟩, by omega, by omega, h.ext.trans hn.ext, h.glob, by omega, h.rows⟩
theorem hx_all {X : Heap → Prop} {us : List Value} (ts : List Sr) {n : Nat} (h : HX H0 H b1 xs N b ss) (hn : n = ts.length) (ha : AllOk N H ts us) (hj : ∃ r, ss.drop j = ts ++ r) (k : ∀ H', HX H0 H' b1 xs N b ss → X H') : Cells H b j n ∧ ∀ H' : Heap, Puts H b j us H' → X H' := by
  subst hn
  refine ⟨?_, fun H' hp => k H' (h.puts ha hp hj)⟩
  by_cases h0 : ts = []
  · subst h0; exact trivial
  · refine h.obj.cells _ j ?_
    obtain ⟨r, hr⟩ := hj
    have := congrArg List.length hr
    rw [List.length_drop, List.length_append] at this
    have : 0 < ts.length := List.length_pos_iff.2 h0
    omega

/-! Calls. -/
theorem hx_pick {X : Int → Heap → Prop} {n m : Int} (h0 : 0 < m ∧ m ≤ 1000000000000) (k : ∀ r : Int, 0 ≤ r → r < m → X r H) : Does Tryz.prog 8 [.int .i64 n, .int .i64 m] H fun v H' => ∃ r : Int, v = .int .i64 r ∧ X r H' := by
  refine (pick_ok n m H h0.1 h0.2).mono ?_
  rintro _ _ ⟨rfl, rfl⟩
  exact ⟨_, rfl, k _ (Int.emod_nonneg _ (by omega)) (Int.emod_lt_of_pos _ h0.1)⟩
theorem hx_time {X : Nat → Heap → Prop} {n : Int} {w : Nat} (h : HX H0 H b1 xs N b ss) (hw : w < 18446744073709551616) (k : ∀ r H', r < 18446744073709551616 → HX H0 H' b1 xs N b ss → X r H') : Does Tryz.prog 66 [.int .i64 n, .float .f64 w] H fun v H' => ∃ r : Nat, v = .float .f64 r ∧ X r H' := by
  refine (time_ok n hw H).mono ?_
  rintro _ H' ⟨r, rfl, hr, hx⟩
  exact ⟨r, rfl, k r H' hr (h.more hx)⟩
theorem hx_few {X : Option Addr → Nat → Nat → Heap → Prop} {a : Option Addr} {l c : Nat} (h : HX H0 H b1 xs N b ss) (hm : Value.slice a l c ∈ xs) {q : Int} (m : Nat) (hq : q = (m : Int)) (h0 : m ≤ 1000000) (k : ∀ a' l' c' H', HX H0 H' b1 xs N b ss → CellOk N H' .r (.slice a' l' c') → X a' l' c' H') : Does Tryz.prog 48 [.slice a l c, .int .i64 q] H fun v H' => ∃ a' : Option Addr, ∃ l' : Nat, ∃ c' : Nat, v = .slice a' l' c' ∧ X a' l' c' H' := by
  obtain ⟨bs, hr, hlc⟩ := h.rows a l c hm
  refine (few_ok (srow_ext hr h.ext) hlc m h0 hq).mono ?_
  rintro _ H' ⟨a', n', c', bs', rfl, hr', hn', hb', hx⟩
  exact ⟨a', n', c', rfl, k a' n' c' H' (h.more hx) ⟨a', n', c', bs', rfl, hr', by omega, fun i hi => Nat.le_trans h.sz (hb' i hi)⟩⟩
theorem hx_said {X : ByteArray → Heap → Prop} {n how : Int} {s : ByteArray} (hs : s.size ≤ 10000000) (k : ∀ t, t.size ≤ 10000000 → X t H) : Does Tryz.prog 65 [.int .i64 n, .int .i64 how, .string s] H fun v H' => ∃ t : ByteArray, v = .string t ∧ X t H' := by
  refine (saidp_ok n how s hs H).mono ?_
  rintro _ _ ⟨⟨t, rfl, ht⟩, rfl⟩
  exact ⟨t, rfl, k t ht⟩
theorem hx_name {X : ByteArray → Heap → Prop} {n : Int} (h : HX H0 H b1 xs N b ss) (k : ∀ t, t.size ≤ 100 → X t H) : Does Tryz.prog 46 [.int .i64 n] H fun v H' => ∃ t : ByteArray, v = .string t ∧ X t H' := by
  refine (pname_ok n h.g).mono ?_
  rintro _ _ ⟨⟨t, rfl, ht⟩, rfl⟩
  exact ⟨t, rfl, k t ht⟩
theorem hx_path {X : ByteArray → Heap → Prop} {n : Int} (k : ∀ t, t.size ≤ 100 → X t H) : Does Tryz.prog 85 [.int .i64 n] H fun v H' => ∃ t : ByteArray, v = .string t ∧ X t H' := by
  refine (path_ok n H).mono ?_
  rintro _ _ ⟨⟨t, rfl, ht⟩, rfl⟩
  exact ⟨t, rfl, k t ht⟩
/-- A new row of nothing. -/
theorem hx_make {X : Nat → Heap → Prop} {n : Nat} {e : TypeId} (h : HX H0 H b1 xs N b ss) (hn : n ≤ 1000000) (k : ∀ d H', HX H0 H' b1 xs N b ss → CellOk N H' .r (.slice (some ⟨d, 0, none⟩) n n) → SRow H' 1 n (.slice (some ⟨d, 0, none⟩) n n) (bytesV (List.replicate n 0)) → X d H') : ∀ d : Nat, ∀ H' : Heap, New H d (List.replicate n (.int .u8 0)) e H' → X d H' := by
  intro d H' hnw
  have hr : SRow H' 1 n (.slice (some ⟨d, 0, none⟩) n n) (bytesV (List.replicate n 0)) := by
    have := hnw.srow (n := n) (by simp) n n
    unfold bytesV
    rw [List.map_replicate]
    exact this
  refine k d H' (h.more hnw.ext) ⟨_, _, _, _, rfl, hr, by omega, fun i hi => ?_⟩ hr
  simp only [blkOf, List.mem_singleton] at hi
  rw [hi, hnw.eq]
  exact h.sz

theorem hx_newb {X : Nat → Nat → Heap → Prop} {s : ByteArray} {e : TypeId} (h : HX H0 H b1 xs N b ss) (hs : s.size ≤ 1000000000) (k : ∀ c d H', HX H0 H' b1 xs N b ss → CellOk N H' .r (.slice (some ⟨d, 0, none⟩) s.size c) → X c d H') : ∀ c d : Nat, ∀ H' : Heap, NewB H d s c e H' → X c d H' := by
  intro c d H' hn
  refine k c d H' (h.more hn.ext) ⟨_, _, _, _, rfl, NewB.srow hn, hs, fun i hi => ?_⟩
  simp only [blkOf, List.mem_singleton] at hi
  rw [hi, hn.1]
  exact h.sz
theorem HX.mark (h : HX H0 H b1 xs N b ss) {d : Nat} (hm : MarkTo H d H') (h1 : d ≠ b1) (h2 : d ≠ b) (h3 : H0.size ≤ d) : HX H0 H' b1 xs N b ss := by
  obtain ⟨hb, vs, hbk, ha⟩ := h.obj
  refine ⟨h.copy.ext hm.ext (by simpa using fun e => h1 e.symm), ⟨hb, vs, hbk.ext hm.ext (by simpa using fun e => h2 e.symm), ?_⟩, h.nn, h.ne, h.ext.trans' hm.ext (fun i hi => .inl (by simp only [List.mem_singleton] at hi; omega)), h.glob, by rw [hm.size]; exact h.sz, h.rows⟩
  have one : ∀ {σ v}, CellOk N H σ v → CellOk N H' σ v := by
    intro σ v hc
    cases σ with
    | i => exact hc
    | s => exact hc
    | f => exact hc
    | r =>
      obtain ⟨a, l, c, bs, rfl, q1, q2, q3⟩ := hc
      exact ⟨a, l, c, bs, rfl, hm.row q1, q2, q3⟩
  have all : ∀ {ss : List Sr} {vs : List Value}, AllOk N H ss vs → AllOk N H' ss vs := by
    intro ss
    induction ss with
    | nil => intro vs hv; cases vs with | nil => trivial | cons => exact hv.elim
    | cons σ ss ih => intro vs hv; cases vs with | nil => exact hv.elim | cons v vs => exact ⟨one hv.1, ih hv.2⟩
  exact all ha
/-- A row of some bytes, and what was there behind. -/
theorem hx_app {X : Heap → Prop} {ys : List Value} {e : TypeId} (h : HX H0 H b1 xs N b ss) (bs0 : List UInt8) (hy : ys = bytesV bs0) {n : Nat} (hn : n = bs0.length) (hs : n ≤ 1000) (hj : ss[j]? = some .r) (L : Nat)
    (hlen : ∀ a l c, hcell H b j = some (.slice a l c) → l ≤ L) (hL : L ≤ 100000000) (k : ∀ H', HX H0 H' b1 xs N b ss → (∀ a l c, hcell H' b j = some (.slice a l c) → l ≤ n + L) → X H') :
    ∀ d : Nat, ∀ H1 : Heap, New H d ys e H1 → ∃ d' o' : Nat, (some (⟨d, 0, none⟩ : Addr)) = some (⟨d', o', none⟩ : Addr) ∧ (IsCells H1 d' ∧ ∀ H2 : Heap, MarkTo H1 d' H2 → (
      ∃ a : Option Addr, ∃ l : Nat, ∃ c : Nat, hcell H2 b j = some (.slice a l c) ∧ (
      ∃ old new : List Value, SRow H2 1 n (.slice (some (⟨d, 0, none⟩ : Addr)) n n) old ∧ SRow H2 1 l (.slice a l c) new ∧ (∀ u ∈ new, Value.oneCell' u = true) ∧ (n + l) * 1 ≤ 140737488355328 ∧ (n + l ≤ n → roomOf H2 (some (⟨d, 0, none⟩ : Addr)) (n * 1) (l * 1)) ∧ ∀ a' : Option Addr, ∀ c' : Nat, ∀ H3 : Heap, App H2 1 5 [(.int .u8 0)] (some (⟨d, 0, none⟩ : Addr)) n n old new l a' c' H3 → (
      Cells H3 b j 1 ∧ ∀ H4 : Heap, Puts H3 b j [(.slice a' (n + l) c')] H4 → X H4)))) := by
  intro d H1 hnw
  subst hy hn
  have e1 := hnw.eq
  have e2 := hnw.size
  have hlb := h.obj.lt
  have hl1 := h.copy.lt
  have hz := h.sz
  have he0 := h.ext.size
  have h1 := h.more hnw.ext
  refine ⟨d, 0, rfl, hnw.isCells, fun H2 hm => ?_⟩
  have h2 := h1.mark hm (by omega) (by omega) (by omega)
  obtain ⟨hbn, vs, hbk, ha⟩ := h2.obj
  have hjs := hj
  obtain ⟨v, hv, hc⟩ := ha.get hjs
  obtain ⟨a, l, c, bs, rfl, hrow, hl, hblk⟩ := hc
  have hcell2 : hcell H2 b j = some (.slice a l c) := by rw [hbk.cell]; exact hv
  have hlL : l ≤ L := by
    refine hlen a l c ?_
    rw [hm.cell] at hcell2
    have hk := hnw.ext.keep b hlb (by simp)
    unfold hcell at hcell2 ⊢
    rw [hk] at hcell2
    exact hcell2
  have hold : SRow H2 1 bs0.length (.slice (some (⟨d, 0, none⟩ : Addr)) bs0.length bs0.length) (bytesV bs0) := hm.row (hnw.srow (bytesV_length _) _ _)
  refine ⟨a, l, c, hcell2, bytesV bs0, bytesV bs, hold, hrow, ?_, by omega, fun hle => ?_, ?_⟩
  · intro u hu
    unfold bytesV at hu
    obtain ⟨x, _, rfl⟩ := List.mem_map.1 hu
    rfl
  · have h0 : l * 1 = 0 := by omega
    rw [h0]
    exact ⟨rfl, trivial⟩
  · intro a' c' H3 happ
    obtain ⟨q1, q2, q3⟩ := app_fresh happ hold (by have := srow_len hrow; exact this)
    have h3 := h2.more q2
    have hc3 : CellOk N H3 .r (.slice a' (bs0.length + l) c') := by
      refine ⟨a', _, c', bs0 ++ bs, rfl, by simpa [bytesV] using q1, by omega, fun i hi => ?_⟩
      have hs2 := hm.size
      rcases q3 i hi with h' | h' <;> omega
    refine ⟨h3.obj.cells 1 j (get_lt hj), fun H4 hp => k H4 (h3.puts (ts := [.r]) (us := [.slice a' (bs0.length + l) c']) ⟨hc3, trivial⟩ hp (drop_get hj)) ?_⟩
    intro xa xl xc hx
    obtain ⟨hbn3, vs3, hbk3, ha3⟩ := h3.obj
    have hlen3 := ha3.len
    have hjl : j < vs3.length := by rw [hlen3]; exact (List.getElem?_eq_some_iff.1 hjs).1
    have hb4 := hp.blk hbk3 (by simp; omega)
    rw [hb4.cell] at hx
    unfold splice at hx
    rw [List.append_assoc, List.getElem?_append_right (by simp; omega)] at hx
    simp [Nat.min_eq_left (Nat.le_of_lt hjl)] at hx
    omega

/-! Writes. -/
theorem hx_pi {X : Heap → Prop} {m : Int} (h : HX H0 H b1 xs N b ss) (hj : ss[j]? = some .i) (hm : In64 m) (k : ∀ H', HX H0 H' b1 xs N b ss → X H') : Cells H b j 1 ∧ ∀ H' : Heap, Puts H b j [.int .i64 m] H' → X H' :=
  ⟨h.obj.cells 1 j (get_lt hj), fun H' hp => k H' (h.puts (ts := [.i]) (us := [.int .i64 m]) ⟨⟨m, rfl, hm⟩, trivial⟩ hp (drop_get hj))⟩
theorem hx_ps {X : Heap → Prop} {m : ByteArray} (h : HX H0 H b1 xs N b ss) (hj : ss[j]? = some .s) (hm : m.size ≤ 1000000000) (k : ∀ H', HX H0 H' b1 xs N b ss → X H') : Cells H b j 1 ∧ ∀ H' : Heap, Puts H b j [.string m] H' → X H' :=
  ⟨h.obj.cells 1 j (get_lt hj), fun H' hp => k H' (h.puts (ts := [.s]) (us := [.string m]) ⟨⟨m, rfl, hm⟩, trivial⟩ hp (drop_get hj))⟩
theorem hx_pf {X : Heap → Prop} {m : Nat} (h : HX H0 H b1 xs N b ss) (hj : ss[j]? = some .f) (hm : m < 18446744073709551616) (k : ∀ H', HX H0 H' b1 xs N b ss → X H') : Cells H b j 1 ∧ ∀ H' : Heap, Puts H b j [.float .f64 m] H' → X H' :=
  ⟨h.obj.cells 1 j (get_lt hj), fun H' hp => k H' (h.puts (ts := [.f]) (us := [.float .f64 m]) ⟨⟨m, rfl, hm⟩, trivial⟩ hp (drop_get hj))⟩
theorem hx_pr {X : Heap → Prop} {a : Option Addr} {l c : Nat} (h : HX H0 H b1 xs N b ss) (hj : ss[j]? = some .r) (hm : CellOk N H .r (.slice a l c)) (k : ∀ H', HX H0 H' b1 xs N b ss → X H') : Cells H b j 1 ∧ ∀ H' : Heap, Puts H b j [.slice a l c] H' → X H' :=
  ⟨h.obj.cells 1 j (get_lt hj), fun H' hp => k H' (h.puts (ts := [.r]) (us := [.slice a l c]) ⟨hm, trivial⟩ hp (drop_get hj))⟩
/-- A cut. -/
theorem hx_cut {A : (Heap → Prop) → Prop} {B : Heap → Prop} (_ : HX H0 H b1 xs N b ss) (h1 : A (fun H' => HX H0 H' b1 xs N b ss)) (h2 : ∀ H', HX H0 H' b1 xs N b ss → B H') : ∃ I : Heap → Prop, A I ∧ ∀ H' : Heap, I H' → B H' := ⟨_, h1, h2⟩
end
end Go.Proofs
end

section
open Go Go.Vc
namespace Go.Proofs
theorem hx_prl {H0 H : Heap} {b1 N b j : Nat} {xs : List Value} {ss : List Sr} {X : Heap → Prop} {a : Option Addr} {l c : Nat} (L : Nat) (h : HX H0 H b1 xs N b ss) (hj : ss[j]? = some .r) (hm : CellOk N H .r (.slice a l c)) (hl : l ≤ L) (k : ∀ H', HX H0 H' b1 xs N b ss → (∀ a l c, hcell H' b j = some (.slice a l c) → l ≤ L) → X H') : Cells H b j 1 ∧ ∀ H' : Heap, Puts H b j [.slice a l c] H' → X H' := by
  refine ⟨h.obj.cells 1 j (get_lt hj), fun H' hp => k H' (h.puts (ts := [.r]) (us := [.slice a l c]) ⟨hm, trivial⟩ hp (drop_get hj)) ?_⟩
  intro xa xl xc hx
  obtain ⟨hbn, vs, hbk, ha⟩ := h.obj
  have hjl : j < vs.length := by
    rw [ha.len]
    exact get_lt hj
  have hb4 := hp.blk hbk (by simp; omega)
  rw [hb4.cell] at hx
  unfold splice at hx
  rw [List.append_assoc, List.getElem?_append_right (by simp; omega)] at hx
  simp [Nat.min_eq_left (Nat.le_of_lt hjl)] at hx
  omega

theorem all_cons {N : Nat} {H : Heap} {σ : Sr} {ss : List Sr} {vs : List Value} (h : AllOk N H (σ :: ss) vs) : ∃ v r, vs = v :: r ∧ CellOk N H σ v ∧ AllOk N H ss r := by
  cases vs with
  | nil => exact h.elim
  | cons v r => exact ⟨v, r, rfl, h.1, h.2⟩
theorem all_nil {N : Nat} {H : Heap} {vs : List Value} (h : AllOk N H [] vs) : vs = [] := by
  cases vs with
  | nil => rfl
  | cons => exact h.elim
abbrev nodeS : List Sr := [.i, .i, .f, .r]
abbrev callS : List Sr := [.i, .s, .s, .i, .f, .i, .i, .r]
abbrev evS : List Sr := [.i, .s, .s, .s, .i, .s, .s, .i, .f, .i, .i, .r, .i, .r]

theorem node_ok {H : Heap} (g : Glob H) (k m t : Int) {w : Nat} (hw : w < 18446744073709551616) {a : Option Addr} {l c : Nat} (hr : ∃ bs, SRow H 1 l (.slice a l c) (bytesV bs) ∧ l ≤ c) :
    Does Tryz.prog 67 [.agg #[.int .i64 k, .int .i64 m, .int .i64 t, .float .f64 w, .slice a l c]] H fun v H' => ∃ (k m : Int) (f : Nat) (a : Option Addr) (l c : Nat), v = .agg #[.int .i64 k, .int .i64 m, .float .f64 f, .slice a l c] ∧ AllOk H.size H' nodeS [.int .i64 k, .int .i64 m, .float .f64 f, .slice a l c] ∧ Ext [] H H' := by
  refine Fn_of_vc Tryz.mixed (NodeV _ _ _ _ _ _ _ _ _) ?_
  intro b1 H2 hn1 b3 H4 hn3
  have hx4 : Ext [] H H4 := hn1.ext.trans hn3.ext
  have s2 := hn1.size
  have s4 := hn3.size
  have e3 := hn3.eq
  have ex4 : EX H4 H4 b1 [.int .i64 k, .int .i64 m, .int .i64 t, .float .f64 w, .slice a l c] := ⟨hn1.blk.ext hn3.ext (by simp), Ext.refl _ _, g.ext hx4, fun a' l' c' hm => by
    have e : Value.slice a' l' c' = .slice a l c := by simpa using hm
    cases e
    obtain ⟨bs, h1, h2⟩ := hr
    exact ⟨bs, srow_ext h1 hx4, h2⟩⟩
  have zero : ∀ N H', AllOk N H' nodeS [.int .i64 0, .int .i64 0, .float .f64 0, .slice none 0 0] := fun N H' => ⟨⟨0, rfl, by decide, by decide⟩, ⟨0, rfl, by decide, by decide⟩, ⟨0, rfl, by decide⟩, ⟨none, 0, 0, [], rfl, ⟨rfl, rfl⟩, by decide, by simp [blkOf]⟩, trivial⟩
  have four : ∀ N H' (x y : Int) (f : Nat), In64 x → In64 y → f < 18446744073709551616 → AllOk N H' nodeS [.int .i64 x, .int .i64 y, .float .f64 f, .slice none 0 0] := fun N H' x y f h1 h2 h3 => ⟨⟨x, rfl, h1⟩, ⟨y, rfl, h2⟩, ⟨f, rfl, h3⟩, ⟨none, 0, 0, [], rfl, ⟨rfl, rfl⟩, by decide, by simp [blkOf]⟩, trivial⟩
  have fin : ∀ {xs : List Value} {H91 : Heap} {N b : Nat}, HX H4 H91 b1 xs N b nodeS →
    ∃ n92 : Int, hcell H91 b 0 = some (.int .i64 n92) ∧ (
      ∃ n93 : Int, hcell H91 b (0 + 1) = some (.int .i64 n93) ∧ (
       ∃ f94 : Nat, hcell H91 b ((0 + 1) + 1) = some (.float .f64 f94) ∧ (
        ∃ a95 : Option Addr, ∃ l96 : Nat, ∃ c97 : Nat, hcell H91 b (((0 + 1) + 1) + 1) = some (.slice a95 l96 c97) ∧ (
         Cells H91 b3 0 4 ∧ ∀ H98 : Heap, Puts H91 b3 0 [(.int .i64 n92), (.int .i64 n93), (.float .f64 f94), (.slice a95 l96 c97)] H98 → (
          ∃ n99 : Int, hcell H98 b3 0 = some (.int .i64 n99) ∧ (
           ∃ n100 : Int, hcell H98 b3 (0 + 1) = some (.int .i64 n100) ∧ (
           ∃ f101 : Nat, hcell H98 b3 ((0 + 1) + 1) = some (.float .f64 f101) ∧ (
           ∃ a102 : Option Addr, ∃ l103 : Nat, ∃ c104 : Nat, hcell H98 b3 (((0 + 1) + 1) + 1) = some (.slice a102 l103 c104) ∧ (
           ∃ (k m : Int) (f : Nat) (a : Option Addr) (l c : Nat), Value.agg #[(.int .i64 n99), (.int .i64 n100), (.float .f64 f101), (.slice a102 l103 c104)] = .agg #[.int .i64 k, .int .i64 m, .float .f64 f, .slice a l c] ∧ AllOk H.size H98 nodeS [.int .i64 k, .int .i64 m, .float .f64 f, .slice a l c] ∧ Ext [] H H98))))))))) := by
    intro xs H91 N b hh
    obtain ⟨hbn, vs, hb, ha⟩ := hh.obj
    obtain ⟨v0, r0, rfl, ⟨x0, rfl, h0⟩, ha0⟩ := all_cons ha
    obtain ⟨v1, r1, rfl, ⟨x1, rfl, h1⟩, ha1⟩ := all_cons ha0
    obtain ⟨v2, r2, rfl, ⟨x2, rfl, h2⟩, ha2⟩ := all_cons ha1
    obtain ⟨v3, r3, rfl, ⟨x3, l3, c3, bs3, rfl, h3⟩, ha3⟩ := all_cons ha2
    cases all_nil ha3
    have hr1 := hn3.blk.ext hh.ext (by simp)
    refine ⟨_, hb.cell _, _, hb.cell _, _, hb.cell _, _, _, _, hb.cell _, hr1.cells _ _ (by simp), fun H98 hp => ?_⟩
    have hz := hp.blk hr1 (by simp)
    have hnn := hh.nn
    refine ⟨_, hz.cell _, _, hz.cell _, _, hz.cell _, _, _, _, hz.cell _, _, _, _, _, _, _, rfl, (ha.ext hp.ext (by simp; omega)).mono (by omega), (hx4.trans hh.ext).trans' hp.ext (fun i hi => .inl (by simp only [List.mem_singleton] at hi; omega))⟩
  refine ex_li ex4 (by rfl) ?_
  refine ex_li ex4 (by rfl) ?_
  refine ex_li ex4 (by rfl) ?_
  refine ex_lf ex4 (by rfl) ?_
  repeat' first
    | assumption
    | exact fin (by assumption)
    | refine ex_is (by first | assumption | exact HX.ex (by assumption)) (by rfl) ?_
    | refine hx_all nodeS (by assumption) (by rfl) (four _ _ _ _ _ ⟨by omega, by omega⟩ ⟨by omega, by omega⟩ (by assumption)) ⟨[], by rfl⟩ fun H' _ => ?_
    | refine hx_cut (by assumption) ?_ fun H' _ => ?_
    | refine hx_pick ⟨by decide, by decide⟩ fun r _ _ => ?_
    | refine hx_time (by assumption) (by assumption) fun r H' _ _ => ?_
    | refine ex_time (by assumption) (by assumption) fun r H' _ _ _ => ?_
    | refine hx_plain (by assumption) fun r _ => ?_
    | refine ex_new nodeS (by assumption) zero fun d H' _ _ => ?_
    | refine hx_oi (by assumption) (by rfl) fun m => ?_
    | refine hx_lr (by assumption) (by rfl) ?_
    | refine hx_few (by assumption) (by simp) 60 (by rfl) (by decide) fun a' l' c' H' _ _ => ?_
    | refine hx_prl 100 (by assumption) (by rfl) (by assumption) (by omega) fun H' _ _ => ?_
    | refine hx_pr (by assumption) (by rfl) (by assumption) fun H' _ => ?_
    | refine hx_li (by assumption) (by rfl) ?_
    | refine hx_path fun t _ => ?_
    | refine hx_newb (by assumption) (by omega) fun c d H' _ _ => ?_
    | refine ⟨by decide, fun q _ => ?_⟩
    | refine hx_app (by assumption) [46, 46, 47] (by rfl) (by rfl) (by decide) (by rfl) _ (by assumption) (by omega) fun H' _ _ => ?_
    | refine hx_app (by assumption) [47] (by rfl) (by rfl) (by decide) (by rfl) _ (by assumption) (by omega) fun H' _ _ => ?_
    | refine ⟨⟨by omega, by omega⟩, ?_⟩
    | refine br (fun _ => ?_) (fun _ => ?_)
    | refine ⟨?_, ?_⟩
end Go.Proofs
end

