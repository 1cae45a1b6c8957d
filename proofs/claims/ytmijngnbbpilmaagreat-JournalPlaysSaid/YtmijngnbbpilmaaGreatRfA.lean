/-
  The contracts of the document's device and journal, first part. No condition.
-/
import Derived.Test.YtmijngnbbpilmaaGreatJnA
import Derived.Test.YtmijngnbbpilmaaGreatJnV
import Derived.Test.YtmijngnbbpilmaaGreatJnB

section
open Go Go.Vc
namespace Go.Proofs

theorem put1_ok {G : Nat → Prop} {b : Nat} {bs : List Int} {x : Int} {n : Nat} {H : Heap} (hG : ∀ k, H.size ≤ k → G k) (hn : n ≤ 8) (hl : bs.length ≤ 1000000) (h : WIs G H b bs) :
    Does Tryz.prog 85 [.pointer (some ⟨b, 0, none⟩), .int .u64 x, .int .i64 n] H fun v H' => v = .tuple #[] ∧ WIs G H' b (bs ++ beL n x) ∧ ExtP G H H' := by
  refine Fn_of_vc Tryz.mixed (vc_put1 _ _ _ _ _) ?_
  refine ⟨⟨by omega, by omega⟩, fun i H' => ∃ (j : Nat) (d : List Int), i = (j : Int) - 1 ∧ j ≤ n ∧ WIs G H' b d ∧ d ++ beL j x = bs ++ beL n x ∧ ExtP G H H', fun i _ => (i + 1).toNat, ⟨n, bs, rfl, Nat.le_refl _, h, rfl, ExtP.refl _ _⟩, ?_⟩
  rintro _ H4 ⟨j, d, rfl, hj, hw, hd, hx4⟩
  refine ⟨fun h0 => ?_, fun h0 => ?_⟩
  · obtain ⟨k, rfl⟩ : ∃ k, j = k + 1 := ⟨j - 1, by omega⟩
    have hdl : d.length ≤ 1000008 := by
      have := congrArg List.length hd
      simp only [List.length_append, beL_length] at this
      omega
    have hblt := hw.lt
    obtain ⟨g0, a, c, hb, ho, hnb, hg⟩ := hw
    have ek : (8 * (((k + 1 : Nat) : Int) - 1)) = ((8 * k : Nat) : Int) := by omega
    refine ⟨b, 0, rfl, a, _, c, by rw [hb.cell]; rfl, ⟨by omega, by omega⟩, ?_⟩
    rintro _ rfl
    have ew : IntKind.wrap .u64 (8 * (((k + 1 : Nat) : Int) - 1)) = 8 * (((k + 1 : Nat) : Int) - 1) := by rw [wrap_u64]; omega
    rw [ew]
    refine ⟨by omega, ?_⟩
    rintro _ rfl _ rfl b12 H13 hn13
    have hq : IntKind.wrap .u8 (Int.fdiv x (2 ^ (min (Int.toNat (8 * (((k + 1 : Nat) : Int) - 1))) (IntKind.bits .u64)))) = x / 256 ^ k % 256 := by
      rw [ek, Int.toNat_natCast, show min (8 * k) (IntKind.bits .u64) = 8 * k from Nat.min_eq_left (by show 8 * k ≤ 64; omega), pow8, wrap_u8, Int.fdiv_eq_ediv_of_nonneg _ (Int.pow_nonneg (by decide))]
    rw [hq] at hn13
    have ho13 := ho.ext hn13.ext (by simp)
    have hb13 := hb.ext hn13.ext (by simp)
    refine ⟨u8s d, [.int .u8 (x / 256 ^ k % 256)], ho13.row _ _, ⟨rfl, .inr rfl, fun i u hi => ?_⟩, u8s_one [x / 256 ^ k % 256], by omega, fun hle => by simpa using ho13.room (n := 1) hle, ?_⟩
    · show hcell H13 b12 (0 + i) = some u
      rw [Nat.zero_add, hn13.blk.cell]; exact hi
    intro a16 c17 H18 happ
    obtain ⟨ho18, hx18, hfr18⟩ := happ.own ho13 (ho13.row _ _) rfl rfl
    have hb18 := hb13.ext hx18 hnb
    refine ⟨b, 0, rfl, hb18.cells _ _ (by simp), fun H21 hp => ?_⟩
    have hb21 := hp.blk hb18 (by simp)
    have hs13 := hn13.size
    have hs18 := hx18.size
    have hnb16 : b ∉ blkOf a16 := by
      intro hm
      rcases hfr18 b hm with h' | h'
      · exact hnb h'
      · omega
    have ho21 := ho18.ext hp.ext (fun k hk hm => by simp only [List.mem_singleton] at hm; subst hm; exact hnb16 hk)
    have hx21 : ExtP G H4 H21 := (hn13.ext.anyP.trans (hx18.lift (fun k _ hk => hg k hk))).trans (hp.ext.lift (fun k _ hk => by simp only [List.mem_singleton] at hk; subst hk; exact g0))
    have hs4 := hx4.size
    refine ⟨⟨by omega, by omega⟩, ⟨k, d ++ [x / 256 ^ k % 256], by omega, by omega, ⟨g0, a16, c17, ?_, ?_, hnb16, ?_⟩, ?_, hx4.trans hx21⟩, by simp only []; omega⟩
    · simpa [splice] using hb21
    · rw [u8s_append, List.length_append]; exact ho21
    · intro k' hk'
      rcases hfr18 k' hk' with h' | h'
      · exact hg k' h'
      · exact hG k' (by omega)
    · rw [← hd, List.append_assoc]; rfl
  · have : j = 0 := by omega
    subst this
    have e : d = bs ++ beL n x := by rw [← hd]; simp [beL]
    subst e
    exact ⟨rfl, hw, hx4⟩

theorem wu1_ok {G : Nat → Prop} {f n : Nat} {b : Nat} {bs : List Int} {x : Int} {H : Heap} (hf : (f = 84 ∧ n = 2) ∨ (f = 64 ∧ n = 4)) (hG : ∀ k, H.size ≤ k → G k) (hl : bs.length ≤ 1000000) (h : WIs G H b bs) :
    Does Tryz.prog f [.pointer (some ⟨b, 0, none⟩), .int .i64 x] H fun v H' => v = .tuple #[] ∧ WIs G H' b (bs ++ beL n (IntKind.wrap .u64 x)) ∧ ExtP G H H' := by
  rcases hf with ⟨rfl, rfl⟩ | ⟨rfl, rfl⟩
  · refine Fn_of_vc Tryz.mixed (vc_w1u16 _ _ _ _) ?_
    rintro _ rfl
    refine (put1_ok (n := 2) hG (by omega) hl h).mono ?_
    rintro _ _ ⟨rfl, h1, h2⟩
    exact ⟨rfl, rfl, h1, h2⟩
  · refine Fn_of_vc Tryz.mixed (vc_w1u32 _ _ _ _) ?_
    rintro _ rfl
    refine (put1_ok (n := 4) hG (by omega) hl h).mono ?_
    rintro _ _ ⟨rfl, h1, h2⟩
    exact ⟨rfl, rfl, h1, h2⟩

theorem fails1 {G : Nat → Prop} {b : Nat} {H H6 H9 : Heap} {s : List Int × Bool} (h : RIs G H b s) (h6 : Puts H b (0 + 1) [.bool true] H6) (h9 : Puts H6 b 0 [.slice none 0 0] H9) : RIs G H9 b ([], true) ∧ Ext [b] H H9 := by
  obtain ⟨g0, hB, a, c, hb, ho, hnb, hg⟩ := h
  have hb6 := h6.blk hb (by simp)
  have hb9 := h9.blk hb6 (by simp [splice])
  exact ⟨⟨g0, (fun z hz => by cases hz), none, 0, by simpa [splice] using hb9, ⟨rfl, Nat.le_refl _, .inl ⟨rfl, rfl⟩⟩, by simp [blkOf], by simp [blkOf]⟩, h6.ext.trans h9.ext⟩

theorem raw1_ok {G : Nat → Prop} {b : Nat} {s : List Int × Bool} {n : Nat} {H : Heap} (hn : n ≤ 1000000) (h : RIs G H b s) :
    Does Tryz.prog 68 [.pointer (some ⟨b, 0, none⟩), .int .i64 n] H fun v H' => ∃ a c, v = .slice a (rd s n).1.length c ∧ SRow H' 1 (rd s n).1.length (.slice a (rd s n).1.length c) (u8s (rd s n).1) ∧ RIs G H' b (rd s n).2 ∧ Ext [b] H H' := by
  refine Fn_of_vc Tryz.mixed (vc_raw1 _ _ _ _) ?_
  have h0 := h
  obtain ⟨bs, lk⟩ := s
  obtain ⟨g0, hB, a, c, hb, ho, hnb, hg⟩ := h
  simp only at hb ho hB
  have bad : ∀ {H6 H9 : Heap}, Puts H b (0 + 1) [.bool true] H6 → Puts H6 b 0 [.slice none 0 0] H9 → rd (bs, lk) n = ([], ([], true)) →
      ∃ a c, Value.slice none 0 0 = .slice a (rd (bs, lk) n).1.length c ∧ SRow H9 1 (rd (bs, lk) n).1.length (.slice a (rd (bs, lk) n).1.length c) (u8s (rd (bs, lk) n).1) ∧ RIs G H9 b (rd (bs, lk) n).2 ∧ Ext [b] H H9 := by
    intro H6 H9 h6 h9 e
    obtain ⟨h1, h2⟩ := fails1 h0 h6 h9
    rw [e]
    exact ⟨none, 0, rfl, ⟨rfl, rfl⟩, h1, h2⟩
  have cl : Cells H b (0 + 1) 1 := hb.cells _ _ (by simp)
  have cl2 : ∀ {H6 : Heap}, Puts H b (0 + 1) [.bool true] H6 → Cells H6 b 0 1 := fun h6 => (h6.blk hb (by simp)).cells _ _ (by simp [splice])
  refine ⟨b, 0, rfl, lk, by rw [hb.cell]; rfl, fun e => ⟨b, 0, rfl, cl, fun H6 h6 => ⟨b, 0, rfl, cl2 h6, fun H9 h9 => bad h6 h9 ?_⟩⟩, fun e => ⟨fun e0 => absurd e0 (by omega), fun _ => ⟨b, 0, rfl, a, _, c, by rw [hb.cell]; rfl, fun e1 => ⟨b, 0, rfl, cl, fun H6 h6 => ⟨b, 0, rfl, cl2 h6, fun H9 h9 => bad h6 h9 ?_⟩⟩, fun e1 b27 H28 hn28 => ?_⟩⟩⟩
  · unfold rd; rw [if_neg (by simp [e])]
  · unfold rd; rw [if_neg (by simp only []; omega)]
  subst e
  have e2 : rd (bs, false) n = (bs.take n, (bs.drop n, false)) := by unfold rd; rw [if_pos ⟨rfl, by simp only []; omega⟩]
  rw [e2]
  have hle : n ≤ bs.length := by omega
  have hb28 := hb.ext hn28.ext (by simp)
  have ho28 := ho.ext hn28.ext (by simp)
  have hoe : Own H28 1 (some ⟨b27, 0, none⟩) 0 0 ([] : List Value) := Own.of_new (size := 1) (len := 0) (cap := 0) hn28.blk rfl (Nat.le_refl _) (by decide)
  have hlen : (bs.take n).length = n := by rw [List.length_take]; omega
  refine ⟨b, 0, rfl, a, _, c, by rw [hb28.cell]; rfl, by omega, by have := ho.2.1; omega, [], u8s (bs.take n), hoe.row _ _, ?_, u8s_one _, by simp; omega, fun hle => hoe.room (n := (n : Int).toNat) hle, ?_⟩
  · rw [Int.toNat_natCast, u8s_take]
    exact SRow.take1 (ho28.row bs.length c) hle
  intro a36 c37 H38 happ
  rw [Int.toNat_natCast] at happ
  obtain ⟨h1, h2, h3⟩ := fresh_copy hn28 hlen happ
  have hb38 := hb.ext h2 (by simp)
  have ho38 := ho.ext h2 (by simp)
  refine ⟨b, 0, rfl, a, _, c, by rw [hb38.cell]; rfl, by omega, by omega, ?_⟩
  rintro _ rfl
  refine ⟨b, 0, rfl, hb38.cells _ _ (by simp), fun H47 hp47 => ?_⟩
  have hb47 := hp47.blk hb38 (by simp)
  rw [Int.toNat_natCast, Nat.zero_add] at *
  have hd := ho38.drop hle
  have hblk : ∀ k ∈ blkOf (if c = n then a else Option.map (fun x => Addr.add x (n * 1)) a), k ∈ blkOf a := by
    intro k hk
    split at hk
    · exact hk
    · obtain ⟨_, _, ⟨rfl, _⟩ | ⟨bb, oo, cs, rfl, _⟩⟩ := ho
      · cases hk
      · simp only [Option.map_some, add_none] at hk; exact hk
  have hblt := hb.lt
  refine ⟨a36, c37, by rw [hlen], ?_, ⟨g0, hB.drop n, _, _, by simpa [splice] using hb47, ?_, fun hm => hnb (hblk _ hm), fun k hk => hg k (hblk k hk)⟩, h2.any.trans hp47.ext⟩
  · rw [hlen]
    refine (h1.row n c37).ext hp47.ext (fun k hk hm => ?_)
    simp only [List.mem_singleton] at hm; subst hm
    have := h3 _ hk
    omega
  · rw [u8s_drop, List.length_drop]
    refine hd.ext hp47.ext (fun k hk hm => ?_)
    simp only [List.mem_singleton] at hm; subst hm
    exact hnb (hblk _ hk)

theorem get1_ok {G : Nat → Prop} {b : Nat} {s : List Int × Bool} {n : Nat} {H : Heap} (hn : n ≤ 7) (h : RIs G H b s) :
    Does Tryz.prog 66 [.pointer (some ⟨b, 0, none⟩), .int .i64 n] H fun v H' => v = .int .u64 (be (rd s n).1) ∧ RIs G H' b (rd s n).2 ∧ Ext [b] H H' := by
  have hB : Byt (rd s n).1 := rd_byt h.2.1 n
  have hl := rd_len s n
  refine Fn_of_vc Tryz.mixed (vc_get1 _ _ _ _) ?_
  refine (raw1_ok (by omega) h).mono ?_
  rintro _ H2 ⟨a, c, rfl, hrow, hr, hx⟩
  generalize (rd s n).1 = t at *
  refine ⟨_, _, _, rfl, fun v i H' => H' = H2 ∧ ∃ j : Nat, i = j ∧ j ≤ t.length ∧ v = be (t.take j), fun _ i _ => t.length - i.toNat, ⟨rfl, 0, rfl, by omega, rfl⟩, ?_⟩
  rintro _ _ _ ⟨rfl, j, rfl, hj, rfl⟩
  refine ⟨fun hlt => ?_, fun hge => ?_⟩
  · have hi : t[j]? = some t[j] := List.getElem?_eq_getElem (by omega)
    have htk : t.take (j + 1) = t.take j ++ [t[j]] := by rw [List.take_add_one, hi]; rfl
    obtain ⟨z0, z1⟩ := hB t[j] (List.getElem_mem _)
    obtain ⟨b11, o12, e, hc⟩ := SRow.at hrow (u8s_at hi)
    generalize t[j] = z at *
    obtain ⟨v0, v1⟩ := be_lt (hB.take j)
    have hv : be (t.take j) < 256 ^ 6 := by
      refine Int.lt_of_lt_of_le v1 ?_
      rw [List.length_take, Nat.min_eq_left hj]
      exact pow256 (by omega)
    refine ⟨by decide, ?_⟩
    rintro _ rfl
    refine ⟨by omega, hlt, b11, o12, e, z, by rw [Int.toNat_natCast]; exact hc, ?_⟩
    rintro _ rfl _ rfl
    have e8 : min (Int.toNat 8) (IntKind.bits .u64) = 8 := by decide
    have e6 : (256 : Int) ^ 6 = 281474976710656 := by decide
    rw [e6] at hv
    have eq : IntKind.wrap .u64 (IntKind.wrap .u64 (be (t.take j) * 2 ^ (min (Int.toNat 8) (IntKind.bits .u64))) + IntKind.wrap .u64 z) = be (t.take (j + 1)) := by
      rw [e8, htk, be_snoc, wrap_u64, wrap_u64, wrap_u64, show (2 : Int) ^ 8 = 256 by decide]
      omega
    exact ⟨⟨by omega, by omega⟩, ⟨rfl, j + 1, by omega, by omega, eq⟩, by simp only []; omega⟩
  · have : j = t.length := by omega
    subst this
    exact ⟨by rw [List.take_length], hr, hx⟩

theorem ru1_ok {G : Nat → Prop} {f n : Nat} {b : Nat} {s : List Int × Bool} {H : Heap} (hf : (f = 67 ∧ n = 2) ∨ (f = 37 ∧ n = 4)) (h : RIs G H b s) :
    Does Tryz.prog f [.pointer (some ⟨b, 0, none⟩)] H fun v H' => v = .int .i64 (num s n) ∧ RIs G H' b (rd s n).2 ∧ Ext [b] H H' := by
  have w : n ≤ 4 → IntKind.wrap .i64 (num s n) = num s n := fun hn => by
    obtain ⟨h1, h2⟩ := num_lt h.2.1 hn
    exact wrap_of_in64 ⟨by omega, by omega⟩
  rcases hf with ⟨rfl, rfl⟩ | ⟨rfl, rfl⟩
  · refine Fn_of_vc Tryz.mixed (vc_r1u16 _ _ _) ?_
    refine (get1_ok (n := 2) (by omega) h).mono ?_
    rintro _ _ ⟨rfl, h1, h2⟩
    refine ⟨_, rfl, ?_⟩
    rintro _ rfl
    exact ⟨congrArg _ (w (by omega)), h1, h2⟩
  · refine Fn_of_vc Tryz.mixed (vc_r1u32 _ _ _) ?_
    refine (get1_ok (n := 4) (by omega) h).mono ?_
    rintro _ _ ⟨rfl, h1, h2⟩
    refine ⟨_, rfl, ?_⟩
    rintro _ rfl
    exact ⟨congrArg _ (w (by omega)), h1, h2⟩


end Go.Proofs
end

section
open Go Go.Vc
namespace Go.Proofs

theorem rdwrite_ok {H : Heap} {F : Nat → Prop} {pd : Nat} {D : Dev} {n B : Nat} (h : IsRDev H F pd D) (hw : D.Wf n B) (hB : B ≤ 1000000000) (k : Int) {a : Option Addr} {len cap : Nat} {xs : Octs} (hs : KeptB F H a len cap xs) :
    Does Tryz.prog 33 [.pointer (some ⟨pd, 0, none⟩), .int .i64 k, .slice a len cap] H fun v H' => v = .int .i64 (writeD D n k xs).2 ∧ IsRDev H' (grow F H H') pd (writeD D n k xs).1 ∧ ExtP F H H' := by
  refine Fn_of_vc Tryz.mixed (vc_rdwrite _ _ _ _ _ _ _) ?_
  have hl : xs.length = len := by have := hs.at_.1; rw [bytesV_length] at this; omega
  have hlt := h.lt
  have hwl := hw.len
  have keep : IsRDev H (grow F H H) pd D := h.up (fun _ => .inl) (grow_lt hlt (Nat.le_refl _))
  have hwk := hw.works
  have hpf := hw.pfew
  have h' := h
  obtain ⟨ak0, ck0, ap0, cp0, h0⟩ := h'
  have bad : (¬ (0 ≤ k ∧ k < (n : Int)) ∨ xs.length ≠ 128) → Value.int .i64 1 = .int .i64 (writeD D n k xs).2 ∧ IsRDev H (grow F H H) pd (writeD D n k xs).1 ∧ ExtP F H H := fun hb => by
    have e : writeD D n k xs = (D, 1) := if_pos hb
    rw [e]
    exact ⟨rfl, keep, ExtP.refl _ _⟩
  refine ⟨fun h1 => bad (.inl (by omega)), fun h1 => ⟨_, _, rfl, ak0, _, ck0, h0.head.cell 0, fun h2 => bad (.inl (by omega)), fun h2 => ⟨fun h3 => bad (.inr (by omega)), fun h3 => ?_⟩⟩⟩
  have hk : 0 ≤ k ∧ k < n := by omega
  have hc : ¬ (¬ (0 ≤ k ∧ k < (n : Int)) ∨ xs.length ≠ 128) := by omega
  refine (rworks_ok h (by omega) hwk.1 hw.fuse).mono ?_
  rintro _ H7 ⟨rfl, hd7, hx7⟩
  have hs7 := hx7.size
  refine ⟨_, rfl, fun h4 => ?_, fun h4 => ?_⟩
  · have e2 : writeD D n k xs = ((wk D).1, 4) := by unfold writeD; rw [if_neg hc, h4]; rfl
    rw [e2]
    exact ⟨rfl, hd7.up (fun _ => .inl) (grow_lt hlt hs7), hx7⟩
  have e : (wk D).2 = true := eq_true_of_ne_false h4
  have e2 : writeD D n k xs = ({ (wk D).1 with pend := D.pend ++ [(k, xs)] }, 0) := by unfold writeD; rw [if_neg hc, e]; rfl
  rw [e2]
  obtain ⟨ak, ck, ap, cp, h7⟩ := hd7
  rw [(wk_kept D).1, (wk_kept D).2] at h7
  refine ⟨_, _, rfl, ap, _, cp, h7.head.cell 1, fun b14 H15 hn => ?_⟩
  have hx15 := hn.ext
  have e14 := hn.eq
  have s15 := hn.size
  have ho15 : Own H15 1 (some ⟨b14, 0, none⟩) 0 0 [] := ⟨rfl, Nat.le_refl _, by unfold maxLen; omega, .inr ⟨b14, [], rfl, hn.blk, rfl⟩⟩
  have hs15 := (hs _ hx7).ext hx15 (by simp)
  refine ⟨⟨(h7.head.ext hx15 (by simp)).cell 1, trivial⟩, [], bytesV xs, ho15.row 0 0, hs15, bytesV_one xs, by omega, fun hle => ho15.room (n := len) hle, ?_⟩
  intro a18 c19 H20 happ
  obtain ⟨q1, q2, q3⟩ := happ.own ho15 (ho15.row 0 0) hs15.1 rfl
  simp only [Nat.zero_add, List.nil_append] at q1 ⊢
  have hx720 : Ext [] H7 H20 := hx15.trans' q2 (fun i hi => by simp only [blkOf, List.mem_singleton] at hi; omega)
  have h20 := h7.grown hx720.toP (by simp)
  have hf9 : ∀ i, i ∈ blkOf a18 → calm (grow F H7 H20) pd ak none ap i := fun i hi => h7.calm_new (by
    rcases q3 i hi with h5 | h5
    · simp only [blkOf, List.mem_singleton] at h5; omega
    · omega) (q1.lt i hi)
  refine ⟨⟨h20.head.cell 1, trivial⟩, fun b21 H22 hn22 => ⟨⟨(h20.head.ext hn22.ext (by simp)).cell 1, trivial⟩, ?_⟩⟩
  refine h20.sp.push (v := [.int .i64 k, .slice a18 len c19]) (x := (k, xs)) (fun i hi => hi.2.2.2.2) ⟨a18, len, c19, rfl, q1.2.1, q1.row _ _, q1.lt⟩ (fun i hi => hf9 i hi) rfl (by omega) ?_ b21 H22 hn22
  intro a25 c26 H27 hs27 hx27 hk27
  have h27 := h20.swapP hx27.toP (fun i hi => hi) (pend' := D.pend ++ [(k, xs)]) (by rw [List.length_append]; exact hs27) hk27
  refine ⟨_, _, rfl, h27.head.cells 1 1 (by simp), fun H30 hp => ?_⟩
  obtain ⟨h30, hx30⟩ := h27.poke hp (by simp)
  have s20 := hx720.size
  have s27 := hx27.size
  have s30 := hx30.size
  refine ⟨trivial, ⟨ak, ck, a25, c26, ?_⟩, ?_⟩
  · have h31 := h30.up (F' := grow F H H30) (fun i hi => by
      rcases hi with (hi | hi) | hi
      · exact .inl hi
      · exact .inr ⟨by omega, by omega⟩
      · exact .inr ⟨by omega, by omega⟩) (grow_lt hlt (by omega))
    simp only [(wk_kept D).1, List.length_append]
    exact h31
  · refine ((hx7.trans' hx720.toP (by simp)).trans' hx27.toP ?_).trans' hx30.toP ?_
    · intro i hi; exact .inr (h7.fp i hi)
    · intro i hi; simp only [List.mem_singleton] at hi; subst hi; exact .inr h7.fh

theorem rdcrash_ok {H : Heap} {F : Nat → Prop} {pd : Nat} {D : Dev} {n B : Nat} (h : IsRDev H F pd D) (hw : D.Wf n B) (hB : B ≤ 1000000000) {a : Option Addr} {len cap : Nat} {ms : Octs} (hs : KeptB F H a len cap ms) :
    Does Tryz.prog 16 [.pointer (some ⟨pd, 0, none⟩), .slice a len cap] H fun v H' => v = .tuple #[] ∧ IsRDev H' (grow F H H') pd (crashD D ms) ∧ ExtP F H H' := by
  refine Fn_of_vc Tryz.mixed (vc_rdcrash _ _ _ _ _ _) ?_
  have hlt := h.lt
  have hml : ms.length = len := by have := hs.at_.1; rw [bytesV_length] at this; omega
  obtain ⟨ak, ck, ap, cp, h⟩ := h
  have hpd := h.fh
  have hpf := hw.pfew
  have hfew := hw.few
  let T : Nat → Heap → Prop := fun j H' => ExtP F H H' ∧ ∃ ak' ck', Three H' (grow F H H') pd [.slice ak' D.kept.length ck', .slice ap D.pend.length cp, .int .i64 D.fuse, .bool D.dead, .int .i64 D.works] ak' ck' (crashL ms (D.pend.take j) 0 D.kept) none 0 [] ap cp D.pend
  refine ⟨fun i H' => ∃ j : Nat, i = j ∧ j ≤ D.pend.length ∧ T j H', fun i _ => D.pend.length - i.toNat, ⟨0, rfl, Nat.zero_le _, ExtP.refl _ _, ak, ck, h.up (fun _ => .inl) (grow_lt hlt (Nat.le_refl _))⟩, ?_⟩
  rintro _ H4 ⟨j, rfl, hj, hx4, ak', ck', h4⟩
  have s4 := hx4.size
  refine ⟨_, _, rfl, ap, _, cp, h4.head.cell 1, fun h1 => ?_, fun h1 => ?_⟩
  · obtain ⟨w, hwj⟩ : ∃ w, D.pend[j]? = some w := ⟨_, List.getElem?_eq_getElem (by omega)⟩
    obtain ⟨b11, o12, v, eb, hc, ⟨a14, l15, c16, rfl, hle14, hr, hlt14⟩, hf⟩ := h4.sp.get hwj
    have hpin := hw.pin w (List.mem_of_getElem? hwj)
    have hkl : (crashL ms (D.pend.take j) 0 D.kept).length = D.kept.length := crashL_length _ _ _ _
    have hnext : crashL ms (D.pend.take (j + 1)) 0 D.kept = if mbit ms j then (crashL ms (D.pend.take j) 0 D.kept).set w.1.toNat w.2 else crashL ms (D.pend.take j) 0 D.kept := by
      rw [take_snoc hwj, crashL_snoc, Nat.zero_add, List.length_take, Nat.min_eq_left (by omega)]
    have no : mbit ms j = false → T (j + 1) H4 := fun hm => ⟨hx4, ak', ck', by rw [hnext, hm]; exact h4⟩
    refine ⟨T (j + 1), ⟨by decide, fun q hq => ?_⟩, ?_⟩
    · rw [wrap_tdiv (by omega) (by decide) (by omega)] at hq
      refine ⟨fun h2 => ⟨by decide, fun q2 hq2 => ?_⟩, fun h2 => no (by rw [mbit, decide_eq_false (by omega)]; rfl)⟩
      rw [wrap_tdiv (by omega) (by decide) (by omega)] at hq2
      have e1 : q2.toNat = j / 8 := by omega
      obtain ⟨b, o, ea, hcb⟩ := (hs _ hx4).get (bytesV_get ms (j / 8) (by omega))
      refine ⟨by omega, by omega, b, o, ea, _, by rw [e1]; exact hcb, by decide, fun q6 hq6 q7 hq7 => ?_⟩
      rw [tmod_pos (by omega)] at hq6
      have e7 : q7 = q6 := by
        rw [hq7]
        simp only [IntKind.wrap, IntKind.bits, IntKind.signed]
        simp only [Bool.false_and, Bool.false_eq_true, if_false]
        omega
      subst e7
      refine ⟨by omega, ?_⟩
      rintro _ rfl _ rfl
      have hb := one_byte (ms.getD (j / 8) 0) q7 (by omega) (by omega)
      have e8 : q7.toNat = j % 8 := by omega
      have em : mbit ms j = (ms.getD (j / 8) 0).toNat.testBit (j % 8) := by rw [mbit, decide_eq_true (by omega)]; rfl
      rw [e8] at hb ⊢
      refine ⟨fun h3 => ?_, fun h3 => no ?_⟩
      · have hm : mbit ms j = true := by rw [em]; exact hb.1 h3
        refine ⟨_, _, rfl, ap, _, cp, h4.head.cell 1, by omega, h1, b11, o12, eb, w.1, hc 0 _ rfl, a14, l15, c16, hc 1 _ rfl, ?_⟩
        refine (rkeep_ok h4 (by rw [hkl]; rfl) (by rw [hkl, hw.len]; exact hfew) ⟨a14, l15, c16, rfl, hle14, hr, hlt14⟩ hf ⟨hpin.1, by rw [hkl, hw.len]; exact hpin.2.1⟩).mono ?_
        rintro _ H25 ⟨rfl, ak2, ck2, h25, hx25⟩
        have s25 := hx25.size
        refine ⟨rfl, hx4.trans' hx25.toP (fun i hi => by simp only [List.mem_singleton] at hi; subst hi; exact .inr hpd), ak2, ck2, ?_⟩
        rw [hnext, hm]
        rw [hkl] at h25
        exact h25.up (grow_sub s4 s25) (grow_lt hlt (by omega))
      · rw [em]
        cases hh : (ms.getD (j / 8) 0).toNat.testBit (j % 8) with
        | false => rfl
        | true => exact absurd (hb.2 hh) h3
    · rintro H33 hT
      exact ⟨⟨by omega, by omega⟩, ⟨j + 1, by omega, by omega, hT⟩, by dsimp only; omega⟩
  · have ej : j = D.pend.length := by omega
    subst ej
    rw [List.take_length] at h4
    have hkl : (crashL ms D.pend 0 D.kept).length = D.kept.length := crashL_length _ _ _ _
    have h4' := h4.swapP (ExtP.refl (fun _ => False) H4) (by simp) (Seq.nil _ _ _) (ap' := none) (cp' := 0) (pend' := []) (fun k hk => by cases hk)
    refine ⟨_, _, rfl, h4'.head.cells 1 1 (by simp), fun H36 hp1 => ?_⟩
    obtain ⟨h36, hx36⟩ := h4'.poke hp1 (by simp)
    refine ⟨_, _, rfl, h36.head.cells 1 3 (by simp), fun H39 hp2 => ?_⟩
    obtain ⟨h39, hx39⟩ := h36.poke hp2 (by simp)
    refine ⟨_, _, rfl, h39.head.cells 1 2 (by simp), fun H42 hp3 => ?_⟩
    obtain ⟨h42, hx42⟩ := h39.poke hp3 (by simp)
    have s36 := hx36.size
    have s39 := hx39.size
    have s42 := hx42.size
    refine ⟨rfl, ⟨ak', ck', none, 0, ?_⟩, ?_⟩
    · have e2 : (crashD D ms).kept = crashL ms D.pend 0 D.kept := rfl
      rw [e2, hkl]
      refine h42.up (fun i hi => ?_) (grow_lt hlt (by omega))
      rcases hi with (hi | hi) | hi
      · exact .inl hi
      · exact .inr ⟨by omega, by omega⟩
      · exact .inr ⟨by omega, by omega⟩
    · refine ((hx4.trans' hx36.toP ?_).trans' hx39.toP ?_).trans' hx42.toP ?_ <;> (intro i hi; simp only [List.mem_singleton] at hi; subst hi; exact .inr hpd)

theorem laid_append (kept : List Octs) (p q : List (Int × Octs)) : laid kept (p ++ q) = laid (laid kept p) q := by
  unfold laid; rw [List.foldl_append]

theorem laid_none6 {k : Int} (hk : 0 ≤ k) : ∀ (p : List (Int × Octs)) (kept : List Octs), (∀ w ∈ p, 0 ≤ w.1 ∧ w.1 ≠ k) → (laid kept p)[k.toNat]? = kept[k.toNat]?
  | [], kept, _ => rfl
  | w :: r, kept, h => by
    have e : laid kept (w :: r) = laid (kept.set w.1.toNat w.2) r := rfl
    have hw := h w (by simp)
    rw [e, laid_none6 hk r _ (fun x hx => h x (by simp [hx])), List.getElem?_set_ne (by omega)]

theorem laid_last {k : Int} (hk : 0 ≤ k) {kept : List Octs} (hl : k.toNat < kept.length) {p : List (Int × Octs)} (hp : ∀ w ∈ p, 0 ≤ w.1) {i : Nat} {w : Int × Octs} (hi : p[i]? = some w) (hw : w.1 = k) (hn : ∀ (j : Nat) x, i < j → p[j]? = some x → x.1 ≠ k) : (laid kept p)[k.toNat]? = some w.2 := by
  have e : p = p.take (i + 1) ++ p.drop (i + 1) := (List.take_append_drop _ _).symm
  rw [e, take_snoc hi, laid_append, laid_none6 hk, laid_snoc, hw, List.getElem?_set_self (by rw [laid_length]; exact hl)]
  intro x hx
  obtain ⟨j, hj⟩ := List.mem_iff_getElem?.1 hx
  rw [List.getElem?_drop] at hj
  exact ⟨hp x (List.mem_of_getElem? hj), hn _ x (by omega) hj⟩

theorem rdread_ok {H : Heap} {F : Nat → Prop} {pd : Nat} {D : Dev} {n B : Nat} (h : IsRDev H F pd D) (hw : D.Wf n B) (hB : B ≤ 1000000000) (k : Int) :
    Does Tryz.prog 36 [.pointer (some ⟨pd, 0, none⟩), .int .i64 k] H fun v H' => H = H' ∧
      ((¬ (0 ≤ k ∧ k < n) ∧ v = .tuple #[.slice none 0 0, .int .i64 1]) ∨ ((0 ≤ k ∧ k < n) ∧ D.dead = true ∧ v = .tuple #[.slice none 0 0, .int .i64 4]) ∨
        ((0 ≤ k ∧ k < n) ∧ D.dead = false ∧ ∃ a c xs, D.now[k.toNat]? = some xs ∧ v = .tuple #[.slice a xs.length c, .int .i64 0] ∧ xs.length ≤ c ∧ SRow H 1 xs.length (.slice a xs.length c) (bytesV xs) ∧ ∀ i, i ∈ blkOf a → F i)) := by
  refine Fn_of_vc Tryz.mixed (vc_rdread _ _ _ _) ?_
  have hl := hw.len
  have hpf := hw.pfew
  obtain ⟨ak, ck, ap, cp, h⟩ := h
  refine ⟨fun h1 => ⟨rfl, .inl ⟨by omega, rfl⟩⟩, fun h1 => ⟨_, _, rfl, ak, _, ck, h.head.cell 0, fun h2 => ⟨rfl, .inl ⟨by omega, rfl⟩⟩, fun h2 => ?_⟩⟩
  have hk : 0 ≤ k ∧ k < n := by omega
  refine ⟨_, _, rfl, D.dead, h.head.cell 3, fun h3 => ⟨rfl, .inr (.inl ⟨hk, h3, rfl⟩)⟩, fun h3 => ?_⟩
  refine ⟨_, _, rfl, ap, _, cp, h.head.cell 1, ⟨by omega, by omega⟩, ?_⟩
  refine ⟨fun i H' => H = H' ∧ ∃ j : Nat, i = (j : Int) - 1 ∧ j ≤ D.pend.length ∧ ∀ (i : Nat) x, j ≤ i → D.pend[i]? = some x → x.1 ≠ k, fun i _ => (i + 1).toNat, ⟨rfl, D.pend.length, rfl, Nat.le_refl _, fun i x hi hx => by
    have := (List.getElem?_eq_some_iff.1 hx).1; omega⟩, ?_⟩
  rintro _ _ ⟨rfl, j, rfl, hj, hno⟩
  have hgood : ∀ {a : Option Addr} {m c : Nat} {xs : Octs}, D.now[k.toNat]? = some xs → m ≤ c → SRow H 1 m (.slice a m c) (bytesV xs) → (∀ i, i ∈ blkOf a → F i) → (H = H ∧ ((¬ (0 ≤ k ∧ k < (n : Int)) ∧ Value.tuple #[.slice a m c, .int .i64 0] = .tuple #[.slice none 0 0, .int .i64 1]) ∨ ((0 ≤ k ∧ k < (n : Int)) ∧ D.dead = true ∧ Value.tuple #[.slice a m c, .int .i64 0] = .tuple #[.slice none 0 0, .int .i64 4]) ∨
        ((0 ≤ k ∧ k < (n : Int)) ∧ D.dead = false ∧ ∃ a' c' xs, D.now[k.toNat]? = some xs ∧ Value.tuple #[.slice a m c, .int .i64 0] = .tuple #[.slice a' xs.length c', .int .i64 0] ∧ xs.length ≤ c' ∧ SRow H 1 xs.length (.slice a' xs.length c') (bytesV xs) ∧ ∀ i, i ∈ blkOf a' → F i))) := by
    intro a m c xs h4 hle0 h5 h6
    have hm : xs.length = m := by have := h5.1; rw [bytesV_length] at this; omega
    subst hm
    exact ⟨rfl, .inr (.inr ⟨hk, h3, a, c, xs, h4, rfl, hle0, h5, h6⟩)⟩
  refine ⟨fun h4 => ?_, fun h4 => ?_⟩
  · have e1 : ((j : Int) - 1).toNat = j - 1 := by omega
    obtain ⟨w, hwj⟩ : ∃ w, D.pend[j - 1]? = some w := ⟨_, List.getElem?_eq_getElem (by omega)⟩
    obtain ⟨b11, o12, v, eb, hc, ⟨a14, l15, c16, rfl, hle14, hr, _⟩, hf⟩ := h.sp.get hwj
    refine ⟨_, _, rfl, ap, _, cp, h.head.cell 1, h4, by omega, b11, o12, eb, w.1, by rw [e1]; exact hc 0 _ rfl, fun h5 => ?_, fun h5 => ?_⟩
    · refine ⟨_, _, rfl, ap, _, cp, h.head.cell 1, h4, by omega, b11, o12, eb, a14, l15, c16, by rw [e1]; exact hc 1 _ rfl, ?_⟩
      refine hgood (laid_last hk.1 (by omega) (fun w hw' => (hw.pin w hw').1) hwj h5 (fun i x hi hx => hno i x (by omega) hx)) hle14 hr (fun i hi => (hf i hi).1)
    · refine ⟨⟨by omega, by omega⟩, ⟨rfl, j - 1, by omega, by omega, fun i x hi hx => ?_⟩, by dsimp only; omega⟩
      by_cases ei : i = j - 1
      · subst ei
        rw [hwj] at hx
        cases hx
        exact h5
      · exact hno i x (by omega) hx
  · have ej : j = 0 := by omega
    subst ej
    obtain ⟨xs, hxs⟩ : ∃ xs, D.kept[k.toNat]? = some xs := ⟨_, List.getElem?_eq_getElem (by omega)⟩
    obtain ⟨b, o, u, ea, hc, ⟨a, m, c, eu, hle, hr, _⟩, hf⟩ := h.sk.get1 rfl hxs
    cases eu
    refine ⟨_, _, rfl, ak, _, ck, h.head.cell 0, hk.1, by omega, b, o, ea, a, m, c, hc, ?_⟩
    refine hgood ?_ hle hr (fun i hi => (hf i hi).1)
    rw [← hxs]
    refine laid_none6 hk.1 _ _ (fun w hw' => ⟨(hw.pin w hw').1, ?_⟩)
    obtain ⟨i, hi⟩ := List.mem_iff_getElem?.1 hw'
    exact hno i w (Nat.zero_le _) hi

/-! ### A block of one byte -/



end Go.Proofs
end

section
open Go Go.Vc
namespace Go.Proofs

/-! ### The reference's writer -/
theorem wu1B_ok {G : Nat → Prop} {f n : Nat} {b : Nat} {xs : Octs} {x : Int} {H : Heap} (hf : (f = 84 ∧ n = 2) ∨ (f = 64 ∧ n = 4)) (hG : ∀ k, H.size ≤ k → G k) (hl : xs.length ≤ 1000000) (h : WB G H b xs) :
    Does Tryz.prog f [.pointer (some ⟨b, 0, none⟩), .int .i64 x] H fun v H' => v = .tuple #[] ∧ WB G H' b (xs ++ beU n (w64 x)) ∧ ExtP G H H' := by
  refine (wu1_ok (x := x) hf hG (by rw [toI_len]; exact hl) h).mono ?_
  rintro _ _ ⟨rfl, h1, h2⟩
  refine ⟨rfl, ?_, h2⟩
  unfold WB
  rw [toI_append, toI_beU]
  exact h1

theorem w1rawB_ok {G : Nat → Prop} {b : Nat} {xs ys : Octs} {a0 : Option Addr} {c0 : Nat} {H : Heap} (hG : ∀ k, H.size ≤ k → G k) (hl : xs.length ≤ 1000000) (hl' : ys.length ≤ 1000000) (h : WB G H b xs) (hy : SRow H 1 ys.length (.slice a0 ys.length c0) (bytesV ys)) :
    Does Tryz.prog 65 [.pointer (some ⟨b, 0, none⟩), .slice a0 ys.length c0] H fun v H' => v = .tuple #[] ∧ WB G H' b (xs ++ ys) ∧ ExtP G H H' := by
  refine Fn_of_vc Tryz.mixed (vc_w1raw _ _ _ _ _ _) ?_
  have hblt := h.lt
  obtain ⟨g0, a, c, hb, ho, hnb, hg⟩ := h
  rw [u8s_toI, toI_len] at *
  refine ⟨b, 0, rfl, a, _, c, by rw [hb.cell]; rfl, bytesV xs, bytesV ys, ho.row _ _, hy, bytesV_one _, by omega, fun hle => ho.room (n := ys.length) hle, fun a8 c9 H10 happ => ?_⟩
  obtain ⟨ho10, hx10, hfr10⟩ := happ.own ho (ho.row _ _) (by rw [bytesV_length]; omega) rfl
  have hb10 := hb.ext hx10 hnb
  refine ⟨b, 0, rfl, hb10.cells _ _ (by simp), fun H13 hp => ?_⟩
  have hb13 := hp.blk hb10 (by simp)
  have hs10 := hx10.size
  have hnb8 : b ∉ blkOf a8 := by
    intro hm
    rcases hfr10 b hm with h' | h'
    · exact hnb h'
    · omega
  have ho13 := ho10.ext hp.ext (fun k hk hm => by simp only [List.mem_singleton] at hm; subst hm; exact hnb8 hk)
  refine ⟨rfl, ⟨g0, a8, c9, ?_, ?_, hnb8, fun k hk => ?_⟩, (hx10.lift (fun k _ hk => hg k hk)).trans (hp.ext.lift (fun k _ hk => by simp only [List.mem_singleton] at hk; subst hk; exact g0))⟩
  · rw [toI_len, List.length_append]; simpa [splice] using hb13
  · rw [toI_len, u8s_toI, bytesV_append, List.length_append]; exact ho13
  · rcases hfr10 k hk with h' | h'
    · exact hg k h'
    · exact hG k (by omega)

/-- What a writer holds, as a slice. -/
theorem WB.told {n0 : Nat} {G : Nat → Prop} {H : Heap} {b : Nat} {xs : Octs} (h : WB G H b xs) (hG : ∀ k, G k → n0 ≤ k) : ∃ a c, hcell H b 0 = some (.slice a xs.length c) ∧ Own H 1 a xs.length c (bytesV xs) ∧ ∀ k ∈ blkOf a, n0 ≤ k := by
  obtain ⟨g0, a, c, hb, ho, hnb, hg⟩ := h
  rw [u8s_toI, toI_len] at *
  exact ⟨a, c, hb.cell 0, ho, fun k hk => hG k (hg k hk)⟩

/-- A new writer. -/
theorem WB.fresh {H H' : Heap} {b : Nat} {e : TypeId} (h : New H b [.slice none 0 0] e H') : WB (fun k => H.size ≤ k) H' b [] := by
  have := h.eq
  refine ⟨by show H.size ≤ b; omega, none, 0, h.blk, Own.nil _ _, by simp [blkOf], by simp [blkOf]⟩

theorem zeros_row {H H' : Heap} {b n : Nat} {e : TypeId} (h : New H b (List.replicate n (.int .u8 0)) e H') : SRow H' 1 (List.replicate n (0 : UInt8)).length (.slice (some ⟨b, 0, none⟩) (List.replicate n (0 : UInt8)).length n) (bytesV (List.replicate n 0)) := by
  have hb := h.blk
  rw [bytesV_zeros, List.length_replicate]
  exact ⟨by simp, .inr rfl, fun j u hj => by rw [Nat.zero_add, hb.cell]; exact hj⟩

theorem rheader_ok (e s z : Int) (H : Heap) : Does Tryz.prog 34 [.int .i64 e, .int .i64 s, .int .i64 z] H fun v H' => ToldB H H' v (hdrB ⟨e, s, z⟩) ∧ Ext [] H H' := by
  refine Fn_of_vc Tryz.mixed (vc_rheader _ _ _ _ _) ?_
  intro b1 H2 hn2
  have e1 := hn2.eq
  have hs2 := hn2.size
  have far : ∀ {A B : Heap}, ExtP (fun k => H.size ≤ k) A B → Ext [] H A → Ext [] H B := fun he hx => hx.transP he (fun i hi => hi)
  have hG : ∀ {A : Heap}, Ext [] H A → ∀ k, A.size ≤ k → H.size ≤ k := fun hx k hk => by have := hx.size; omega
  refine (wu1B_ok (n := 4) (x := 1885695604) (.inr ⟨rfl, rfl⟩) (hG hn2.ext) (by simp) (WB.fresh hn2)).mono ?_
  rintro _ H4 ⟨rfl, hw4, hx4⟩
  have hX4 := far hx4 hn2.ext
  refine ⟨rfl, (wu1B_ok (n := 4) (x := e) (.inr ⟨rfl, rfl⟩) (hG hX4) (by simp [beU_len]) hw4).mono ?_⟩
  rintro _ H6 ⟨rfl, hw6, hx6⟩
  have hX6 := far hx6 hX4
  refine ⟨rfl, (wu1B_ok (n := 4) (x := s) (.inr ⟨rfl, rfl⟩) (hG hX6) (by simp [beU_len]) hw6).mono ?_⟩
  rintro _ H8 ⟨rfl, hw8, hx8⟩
  have hX8 := far hx8 hX6
  refine ⟨rfl, (wu1B_ok (n := 4) (x := z) (.inr ⟨rfl, rfl⟩) (hG hX8) (by simp [beU_len]) hw8).mono ?_⟩
  rintro _ H10 ⟨rfl, hw10, hx10⟩
  have hX10 := far hx10 hX8
  refine ⟨rfl, by decide, by decide, by decide, fun b11 H12 hn12 => ?_⟩
  rw [show Int.toNat 112 = 112 from rfl] at *
  have hz := zeros_row hn12
  have hw12 := WIs.ext hw10 hn12.ext
  have hX12 := hX10.trans hn12.ext
  rw [List.length_replicate] at hz
  have := w1rawB_ok (ys := List.replicate 112 0) (c0 := 112) (hG hX12) (by simp [beU_len]) (by simp) hw12 (by rw [List.length_replicate]; exact hz)
  rw [List.length_replicate] at this
  refine this.mono ?_
  rintro _ H14 ⟨rfl, hw14, hx14⟩
  have hX14 := far hx14 hX12
  obtain ⟨a, c, hc, ho, hf⟩ := hw14.told (n0 := H.size) (fun k hk => hk)
  have hb : [] ++ beU 4 (w64 1885695604) ++ beU 4 (w64 e) ++ beU 4 (w64 s) ++ beU 4 (w64 z) ++ List.replicate 112 0 = hdrB ⟨e, s, z⟩ := by
    unfold hdrB padL
    rw [List.nil_append]
    have : (beU 4 (w64 1885695604) ++ beU 4 (w64 e) ++ beU 4 (w64 s) ++ beU 4 (w64 z)).length = 16 := by simp [beU_len]
    simp only [this]
  rw [hb] at hc ho
  exact ⟨rfl, b1, 0, rfl, a, _, c, hc, ⟨a, c, rfl, ho, hf⟩, hX14⟩

theorem rstream_ok {l : List Wr} {a : Option Addr} {c : Nat} {H : Heap} (hl : l.length ≤ 5000) (hf : Full l) (h : SeqV writeE H a l) :
    Does Tryz.prog 83 [.slice a l.length c] H fun v H' => ToldB H H' v (streamB l) ∧ Ext [] H H' := by
  refine Fn_of_vc Tryz.mixed (vc_rstream _ _ _ _ _) ?_
  intro b1 H2 hn2
  have e1 := hn2.eq
  have far : ∀ {A B : Heap}, ExtP (fun k => H.size ≤ k) A B → Ext [] H A → Ext [] H B := fun he hx => hx.transP he (fun i hi => hi)
  have hG : ∀ {A : Heap}, Ext [] H A → ∀ k, A.size ≤ k → H.size ≤ k := fun hx k hk => by have := hx.size; omega
  refine (wu1B_ok (n := 2) (x := l.length) (.inl ⟨rfl, rfl⟩) (hG hn2.ext) (by simp) (WB.fresh hn2)).mono ?_
  rintro _ H4 ⟨rfl, hw4, hx4⟩
  have hX4 := far hx4 hn2.ext
  refine ⟨rfl, fun i H' => ∃ j : Nat, i = j ∧ j ≤ l.length ∧ Ext [] H H' ∧ WB (fun k => H.size ≤ k) H' b1 (beU 2 (w64 l.length) ++ ((l.take j).map wrB).flatten), fun i _ => l.length - i.toNat, ⟨0, rfl, by omega, hX4, by simpa using hw4⟩, ?_⟩
  rintro _ H8 ⟨j, rfl, hj, hx8, hw8⟩
  refine ⟨fun hlt => ?_, fun hge => ?_⟩
  · have hi : l[j]? = some (l[j]'(by omega)) := List.getElem?_eq_getElem (by omega)
    have htk : l.take (j + 1) = l.take j ++ [l[j]'(by omega)] := by rw [List.take_add_one, hi]; rfl
    have hw128 := hf _ (List.getElem_mem (by omega : j < l.length))
    have hlen : (beU 2 (w64 l.length) ++ ((l.take j).map wrB).flatten).length ≤ 700000 := by
      rw [List.length_append, beU_len, wrs_len (hf.take j), List.length_take]; omega
    obtain ⟨b9, o10, a16, c18, ea, q0, q1, q2, _⟩ := (h.ext hx8).wr hi
    generalize l[j]'(by omega) = w at *
    refine ⟨by omega, hlt, b9, o10, ea, w.1, by rw [Int.toNat_natCast]; exact q0, (wu1B_ok (n := 4) (x := w.1) (.inr ⟨rfl, rfl⟩) (hG hx8) (by omega) hw8).mono ?_⟩
    rintro _ H13 ⟨rfl, hw13, hx13⟩
    have hX13 := far hx13 hx8
    obtain ⟨b9', o10', a16', c18', ea', q0', q1', q2', _⟩ := (h.ext hX13).wr hi
    refine ⟨rfl, by omega, hlt, b9', o10', ea', a16', _, c18', by rw [Int.toNat_natCast]; exact q1', (w1rawB_ok (hG hX13) (by rw [List.length_append, beU_len]; omega) (by omega) hw13 q2').mono ?_⟩
    rintro _ H20 ⟨rfl, hw20, hx20⟩
    refine ⟨rfl, ⟨by omega, by omega⟩, ⟨j + 1, by omega, by omega, far hx20 hX13, ?_⟩, by simp only []; omega⟩
    rw [htk, List.map_append, List.flatten_append]
    simpa [wrB, List.append_assoc] using hw20
  · have : j = l.length := by omega
    subst this
    rw [List.take_length] at hw8
    obtain ⟨a, c, hc, ho, hfr⟩ := hw8.told (n0 := H.size) (fun k hk => hk)
    exact ⟨b1, 0, rfl, a, _, c, hc, ⟨a, c, rfl, ho, hfr⟩, hx8⟩

theorem rneeds_ok (n : Int) (H : Heap) (hn : n ≤ 1000000000000) : Does Tryz.prog 55 [.int .i64 n] H fun v H' => v = .int .i64 (needsN n) ∧ H = H' := by
  refine Fn_of_vc Tryz.mixed (vc_rneeds _ _ _) ?_
  unfold needsN
  refine ⟨fun h1 => ⟨by rw [if_pos h1], rfl⟩, fun h1 => ⟨⟨by omega, by omega⟩, ⟨by omega, by omega⟩, ⟨by omega, by omega⟩, ⟨by omega, by omega⟩, by decide, ?_⟩⟩
  rintro q rfl
  refine ⟨?_, rfl⟩
  rw [if_neg h1, wrap_tdiv (by omega) (by decide) (by omega)]
  congr 1
  omega

theorem piece_pad {l : List Wr} (k : Nat) (hk : k < cntN l) (hf : Full l) : ((bodyB l).drop (k * 116)).take 116 = ((streamB l).drop (k * 116)).take (min ((streamB l).drop (k * 116)).length 116) ++ List.replicate (116 - min ((streamB l).drop (k * 116)).length 116) 0 := by
  have hlen := piece_len hf hk
  have h0 : 0 < l.length := by
    rcases Nat.eq_zero_or_pos l.length with h | h
    · rw [cnt_zero' h] at hk; omega
    · exact h
  have hc := cnt_len h0
  have hs := streamB_len hf
  unfold bodyB padL
  generalize hS : streamB l = S at *
  have hk1 : (k + 1) * 116 ≤ cntN l * 116 := Nat.mul_le_mul_right _ hk
  rw [List.drop_append, List.take_append, List.length_drop, List.drop_replicate, List.take_replicate]
  congr 1
  · by_cases h : S.length - k * 116 ≤ 116
    · rw [Nat.min_eq_left h, List.take_of_length_le (by rw [List.length_drop]; omega), List.take_of_length_le (by rw [List.length_drop]; omega)]
    · rw [Nat.min_eq_right (by omega)]
  · congr 1
    omega

set_option maxHeartbeats 1000000 in
theorem rblocks_ok (e s z : Int) {l : List Wr} {a : Option Addr} {c : Nat} {H : Heap} (hl : l.length ≤ 5000) (hf : Full l) (hs : SeqV writeE H a l) :
    Does Tryz.prog 57 [.int .i64 e, .int .i64 s, .slice a l.length c] H fun v H' => ∃ a' c', v = .slice a' (cntN l) c' ∧ MySeq bytesC H.size H' a' (cntN l) c' (laidB ⟨e, s, z⟩ l) ∧ Ext [] H H' := by
  refine Fn_of_vc Tryz.mixed (vc_rblocks _ _ _ _ _ _ _) ?_
  refine (rstream_ok hl hf hs).mono ?_
  rintro _ H2 ⟨⟨a3, c5, rfl, ho2, hf2⟩, hx2⟩
  have hstr := streamB_len hf
  refine ⟨_, _, _, rfl, (rneeds_ok l.length H2 (by omega)).mono ?_⟩
  rintro _ _ ⟨rfl, rfl⟩
  have hcn : cntN l ≤ 10000 := by
    rcases Nat.eq_zero_or_pos l.length with h0 | h0
    · rw [cnt_zero' h0]; omega
    · have := cnt_len h0; omega
  rw [needs_nat]
  have hlt2 : ∀ k ∈ blkOf a3, k < H2.size := ho2.lt
  have hcap : (streamB l).length ≤ c5 := ho2.2.1
  refine ⟨_, rfl, fun a11 l12 c13 a14 l15 c16 i H' => ∃ k : Nat, i = k ∧ k ≤ cntN l ∧ k = l15 ∧ l12 = ((streamB l).drop (k * 116)).length ∧ l12 ≤ c13 ∧ SRow H' 1 l12 (.slice a11 l12 c13) (bytesV ((streamB l).drop (k * 116))) ∧ (∀ j ∈ blkOf a11, j < H2.size) ∧ MySeq bytesC H2.size H' a14 k c16 ((laidB ⟨e, s, z⟩ l).take k) ∧ Ext [] H2 H', fun _ _ _ _ _ _ i _ => cntN l - i.toNat,
    ⟨0, rfl, by omega, rfl, by simp, hcap, by simpa using ho2.row _ _, hlt2, by simpa using MySeq.nil _ _ _, Ext.refl _ _⟩, ?_⟩
  rintro a11 _ c13 a14 _ c16 _ H18 ⟨k, rfl, hk, rfl, rfl, hcap18, hrow18, hlt18, hmy18, hx18⟩
  refine ⟨fun h1 => ?_, fun h1 => ?_⟩
  · have hk' : k < cntN l := by omega
    have hpad := piece_pad k hk' hf
    generalize hR : (streamB l).drop (k * 116) = rest at *
    have hm : Int.toNat (min (rest.length : Int) 116) = min rest.length 116 := by omega
    have hm2 : Int.toNat (116 - min (rest.length : Int) 116) = 116 - min rest.length 116 := by omega
    intro b19 H20 hn20
    have e19 := hn20.eq
    have hs20 := hn20.size
    have far : ∀ {A B : Heap}, ExtP (fun k => H18.size ≤ k) A B → Ext [] H18 A → Ext [] H18 B := fun he hx => hx.transP he (fun i hi => hi)
    have hG : ∀ {A : Heap}, Ext [] H18 A → ∀ k, A.size ≤ k → H18.size ≤ k := fun hx k hk => by have := hx.size; omega
    refine (wu1B_ok (n := 4) (x := e) (.inr ⟨rfl, rfl⟩) (hG hn20.ext) (by simp) (WB.fresh hn20)).mono ?_
    rintro _ H22 ⟨rfl, hw22, hx22⟩
    have hX22 := far hx22 hn20.ext
    refine ⟨rfl, (wu1B_ok (n := 4) (x := s) (.inr ⟨rfl, rfl⟩) (hG hX22) (by simp [beU_len]) hw22).mono ?_⟩
    rintro _ H24 ⟨rfl, hw24, hx24⟩
    have hX24 := far hx24 hX22
    refine ⟨rfl, (wu1B_ok (n := 2) (x := k) (.inl ⟨rfl, rfl⟩) (hG hX24) (by simp [beU_len]) hw24).mono ?_⟩
    rintro _ H26 ⟨rfl, hw26, hx26⟩
    have hX26 := far hx26 hX24
    refine ⟨rfl, (wu1B_ok (n := 2) (x := cntN l) (.inl ⟨rfl, rfl⟩) (hG hX26) (by simp [beU_len]) hw26).mono ?_⟩
    rintro _ H28 ⟨rfl, hw28, hx28⟩
    have hX28 := far hx28 hX26
    have hrow28 := (hrow18.ext hX28 (by simp))
    rw [hm, hm2]
    have hlm : (rest.take (min rest.length 116)).length = min rest.length 116 := by rw [List.length_take]; omega
    have hrow28' : SRow H28 1 (rest.take (min rest.length 116)).length (.slice a11 (rest.take (min rest.length 116)).length c13) (bytesV (rest.take (min rest.length 116))) := by
      rw [hlm]
      have := SRow.take1 (l' := min rest.length 116) (c' := c13) hrow28 (k := min rest.length 116) (by omega)
      unfold bytesV at this ⊢
      rw [List.map_take]
      exact this
    have hraw := w1rawB_ok (hG hX28) (by simp [beU_len]) (by rw [hlm]; omega) hw28 hrow28'
    rw [hlm] at hraw
    refine ⟨rfl, by omega, by omega, hraw.mono ?_⟩
    rintro _ H30 ⟨rfl, hw30, hx30⟩
    have hX30 := far hx30 hX28
    refine ⟨rfl, ⟨by omega, by omega⟩, by omega, by omega, by omega, fun b31 H32 hn32 => ?_⟩
    have hz := zeros_row hn32
    rw [List.length_replicate] at hz
    have hw32 := WIs.ext hw30 hn32.ext
    have hX32 := hX30.trans hn32.ext
    have hraw2 := w1rawB_ok (ys := List.replicate (116 - min rest.length 116) 0) (c0 := 116 - min rest.length 116) (hG hX32) (by simp [beU_len, hlm]; omega) (by simp; omega) hw32 (by rw [List.length_replicate]; exact hz)
    rw [List.length_replicate] at hraw2
    refine hraw2.mono ?_
    rintro _ H34 ⟨rfl, hw34, hx34⟩
    have hX34 := far hx34 hX32
    refine ⟨rfl, by omega, by omega, ?_⟩
    rintro a35 rfl
    obtain ⟨a38, c40, hc38, ho38, hf38⟩ := hw34.told (n0 := H18.size) (fun k hk => hk)
    have hblk : [] ++ beU 4 (w64 e) ++ beU 4 (w64 s) ++ beU 2 (w64 (k : Int)) ++ beU 2 (w64 (cntN l)) ++ rest.take (min rest.length 116) ++ List.replicate (116 - min rest.length 116) 0 = jblk ⟨e, s, z⟩ l k := by
      unfold jblk
      rw [hpad, List.nil_append, List.append_assoc (_ ++ beU 2 (w64 (cntN l)))]
    rw [hblk] at hc38 ho38
    have hjl : (jblk ⟨e, s, z⟩ l k).length = 128 := jblk_len hf hk'
    have hmy34 := hmy18.ext hX34
    obtain ⟨G', gs, gg, gl⟩ := hmy18
    have hltm := gs.lt
    have hs18 := hx18.size
    refine ⟨b19, 0, rfl, a38, _, c40, hc38, fun b41 H42 hn42 => ?_⟩
    have hi : (laidB ⟨e, s, z⟩ l)[k]? = some (jblk ⟨e, s, z⟩ l k) := by unfold laidB; rw [List.getElem?_map, List.getElem?_range hk']; rfl
    have hs34 := hX34.size
    refine hmy34.push (x := jblk ⟨e, s, z⟩ l k) ⟨a38, _, c40, rfl, ho38.2.1, ho38.row _ _, ho38.lt⟩ (fun i hi => ?_) (by omega) rfl (by omega) (fun a45 c46 H47 p1 _ p2 => ?_) b41 H42 hn42
    · have := hf38 i (by simpa [bytesC] using hi)
      exact ⟨by omega, fun hm => by have := hltm _ hm; omega⟩
    · have hx47 : Ext [] H2 H47 := ext_new (hx18.trans hX34) p2 (fun i hi => gl i hi)
      have hrow34 := hrow18.ext hX34 (by simp)
      have hdr : (streamB l).drop ((k + 1) * 116) = rest.drop (min rest.length 116) := by
        rw [← hR, List.drop_drop, Nat.add_mul, Nat.one_mul]
        by_cases h : ((streamB l).drop (k * 116)).length ≤ 116
        · rw [Nat.min_eq_left h]
          rw [List.length_drop] at h
          rw [List.drop_of_length_le (by omega), List.drop_of_length_le (by rw [List.length_drop]; omega)]
        · rw [Nat.min_eq_right (by omega)]
      refine ⟨⟨by omega, by omega⟩, ⟨k + 1, by omega, by omega, rfl, by rw [hdr, List.length_drop], by omega, ?_, fun i hi => ?_, ?_, hx47⟩, by simp only []; omega⟩
      · rw [hdr]
        have := SRow.drop1 (l' := rest.length - min rest.length 116) (c' := c13 - min rest.length 116) (hrow34.extP p2.toP (fun i hi hi' => by have := hlt18 i hi; have := gl i hi'; omega)) (k := min rest.length 116) (by omega) hcap18
        unfold bytesV at this ⊢
        rw [List.map_drop]
        exact this
      · have : i ∈ blkOf a11 := by
          split at hi
          · exact hi
          · cases a11 with
            | none => simpa using hi
            | some ad => obtain ⟨bb, oo, ss⟩ := ad; simp only [Option.map_some, Addr.add] at hi; split at hi <;> simpa [blkOf] using hi
        exact hlt18 i this
      · rw [List.take_add_one, hi]
        exact p1
  · have : k = cntN l := by omega
    subst this
    have hll := laidB_len ⟨e, s, z⟩ l
    rw [List.take_of_length_le (by omega)] at hmy18
    exact ⟨a14, c16, rfl, hmy18.low hx2.size, hx2.trans hx18⟩
end Go.Proofs
end

section
open Go Go.Vc
namespace Go.Proofs

/-! ### The reference's reader, over bytes that it does not own -/
def RV (G : Nat → Prop) (H : Heap) (b : Nat) (s : Octs × Bool) : Prop :=
  ∃ a c, Blk H b [.slice a s.1.length c, .bool s.2] ∧ s.1.length ≤ c ∧ SRow H 1 s.1.length (.slice a s.1.length c) (bytesV s.1) ∧ b ∉ blkOf a ∧ ∀ k ∈ blkOf a, G k
theorem RV.lt {G : Nat → Prop} {H : Heap} {b : Nat} {s : Octs × Bool} (h : RV G H b s) : b < H.size := by obtain ⟨a, c, hb, _⟩ := h; exact hb.lt
theorem RV.extP {G M : Nat → Prop} {H H' : Heap} {b : Nat} {s : Octs × Bool} (h : RV G H b s) (he : ExtP M H H') (hb : ¬ M b) (hm : ∀ k, G k → ¬ M k) : RV G H' b s := by
  obtain ⟨a, c, h1, h2, h3, h4, h5⟩ := h
  exact ⟨a, c, h1.extP he hb, h2, h3.extP he (fun k hk => hm k (h5 k hk)), h4, h5⟩
theorem RV.ext {G : Nat → Prop} {H H' : Heap} {b : Nat} {s : Octs × Bool} (h : RV G H b s) (he : Ext [] H H') : RV G H' b s := h.extP he.toP (by simp) (by simp)
theorem RV.mono {G G' : Nat → Prop} {H : Heap} {b : Nat} {s : Octs × Bool} (h : RV G H b s) (hg : ∀ k, G k → G' k) : RV G' H b s := by
  obtain ⟨a, c, h1, h2, h3, h4, h5⟩ := h
  exact ⟨a, c, h1, h2, h3, h4, fun k hk => hg k (h5 k hk)⟩
theorem RV.fresh {G : Nat → Prop} {H H' : Heap} {b c : Nat} {a : Option Addr} {xs : Octs} {e : TypeId} (hn : New H b [.slice a xs.length c, .bool false] e H') (hc : xs.length ≤ c) (hr : SRow H 1 xs.length (.slice a xs.length c) (bytesV xs)) (hl : ∀ k ∈ blkOf a, k < H.size ∧ G k) : RV G H' b (xs, false) :=
  ⟨a, c, hn.blk, hc, hr.ext hn.ext (by simp), fun hm => by have := (hl b hm).1; have := hn.eq; omega, fun k hk => (hl k hk).2⟩

theorem raw1V_ok {G : Nat → Prop} {b : Nat} {s : Octs × Bool} {n : Nat} {H : Heap} (hn : n ≤ 1000000) (h : RV G H b s) :
    Does Tryz.prog 68 [.pointer (some ⟨b, 0, none⟩), .int .i64 n] H fun v H' => ∃ a c, v = .slice a (rdU s n).1.length c ∧ (rdU s n).1.length ≤ c ∧ SRow H' 1 (rdU s n).1.length (.slice a (rdU s n).1.length c) (bytesV (rdU s n).1) ∧ (∀ k ∈ blkOf a, H.size ≤ k ∧ k < H'.size) ∧ RV G H' b (rdU s n).2 ∧ Ext [b] H H' := by
  refine Fn_of_vc Tryz.mixed (vc_raw1 _ _ _ _) ?_
  obtain ⟨bs, lk⟩ := s
  obtain ⟨a, c, hb, hcap, ho, hnb, hg⟩ := h
  simp only at hb ho hcap
  have bad : ∀ {H6 H9 : Heap}, Puts H b (0 + 1) [.bool true] H6 → Puts H6 b 0 [.slice none 0 0] H9 → rdU (bs, lk) n = ([], ([], true)) →
      ∃ a c, Value.slice none 0 0 = .slice a (rdU (bs, lk) n).1.length c ∧ (rdU (bs, lk) n).1.length ≤ c ∧ SRow H9 1 (rdU (bs, lk) n).1.length (.slice a (rdU (bs, lk) n).1.length c) (bytesV (rdU (bs, lk) n).1) ∧ (∀ k ∈ blkOf a, H.size ≤ k ∧ k < H9.size) ∧ RV G H9 b (rdU (bs, lk) n).2 ∧ Ext [b] H H9 := by
    intro H6 H9 h6 h9 e
    have hb6 := h6.blk hb (by simp)
    have hb9 := h9.blk hb6 (by simp [splice])
    rw [e]
    exact ⟨none, 0, rfl, Nat.le_refl _, ⟨rfl, rfl⟩, by simp [blkOf], ⟨none, 0, by simpa [splice] using hb9, Nat.le_refl _, ⟨rfl, rfl⟩, by simp [blkOf], by simp [blkOf]⟩, h6.ext.trans h9.ext⟩
  have cl : Cells H b (0 + 1) 1 := hb.cells _ _ (by simp)
  have cl2 : ∀ {H6 : Heap}, Puts H b (0 + 1) [.bool true] H6 → Cells H6 b 0 1 := fun h6 => (h6.blk hb (by simp)).cells _ _ (by simp [splice])
  refine ⟨b, 0, rfl, lk, by rw [hb.cell]; rfl, fun e => ⟨b, 0, rfl, cl, fun H6 h6 => ⟨b, 0, rfl, cl2 h6, fun H9 h9 => bad h6 h9 ?_⟩⟩, fun e => ⟨fun e0 => absurd e0 (by omega), fun _ => ⟨b, 0, rfl, a, _, c, by rw [hb.cell]; rfl, fun e1 => ⟨b, 0, rfl, cl, fun H6 h6 => ⟨b, 0, rfl, cl2 h6, fun H9 h9 => bad h6 h9 ?_⟩⟩, fun e1 b27 H28 hn28 => ?_⟩⟩⟩
  · unfold rdU; rw [if_neg (by simp [e])]
  · unfold rdU; rw [if_neg (by simp only []; omega)]
  subst e
  have e2 : rdU (bs, false) n = (bs.take n, (bs.drop n, false)) := by unfold rdU; rw [if_pos ⟨rfl, by simp only []; omega⟩]
  rw [e2]
  have hle : n ≤ bs.length := by omega
  have hb28 := hb.ext hn28.ext (by simp)
  have ho28 := ho.ext hn28.ext (by simp)
  have hoe : Own H28 1 (some ⟨b27, 0, none⟩) 0 0 ([] : List Value) := Own.of_new (size := 1) (len := 0) (cap := 0) hn28.blk rfl (Nat.le_refl _) (by decide)
  have hlen : (bs.take n).length = n := by rw [List.length_take]; omega
  have htk : (bytesV bs).take n = bytesV (bs.take n) := by unfold bytesV; rw [List.map_take]
  refine ⟨b, 0, rfl, a, _, c, by rw [hb28.cell]; rfl, by omega, by omega, [], bytesV (bs.take n), hoe.row _ _, ?_, bytesV_one _, by simp; omega, fun hle => hoe.room (n := (n : Int).toNat) hle, ?_⟩
  · rw [Int.toNat_natCast, ← htk]
    exact SRow.take1 ho28 hle
  intro a36 c37 H38 happ
  rw [Int.toNat_natCast] at happ
  obtain ⟨g1, g2, g3⟩ := happ.own hoe (hoe.row 0 0) (by rw [bytesV_length, hlen, Nat.mul_one]) rfl
  rw [Nat.zero_add, List.nil_append] at g1
  have e27 := hn28.eq
  have s28 := hn28.size
  have hx38 : Ext [] H H38 := ext_new hn28.ext g2 (fun i hi => by simp only [blkOf, List.mem_singleton] at hi; omega)
  have hf36 : ∀ k ∈ blkOf a36, H.size ≤ k := fun k hk => by
    rcases g3 k hk with h' | h'
    · simp only [blkOf, List.mem_singleton] at h'; omega
    · omega
  have hb38 := hb.ext hx38 (by simp)
  have ho38 := ho.ext hx38 (by simp)
  refine ⟨b, 0, rfl, a, _, c, by rw [hb38.cell]; rfl, by omega, by omega, ?_⟩
  rintro _ rfl
  refine ⟨b, 0, rfl, hb38.cells _ _ (by simp), fun H47 hp47 => ?_⟩
  have hb47 := hp47.blk hb38 (by simp)
  rw [Int.toNat_natCast, Nat.zero_add] at *
  have hd := SRow.drop1 (l' := bs.length - n) (c' := c - n) ho38 hle hcap
  have hblt := hb.lt
  have hblk : ∀ k ∈ blkOf (if c = n then a else Option.map (fun x => Addr.add x (n * 1)) a), k ∈ blkOf a := by
    intro k hk
    split at hk
    · exact hk
    · cases a with
      | none => exact hk
      | some ad =>
        obtain ⟨bb, oo, ss⟩ := ad
        simp only [Option.map_some, Addr.add] at hk
        split at hk <;> simpa [blkOf] using hk
  refine ⟨a36, c37, by rw [hlen], by rw [hlen]; exact g1.2.1, ?_, fun k hk => ⟨hf36 k hk, by rw [hp47.size]; exact g1.lt k hk⟩, ⟨_, _, by simpa [splice] using hb47, by simp; omega, ?_, fun hm => hnb (hblk _ hm), fun k hk => hg k (hblk k hk)⟩, hx38.any.trans hp47.ext⟩
  · rw [hlen]
    refine (g1.row n c37).ext hp47.ext (fun k hk hm => ?_)
    simp only [List.mem_singleton] at hm; subst hm
    have := hf36 _ hk
    omega
  · have hdb : (bytesV bs).drop n = bytesV (bs.drop n) := by unfold bytesV; rw [List.map_drop]
    rw [hdb] at hd
    simp only [List.length_drop]
    refine hd.ext hp47.ext (fun k hk hm => ?_)
    simp only [List.mem_singleton] at hm; subst hm
    exact hnb (hblk _ hk)

theorem get1V_ok {G : Nat → Prop} {b : Nat} {s : Octs × Bool} {n : Nat} {H : Heap} (hn : n ≤ 7) (h : RV G H b s) :
    Does Tryz.prog 66 [.pointer (some ⟨b, 0, none⟩), .int .i64 n] H fun v H' => v = .int .u64 (numU s n) ∧ RV G H' b (rdU s n).2 ∧ Ext [b] H H' := by
  have hB : Byt (toI (rdU s n).1) := toI_byt _
  have hl := rdU_len s n
  refine Fn_of_vc Tryz.mixed (vc_get1 _ _ _ _) ?_
  refine (raw1V_ok (by omega) h).mono ?_
  rintro _ H2 ⟨a, c, rfl, hcap, hrow, hfr, hr, hx⟩
  rw [← u8s_toI] at hrow
  unfold numU
  have hlt' := toI_len (rdU s n).1
  rw [← hlt'] at hrow hl ⊢
  generalize toI (rdU s n).1 = t at *
  refine ⟨_, _, _, rfl, fun v i H' => H2 = H' ∧ ∃ j : Nat, i = j ∧ j ≤ t.length ∧ v = be (t.take j), fun _ i _ => t.length - i.toNat, ⟨rfl, 0, rfl, by omega, rfl⟩, ?_⟩
  rintro _ _ _ ⟨rfl, j, rfl, hj, rfl⟩
  refine ⟨fun hlt => ?_, fun hge => ?_⟩
  · have hi : t[j]? = some (t[j]'(by omega)) := List.getElem?_eq_getElem (by omega)
    have htk : t.take (j + 1) = t.take j ++ [t[j]'(by omega)] := by rw [List.take_add_one, hi]; rfl
    obtain ⟨z0, z1⟩ := hB _ (List.getElem_mem (by omega : j < t.length))
    obtain ⟨b11, o12, e, hc⟩ := SRow.at hrow (u8s_at hi)
    generalize t[j]'(by omega) = z at *
    obtain ⟨v0, v1⟩ := be_lt (hB.take j)
    have hv : be (t.take j) < 256 ^ 6 := by
      refine Int.lt_of_lt_of_le v1 ?_
      rw [List.length_take, Nat.min_eq_left hj]
      exact pow256 (by omega)
    refine ⟨by decide, ?_⟩
    rintro _ rfl
    refine ⟨by omega, by omega, b11, o12, e, z, by rw [Int.toNat_natCast]; exact hc, ?_⟩
    rintro _ rfl _ rfl
    have e8 : min (Int.toNat 8) (IntKind.bits .u64) = 8 := by decide
    have e6 : (256 : Int) ^ 6 = 281474976710656 := by decide
    rw [e6] at hv
    have eq : IntKind.wrap .u64 (IntKind.wrap .u64 (be (t.take j) * 2 ^ (min (Int.toNat 8) (IntKind.bits .u64))) + IntKind.wrap .u64 z) = be (t.take (j + 1)) := by
      rw [e8, htk, be_snoc, wrap_u64, wrap_u64, wrap_u64, show (2 : Int) ^ 8 = 256 by decide]
      omega
    exact ⟨⟨by omega, by omega⟩, ⟨rfl, j + 1, by omega, by omega, eq⟩, by simp only []; omega⟩
  · have : j = t.length := by omega
    subst this
    exact ⟨by rw [List.take_length], hr, hx⟩

theorem ru1V_ok {G : Nat → Prop} {f n : Nat} {b : Nat} {s : Octs × Bool} {H : Heap} (hf : (f = 67 ∧ n = 2) ∨ (f = 37 ∧ n = 4)) (h : RV G H b s) :
    Does Tryz.prog f [.pointer (some ⟨b, 0, none⟩)] H fun v H' => v = .int .i64 (numU s n) ∧ RV G H' b (rdU s n).2 ∧ Ext [b] H H' := by
  have w2 : IntKind.wrap .i64 (numU s 2) = numU s 2 := by have := numU_lt2 s; exact wrap_of_in64 ⟨by omega, by omega⟩
  have w4 : IntKind.wrap .i64 (numU s 4) = numU s 4 := by have := numU_lt4 s; exact wrap_of_in64 ⟨by omega, by omega⟩
  rcases hf with ⟨rfl, rfl⟩ | ⟨rfl, rfl⟩
  · refine Fn_of_vc Tryz.mixed (vc_r1u16 _ _ _) ?_
    refine (get1V_ok (n := 2) (by omega) h).mono ?_
    rintro _ _ ⟨rfl, h1, h2⟩
    refine ⟨_, rfl, ?_⟩
    rintro _ rfl
    exact ⟨congrArg _ w2, h1, h2⟩
  · refine Fn_of_vc Tryz.mixed (vc_r1u32 _ _ _) ?_
    refine (get1V_ok (n := 4) (by omega) h).mono ?_
    rintro _ _ ⟨rfl, h1, h2⟩
    refine ⟨_, rfl, ?_⟩
    rintro _ rfl
    exact ⟨congrArg _ w4, h1, h2⟩
end Go.Proofs
end

section
open Go Go.Vc
namespace Go.Proofs

/-! ### put: a write laid among others, by number -/
def putM : List Wr → Wr → List Wr
  | [], w => [w]
  | x :: r, w => if x.1 < w.1 then x :: putM r w else if x.1 = w.1 then w :: r else w :: x :: r
theorem putM_len (w : Wr) : ∀ l : List Wr, (putM l w).length ≤ l.length + 1
  | [] => by simp [putM]
  | x :: r => by
    rw [putM]
    split
    · have := putM_len w r; simp; omega
    · split <;> simp
/-- How put goes about it. -/
theorem putM_cut (w : Wr) : ∀ (l : List Wr) (k : Nat), k ≤ l.length → (∀ x ∈ l.take k, x.1 < w.1) → (∀ x, l[k]? = some x → ¬ x.1 < w.1) → putM l w = l.take k ++ w :: l.drop (if (∃ x, l[k]? = some x ∧ x.1 = w.1) then k + 1 else k)
  | [], k, hk, _, _ => by
    have : k = 0 := by simpa using hk
    subst this
    rw [putM, if_neg (by simp)]; rfl
  | x :: r, 0, _, _, h => by
    have hx := h x rfl
    rw [putM, if_neg hx]
    by_cases e : x.1 = w.1
    · rw [if_pos e, if_pos ⟨x, rfl, e⟩]; rfl
    · rw [if_neg e, if_neg (by rintro ⟨y, hy, h'⟩; cases hy; exact e h')]; rfl
  | x :: r, k + 1, hk, h1, h2 => by
    rw [putM, if_pos (h1 x (by simp)), putM_cut w r k (by simpa using hk) (fun y hy => h1 y (by simp [hy])) (fun y hy => h2 y (by simpa using hy))]
    rw [List.take_succ_cons, List.cons_append]
    congr 2
    by_cases e : ∃ y, r[k]? = some y ∧ y.1 = w.1
    · rw [if_pos e, if_pos (by simpa using e)]; rfl
    · rw [if_neg e, if_neg (by simpa using e)]; rfl

theorem flat2_take (vs : List (List Value)) (h : ∀ r ∈ vs, r.length = 2) (k : Nat) : (vs.take k).flatten = vs.flatten.take (k * 2) := by
  induction vs generalizing k with
  | nil => simp
  | cons r rs ih =>
    cases k with
    | zero => simp
    | succ k =>
      have hr := h r (by simp)
      rw [List.take_succ_cons, List.flatten_cons, List.flatten_cons, ih (fun x hx => h x (by simp [hx])), List.take_append, List.take_of_length_le (l := r) (by omega), show (k + 1) * 2 - r.length = k * 2 by omega]
theorem flat2_drop (vs : List (List Value)) (h : ∀ r ∈ vs, r.length = 2) (k : Nat) : (vs.drop k).flatten = vs.flatten.drop (k * 2) := by
  induction vs generalizing k with
  | nil => simp
  | cons r rs ih =>
    cases k with
    | zero => simp
    | succ k =>
      have hr := h r (by simp)
      rw [List.drop_succ_cons, List.flatten_cons, ih (fun x hx => h x (by simp [hx])), List.drop_append, List.drop_of_length_le (l := r) (by omega), show (k + 1) * 2 - r.length = k * 2 by omega, List.nil_append]

theorem SRow.takeN {H : Heap} {n m : Nat} {a : Option Addr} {l c l' c' : Nat} {xs : List Value} (h : SRow H m n (.slice a l c) xs) {k : Nat} (hk : k ≤ n) : SRow H m k (.slice a l' c') (xs.take (k * m)) := by
  obtain ⟨h1, h2⟩ := h
  have : k * m ≤ n * m := Nat.mul_le_mul_right _ hk
  refine ⟨by rw [List.length_take]; omega, ?_⟩
  cases a with
  | none =>
    have h2 : xs = [] := h2
    subst h2; simp
  | some ad =>
    obtain ⟨h3, h4⟩ := h2
    refine ⟨?_, fun j u hj => ?_⟩
    · rcases h3 with h3 | h3
      · exact .inl (by rw [h3]; simp)
      · exact .inr h3
    · rw [List.getElem?_take] at hj
      split at hj
      · exact h4 j u hj
      · cases hj
theorem SRow.dropN {H : Heap} {n m : Nat} {a : Option Addr} {l c l' c' : Nat} {xs : List Value} (h : SRow H m n (.slice a l c) xs) {k : Nat} (hk : k ≤ n) (hc : n ≤ c) : SRow H m (n - k) (.slice (if c = k then a else Option.map (fun x => Addr.add x (k * m)) a) l' c') (xs.drop (k * m)) := by
  obtain ⟨h1, h2⟩ := h
  have hkm : k * m ≤ n * m := Nat.mul_le_mul_right _ hk
  have hl : (xs.drop (k * m)).length = (n - k) * m := by rw [List.length_drop, Nat.sub_mul]; omega
  refine ⟨hl, ?_⟩
  by_cases hck : c = k
  · rw [if_pos hck]
    have hnk : n = k := by omega
    have hnil : xs.drop (k * m) = [] := List.drop_eq_nil_of_le (by rw [h1, hnk]; exact Nat.le_refl _)
    rw [hnil]
    cases a with
    | none => rfl
    | some ad => exact ⟨.inl rfl, fun j u hj => by simp at hj⟩
  · rw [if_neg hck]
    cases a with
    | none =>
      have h2 : xs = [] := h2
      subst h2
      exact List.drop_nil
    | some ad =>
      obtain ⟨b, o, sp⟩ := ad
      obtain ⟨h3, h4⟩ := h2
      simp only [Option.map_some]
      by_cases hnil : xs = []
      · refine ⟨.inl (by rw [hnil]; simp), fun j u hj => by rw [hnil] at hj; simp at hj⟩
      · have hsp : sp = none := by
          rcases h3 with h3 | h3
          · exact absurd h3 hnil
          · exact h3
        subst hsp
        rw [add_none]
        refine ⟨.inr rfl, fun j u hj => ?_⟩
        rw [List.getElem?_drop] at hj
        have := h4 _ u hj
        show hcell H b (o + k * m + j) = some u
        rw [Nat.add_assoc]
        exact this

set_option maxHeartbeats 1000000 in
/-- A write put among others: a new row of the same elements. -/
theorem rput_ok {G : Nat → Prop} {H : Heap} {a : Option Addr} {c : Nat} {l : List Wr} {w : Wr} {a1 : Option Addr} {l1 c1 : Nat} (h : Seq writeE H G a l.length c l) (hl : l.length ≤ 1000000) (hG : ∀ k, G k → k < H.size) (hw : writeE.ok H [.int .i64 w.1, .slice a1 l1 c1] w) (hf : ∀ k ∈ blkOf a1, G k) :
    Does Tryz.prog 39 [.slice a l.length c, .agg #[.int .i64 w.1, .slice a1 l1 c1]] H fun v H' => ∃ a' c', v = .slice a' (putM l w).length c' ∧ Seq writeE H' G a' (putM l w).length c' (putM l w) ∧ Ext [] H H' ∧ ∀ k ∈ blkOf a', H.size ≤ k := by
  refine Fn_of_vc Tryz.mixed (vc_rputw _ _ _ _ _ _ _ _ _) ?_
  intro b1 H2 hn2
  have e1 := hn2.eq
  have hs2 := hn2.size
  have hb2 := hn2.blk
  have hview := h.view
  obtain ⟨vs, g1, g2, g3⟩ := h
  have hrows := Seq.rows vs g2 g3
  have hsz : writeE.sz = 2 := rfl
  rw [hsz] at g1 hrows
  have hcap := g1.2.1
  have hltA := g1.lt
  have hfl := flatten_len hrows
  refine ⟨fun n H' => H2 = H' ∧ ∃ k : Nat, n = k ∧ k ≤ l.length ∧ (∀ x ∈ l.take k, x.1 < w.1) ∧ ∀ x, l[k]? = some x → ¬ x.1 < w.1,
    ⟨fun n H' => H2 = H' ∧ ∃ k : Nat, n = k ∧ k ≤ l.length ∧ ∀ x ∈ l.take k, x.1 < w.1, fun n _ => l.length - n.toNat, ⟨rfl, 0, rfl, by omega, by simp⟩, ?_⟩, ?_⟩
  · rintro _ _ ⟨rfl, k, rfl, hk, hlt⟩
    refine ⟨fun h1 => ?_, fun h1 => ⟨rfl, k, rfl, hk, hlt, fun x hx => by have := (List.getElem?_eq_some_iff.1 hx).1; omega⟩⟩
    have hi : l[k]? = some (l[k]'(by omega)) := List.getElem?_eq_getElem (by omega)
    obtain ⟨bb, oo, aa, cc, eaa, q0, _⟩ := (hview.ext hn2.ext).wr hi
    refine ⟨by omega, h1, bb, oo, eaa, _, by rw [Int.toNat_natCast]; exact q0, w.1, hb2.cell 0, fun h2 => ⟨⟨by omega, by omega⟩, ⟨rfl, k + 1, by omega, by omega, fun x hx => ?_⟩, by simp only []; omega⟩, fun h2 => ⟨rfl, k, rfl, hk, hlt, fun x hx => by rw [hi] at hx; cases hx; exact h2⟩⟩
    rw [List.take_add_one, hi] at hx
    rcases List.mem_append.1 hx with hx | hx
    · exact hlt x hx
    · simp only [Option.toList_some, List.mem_singleton] at hx; subst hx; exact h2
  rintro _ _ ⟨rfl, k, rfl, hk, hlt, hge⟩
  intro b14 H15 hn15
  have e14 := hn15.eq
  have hs15 := hn15.size
  have ho15 : Own H15 2 (some ⟨b14, 0, none⟩) 0 0 [] := by simpa using Own.of_new (size := 2) (len := 0) (cap := 0) hn15.blk rfl (Nat.le_refl _) (by unfold maxLen; omega)
  have hx15 : Ext [] H H15 := hn2.ext.trans hn15.ext
  have hg15 := g1.ext hx15 (by simp)
  have hrow15 := SRow.takeN (l' := k) (c' := c) (hg15.row l.length c) hk
  have htk : vs.flatten.take (k * 2) = (vs.take k).flatten := (flat2_take vs hrows k).symm
  have hone : ∀ u ∈ vs.flatten, Value.oneCell' u = true := fun u hu => by
    obtain ⟨r, hr, hu⟩ := List.mem_flatten.1 hu
    obtain ⟨i, hi, rfl⟩ := List.mem_iff_getElem.1 hr
    obtain ⟨v, q1, q2, _⟩ := g3 i _ (List.getElem?_eq_getElem (by omega))
    rw [List.getElem?_eq_getElem hi, Option.some.injEq] at q1
    rw [q1] at hu
    exact writeE.one q2 u hu
  rw [Int.toNat_natCast, Nat.zero_add]
  refine ⟨by omega, by omega, [], _, ho15.row 0 0, hrow15, fun u hu => hone u (List.mem_of_mem_take hu), by omega, fun hle => ho15.room (n := k) (by omega), fun a18 c19 H20 happ => ?_⟩
  obtain ⟨p1, p2, p3⟩ := happ.own ho15 (ho15.row 0 0) (by have := hrow15.1; omega) rfl
  rw [Nat.zero_add, List.nil_append] at p1
  have hx20 : Ext [] H H20 := ext_new hx15 p2 (fun i hi => by simp only [blkOf, List.mem_singleton] at hi; omega)
  have hf18 : ∀ i ∈ blkOf a18, H2.size ≤ i := fun i hi => by
    rcases p3 i hi with h' | h'
    · simp only [blkOf, List.mem_singleton] at h'; omega
    · omega
  have hb20 : Blk H20 b1 [.int .i64 w.1, .slice a1 l1 c1] := ((hb2.ext hn15.ext (by simp)).ext p2 (fun hm => by simp only [blkOf, List.mem_singleton] at hm; omega))
  refine ⟨w.1, hb20.cell 0, a1, l1, c1, hb20.cell 1, fun b25 H26 hn26 => ?_⟩
  have e25 := hn26.eq
  have hs26 := hn26.size
  have hs20 := p2.size
  have p1' := p1.ext hn26.ext (by simp)
  have hb26 := hn26.blk
  refine ⟨_, [.int .i64 w.1, .slice a1 l1 c1], p1'.row _ _, ⟨by simp, .inr rfl, fun j u hj => by rw [Nat.zero_add, hb26.cell]; exact hj⟩, writeE.one hw, by omega, fun hle => p1'.room hle, fun a29 c30 H31 happ2 => ?_⟩
  obtain ⟨r1, r2, r3⟩ := happ2.own p1' (p1'.row _ _) rfl rfl
  have hx31 : Ext [] H H31 := ext_new (hx20.trans hn26.ext) r2 (fun i hi => by have := hf18 i hi; omega)
  have hf29 : ∀ i ∈ blkOf a29, H2.size ≤ i := fun i hi => by
    rcases r3 i hi with h' | h'
    · exact hf18 i h'
    · omega
  have hs31 := r2.size
  have hb31 : Blk H31 b1 [.int .i64 w.1, .slice a1 l1 c1] := ((hb20.ext hn26.ext (by simp)).ext r2 (fun hm => by have := hf18 _ hm; omega))
  let d : Nat := if (∃ x, l[k]? = some x ∧ x.1 = w.1) then k + 1 else k
  have hput := putM_cut w l k hk hlt hge
  refine ⟨fun n H' => H31 = H' ∧ n = (d : Int) ∧ d ≤ l.length, ⟨fun h1 => ?_, fun h1 => ⟨rfl, ?_, ?_⟩⟩, ?_⟩
  · have hi : l[k]? = some (l[k]'(by omega)) := List.getElem?_eq_getElem (by omega)
    obtain ⟨bb, oo, aa, cc, eaa, q0, _⟩ := (hview.ext hx31).wr hi
    refine ⟨by omega, h1, bb, oo, eaa, _, q0, w.1, hb31.cell 0, fun h2 => ⟨⟨by omega, by omega⟩, rfl, ?_, ?_⟩, fun h2 => ⟨rfl, ?_, ?_⟩⟩
    · have : d = k + 1 := if_pos ⟨_, hi, h2⟩
      omega
    · have : d = k + 1 := if_pos ⟨_, hi, h2⟩
      omega
    · have : d = k := if_neg (by rintro ⟨x, hx, hxe⟩; rw [hi] at hx; cases hx; exact h2 hxe)
      omega
    · have : d = k := if_neg (by rintro ⟨x, hx, hxe⟩; rw [hi] at hx; cases hx; exact h2 hxe)
      omega
  · have : d = k := if_neg (by rintro ⟨x, hx, hxe⟩; have := (List.getElem?_eq_some_iff.1 hx).1; omega)
    omega
  · have : d = k := if_neg (by rintro ⟨x, hx, hxe⟩; have := (List.getElem?_eq_some_iff.1 hx).1; omega)
    omega
  rintro _ _ ⟨rfl, rfl, hd⟩
  have hput' : putM l w = l.take k ++ w :: l.drop d := hput
  rw [Int.toNat_natCast]
  refine ⟨by omega, by omega, ?_⟩
  rintro a39 rfl
  have hg31 := g1.ext hx31 (by simp)
  have hrow31 := SRow.dropN (l' := l.length - d) (c' := c - d) (hg31.row l.length c) hd hcap
  have hdr : vs.flatten.drop (d * 2) = (vs.drop d).flatten := (flat2_drop vs hrows d).symm
  refine ⟨_, _, r1.row _ _, hrow31, fun u hu => hone u (List.mem_of_mem_drop hu), by omega, fun hle => r1.room hle, fun a42 c43 H44 happ3 => ?_⟩
  obtain ⟨t1, t2, t3⟩ := happ3.own r1 (r1.row _ _) hrow31.1 rfl
  have hx44 : Ext [] H H44 := ext_new hx31 t2 (fun i hi => by have := hf29 i hi; omega)
  have hpl : (putM l w).length = k + 1 + (l.length - d) := by rw [hput']; simp; omega
  rw [hpl]
  refine ⟨a42, c43, rfl, ⟨vs.take k ++ [[.int .i64 w.1, .slice a1 l1 c1]] ++ vs.drop d, ?_, ?_, fun i x hi => ?_⟩, hx44, fun i hi => ?_⟩
  · rw [List.flatten_append, List.flatten_append, ← htk, ← hdr, hsz]
    simpa using t1
  · rw [hput']; simp; omega
  · have keep : ∀ {v : List Value} {y : Wr}, writeE.ok H v y → writeE.ok H44 v y := fun hv => writeE.ext hv hx44.toP (by simp)
    rw [hput'] at hi
    by_cases hik : i < k
    · rw [List.getElem?_append_left (by simp; omega), List.getElem?_take, if_pos hik] at hi
      obtain ⟨v, q1, q2, q3⟩ := g3 i x hi
      exact ⟨v, by rw [List.append_assoc, List.getElem?_append_left (by simp; omega), List.getElem?_take, if_pos hik]; exact q1, keep q2, q3⟩
    · have hkl : (l.take k).length = k := by simp; omega
      have hkv : (vs.take k).length = k := by simp; omega
      rw [List.getElem?_append_right (by omega), hkl] at hi
      rw [List.append_assoc, List.getElem?_append_right (by omega), hkv]
      by_cases hi0 : i - k = 0
      · rw [hi0] at hi ⊢
        cases hi
        exact ⟨_, rfl, keep hw, fun j hj => hf j hj⟩
      · obtain ⟨m, hm⟩ : ∃ m, i - k = m + 1 := ⟨i - k - 1, by omega⟩
        rw [hm] at hi ⊢
        simp only [List.getElem?_cons_succ, List.getElem?_drop] at hi
        obtain ⟨v, q1, q2, q3⟩ := g3 _ x hi
        exact ⟨v, by simpa using q1, keep q2, q3⟩
  · rcases t3 i hi with h' | h'
    · have := hf29 i h'; omega
    · omega
end Go.Proofs
end

section
open Go Go.Vc
namespace Go.Proofs

/-! ### What is taken, by number -/
def Same (t new : List Wr) : Prop := (new.map (·.1)).Pairwise (· < ·) ∧ ∀ k, tGet new k = tGet t k
theorem Same.nil : Same [] [] := ⟨by simp, fun _ => rfl⟩
theorem putM_get (w : Wr) (k : Int) : ∀ {l : List Wr}, (l.map (·.1)).Pairwise (· < ·) → tGet (putM l w) k = if k = w.1 then some w.2 else tGet l k
  | [], _ => by
    rw [putM]; simp only [tGet]
    by_cases h : k = w.1
    · rw [if_pos h, if_pos h.symm]
    · rw [if_neg h, if_neg (fun e => h e.symm)]
  | x :: r, hs => by
    simp only [List.map_cons, List.pairwise_cons] at hs
    have ih := putM_get w k hs.2
    rw [putM]
    by_cases h1 : x.1 < w.1
    · rw [if_pos h1]
      simp only [tGet]
      by_cases hx : x.1 = k
      · rw [if_pos hx, if_neg (by omega), if_pos hx]
      · rw [if_neg hx, ih, if_neg hx]
    · rw [if_neg h1]
      by_cases h2 : x.1 = w.1
      · rw [if_pos h2]
        simp only [tGet]
        by_cases h : k = w.1
        · rw [if_pos h, if_pos h.symm]
        · rw [if_neg h, if_neg (fun e => h e.symm), if_neg (fun e => h (by omega))]
      · rw [if_neg h2]
        simp only [tGet]
        by_cases h : k = w.1
        · rw [if_pos h, if_pos h.symm]
        · rw [if_neg h, if_neg (fun e => h e.symm)]
theorem putM_keys (w : Wr) : ∀ (l : List Wr) (k : Int), k ∈ (putM l w).map (·.1) → k = w.1 ∨ k ∈ l.map (·.1)
  | [], k, h => by simpa [putM] using h
  | x :: r, k, h => by
    rw [putM] at h
    split at h
    · simp only [List.map_cons, List.mem_cons] at h ⊢
      rcases h with h | h
      · exact .inr (.inl h)
      · rcases putM_keys w r k h with h | h
        · exact .inl h
        · exact .inr (.inr h)
    · split at h
      · simp only [List.map_cons, List.mem_cons] at h ⊢
        rcases h with h | h
        · exact .inl h
        · exact .inr (.inr h)
      · simp only [List.map_cons, List.mem_cons] at h ⊢
        exact h
theorem putM_sorted (w : Wr) : ∀ {l : List Wr}, (l.map (·.1)).Pairwise (· < ·) → ((putM l w).map (·.1)).Pairwise (· < ·)
  | [], _ => by simp [putM]
  | x :: r, hs => by
    simp only [List.map_cons, List.pairwise_cons] at hs
    rw [putM]
    by_cases h1 : x.1 < w.1
    · rw [if_pos h1]
      simp only [List.map_cons, List.pairwise_cons]
      refine ⟨fun k hk => ?_, putM_sorted w hs.2⟩
      rcases putM_keys w r k hk with rfl | hk
      · exact h1
      · exact hs.1 k hk
    · rw [if_neg h1]
      by_cases h2 : x.1 = w.1
      · rw [if_pos h2]
        simp only [List.map_cons, List.pairwise_cons]
        exact ⟨fun k hk => by have := hs.1 k hk; omega, hs.2⟩
      · rw [if_neg h2]
        simp only [List.map_cons, List.pairwise_cons, List.mem_cons]
        exact ⟨fun k hk => by
          rcases hk with rfl | hk
          · omega
          · have := hs.1 k hk; omega, hs.1, hs.2⟩
theorem Same.put {t new : List Wr} (h : Same t new) (w : Wr) : Same (tSet t w.1 w.2) (putM new w) := ⟨putM_sorted w h.1, fun k => by rw [putM_get w k h.1, tGet_set, h.2]⟩
theorem mem_of_tGet {t : List Wr} {k : Int} {x : Octs} (h : tGet t k = some x) : (k, x) ∈ t := by
  induction t with
  | nil => cases h
  | cons p r ih =>
    simp only [tGet] at h
    split at h
    · rename_i e
      cases h
      rw [← e]; simp
    · simp [ih h]
theorem tGet_of_sorted {l : List Wr} (hs : (l.map (·.1)).Pairwise (· < ·)) {w : Wr} (hw : w ∈ l) : tGet l w.1 = some w.2 := by
  induction l with
  | nil => cases hw
  | cons p r ih =>
    simp only [List.map_cons, List.pairwise_cons] at hs
    simp only [tGet]
    rcases List.mem_cons.1 hw with rfl | hw
    · rw [if_pos rfl]
    · have := hs.1 w.1 (List.mem_map.2 ⟨w, hw, rfl⟩)
      rw [if_neg (by omega), ih hs.2 hw]
theorem Same.mem {t new : List Wr} (h : Same t new) {w : Wr} (hw : w ∈ new) : tGet t w.1 = some w.2 := by rw [← h.2]; exact tGet_of_sorted h.1 hw
theorem Same.keys {t new : List Wr} (h : Same t new) (hn : (t.map (·.1)).Nodup) : keysOf t = new.map (·.1) := by
  have h1 : (new.map (·.1)).Nodup := h.1.imp (fun hlt => by omega)
  have hmem : ∀ k, k ∈ t.map (·.1) ↔ k ∈ new.map (·.1) := fun k => by
    constructor
    · intro hk
      obtain ⟨x, hx, _⟩ := tGet_mem hk
      rw [← h.2] at hx
      exact List.mem_map.2 ⟨_, mem_of_tGet hx, rfl⟩
    · intro hk
      obtain ⟨x, hx, _⟩ := tGet_mem hk
      rw [h.2] at hx
      exact List.mem_map.2 ⟨_, mem_of_tGet hx, rfl⟩
  have hp : (t.map (·.1)).Perm (new.map (·.1)) := (List.perm_ext_iff_of_nodup hn h1).2 hmem
  unfold keysOf sorted
  refine List.Perm.eq_of_pairwise (le := (· ≤ ·)) (fun a b _ _ h1 h2 => by omega) ?_ (h.1.imp (fun hlt => by omega)) ((List.mergeSort_perm _ _).trans hp)
  have := List.pairwise_mergeSort (le := fun x y : Int => decide (x ≤ y)) (fun a b c h1 h2 => by simp at *; omega) (fun a b => by simp; omega) (t.map (·.1))
  exact this.imp (fun h => by simpa using h)
theorem Same.len {t new : List Wr} (h : Same t new) (hn : (t.map (·.1)).Nodup) : new.length = t.length := by
  have := congrArg List.length (h.keys hn)
  unfold keysOf at this
  rw [sorted_len, List.length_map, List.length_map] at this
  omega
theorem Same.homeWs {t new : List Wr} (h : Same t new) (hn : (t.map (·.1)).Nodup) (size : Int) : homeWs size t (keysOf t) = new.map fun w => (1 + size + w.1, w.2) := by
  unfold Go.Proofs.homeWs
  rw [h.keys hn, List.map_map]
  refine List.map_congr_left fun w hw => ?_
  simp only [Function.comp_apply]
  rw [h.mem hw]; rfl

/-- Going home, and the header: as the reference says it. -/
def homeM (n : Nat) (J : Jn) (D : Dev) : Dev × Jn × Int := if (goHomeM n J D).2 ≠ 0 then ((goHomeM n J D).1, J, (goHomeM n J D).2) else beginM n J.h J (goHomeM n J D).1
theorem ckpt_home (n : Nat) (J : Jn) (D : Dev) : ckptM n J D = if (flushD D).2 ≠ 0 then ((flushD D).1, J, (flushD D).2) else homeM n J (flushD D).1 := rfl

/-- Writes, one by one, then a Flush. -/
def goL (n : Nat) : List (Int × Octs) → Dev → Dev × Int
  | [], D => flushD D
  | w :: ws, D => if (writeD D n w.1 w.2).2 ≠ 0 then writeD D n w.1 w.2 else goL n ws (writeD D n w.1 w.2).1
theorem goW_goL (n : Nat) (size : Int) (t : List Wr) : ∀ (ks : List Int) (D : Dev), goW n size t ks D = goL n (homeWs size t ks) D
  | [], D => rfl
  | k :: ks, D => by
    show _ = goL n ((1 + size + k, (tGet t k).getD []) :: homeWs size t ks) D
    rw [goW, goL, goW_goL n size t ks]
theorem goHome_goL {n : Nat} {J : Jn} {D : Dev} {new : List Wr} (h : Same J.taken new) (hn : (J.taken.map (·.1)).Nodup) : goHomeM n J D = goL n (new.map fun w => (1 + J.h.size + w.1, w.2)) D := by
  unfold goHomeM
  rw [goW_goL, ← h.homeWs hn]; rfl

theorem write_ret {D : Dev} {n : Nat} {k : Int} {b : Octs} (hk : 0 ≤ k ∧ k < n) (hb : b.length = 128) : (writeD D n k b).2 = 0 ∨ (writeD D n k b).2 = 4 := by
  unfold writeD
  rw [if_neg (by simp [hk, hb])]
  split <;> simp
theorem goL_ret {n : Nat} : ∀ (ws : List (Int × Octs)) (D : Dev), (∀ w ∈ ws, 0 ≤ w.1 ∧ w.1 < n ∧ w.2.length = 128) → (goL n ws D).2 = 0 ∨ (goL n ws D).2 = 4
  | [], D, _ => flush_ret D
  | w :: ws, D, h => by
    have h0 := h w (by simp)
    rw [goL]
    split
    · exact write_ret ⟨h0.1, h0.2.1⟩ h0.2.2
    · exact goL_ret ws _ (fun x hx => h x (by simp [hx]))
theorem begin_ret {n : Nat} {h : Hd} {J : Jn} {D : Dev} (hn : 0 < n) : (beginM n h J D).2.2 = 0 ∨ (beginM n h J D).2.2 = 4 := by
  unfold beginM
  split
  · exact write_ret ⟨Int.le_refl _, by omega⟩ (hdrB_len h)
  · split
    · exact flush_ret _
    · exact .inl rfl
end Go.Proofs
end

section
open Go Go.Vc
namespace Go.Proofs

def rcells (pd : Nat) (h : Hd) (pos : Int) (a : Option Addr) (m c : Nat) (dead : Bool) : List Value := [.pointer (some ⟨pd, 0, none⟩), .int .i64 h.size, .int .i64 h.epoch, .int .i64 h.seq, .int .i64 pos, .slice a m c, .bool dead]

/-- The reference's journal in memory. -/
structure RJn (H : Heap) (F : Nat → Prop) (pr pd : Nat) (J : Jn) (G : Nat → Prop) (new : List Wr) (a : Option Addr) (c : Nat) (pos : Int) : Prop where
  head : Blk H pr (rcells pd J.h pos a new.length c J.dead)
  seq : Seq writeE H G a new.length c new
  same : Same J.taken new
  pos : J.dead = false → pos = J.used
  hp : F pr
  hG : ∀ k, G k → F k ∧ k ≠ pr ∧ k ∉ blkOf a
  ha : ∀ k ∈ blkOf a, F k ∧ k ≠ pr
  lt : ∀ k, F k → k < H.size

/-- The reference's journal and its device. -/
def RJD (H : Heap) (F : Nat → Prop) (pr pd : Nat) (J : Jn) (D : Dev) : Prop :=
  ∃ Fd Fj G new a c pos, IsRDev H Fd pd D ∧ RJn H Fj pr pd J G new a c pos ∧ (∀ k, Fd k → ¬ Fj k) ∧ (∀ k, Fd k → F k) ∧ (∀ k, Fj k → F k) ∧ ∀ k, F k → k < H.size

theorem RJn.extP {H H' : Heap} {F F' M : Nat → Prop} {pr pd : Nat} {J : Jn} {G : Nat → Prop} {new : List Wr} {a : Option Addr} {c : Nat} {pos : Int} (h : RJn H F pr pd J G new a c pos) (he : ExtP M H H') (hm : ∀ k, F k → ¬ M k) (hF : ∀ k, F k → F' k) (hlt : ∀ k, F' k → k < H'.size) : RJn H' F' pr pd J G new a c pos :=
  ⟨h.head.extP he (hm _ h.hp), h.seq.extP he (fun k hk => hm k (h.ha k hk).1) (fun k hk => hm k (h.hG k hk).1), h.same, h.pos, hF _ h.hp, fun k hk => ⟨hF k (h.hG k hk).1, (h.hG k hk).2⟩, fun k hk => ⟨hF k (h.ha k hk).1, (h.ha k hk).2⟩, hlt⟩

/-- One cell of the journal put. -/
theorem RJn.poke {H H' : Heap} {F : Nat → Prop} {pr pd : Nat} {J J' : Jn} {G : Nat → Prop} {new : List Wr} {a : Option Addr} {c : Nat} {pos pos' : Int} (h : RJn H F pr pd J G new a c pos) {o : Nat} {v : Value} (hp : Puts H pr o [v] H') (ho : o < 7) (hc : (rcells pd J.h pos a new.length c J.dead).set o v = rcells pd J'.h pos' a new.length c J'.dead) (ht : J'.taken = J.taken) (hpos : J'.dead = false → pos' = J'.used) : RJn H' F pr pd J' G new a c pos' ∧ Ext [pr] H H' := by
  have he := hp.ext
  have hb := hp.blk h.head (by simp only [List.length_cons, List.length_nil, rcells]; omega)
  rw [splice_one _ _ _ (by simp only [rcells, List.length_cons, List.length_nil]; omega), hc] at hb
  exact ⟨⟨hb, h.seq.extP he.toP (fun k hk => by simpa using (h.ha k hk).2) (fun k hk => by simpa using (h.hG k hk).2.1), by rw [ht]; exact h.same, hpos, h.hp, h.hG, h.ha, fun k hk => Nat.lt_of_lt_of_le (h.lt k hk) he.size⟩, he⟩

section
variable {H H' : Heap} {F F' M : Nat → Prop} {pr pd : Nat} {J : Jn} {D : Dev} {n B : Nat}
theorem RJD.lt (h : RJD H F pr pd J D) : ∀ k, F k → k < H.size := by obtain ⟨_, _, _, _, _, _, _, _, _, _, _, _, h⟩ := h; exact h
theorem RJD.up (h : RJD H F pr pd J D) (hF : ∀ k, F k → F' k) (hlt : ∀ k, F' k → k < H.size) : RJD H F' pr pd J D := by
  obtain ⟨Fd, Fj, G, new, a, c, pos, h1, h2, h3, h4, h5, h6⟩ := h
  exact ⟨Fd, Fj, G, new, a, c, pos, h1, h2, h3, fun k hk => hF k (h4 k hk), fun k hk => hF k (h5 k hk), hlt⟩
theorem RJD.ext (h : RJD H F pr pd J D) (he : ExtP M H H') (hm : ∀ k, F k → ¬ M k) : RJD H' F pr pd J D := by
  obtain ⟨Fd, Fj, G, new, a, c, pos, h1, h2, h3, h4, h5, h6⟩ := h
  exact ⟨Fd, Fj, G, new, a, c, pos, h1.ext he (fun k hk => hm k (h4 k hk)), h2.extP he (fun k hk => hm k (h5 k hk)) (fun _ h => h) (fun k hk => Nat.lt_of_lt_of_le (h2.lt k hk) he.size), h3, h4, h5, fun k hk => Nat.lt_of_lt_of_le (h6 k hk) he.size⟩
theorem RJD.dev (h : RJD H F pr pd J D) : IsRDev H F pd D := by
  obtain ⟨Fd, Fj, G, new, a, c, pos, h1, h2, h3, h4, h5, h6⟩ := h
  exact h1.up h4 h6
/-- The device alone goes on. -/
theorem RJD.dstep {Fd Fj G : Nat → Prop} {new : List Wr} {a : Option Addr} {c : Nat} {pos : Int} (h2 : RJn H Fj pr pd J G new a c pos) (h3 : ∀ k, Fd k → ¬ Fj k) (h4 : ∀ k, Fd k → F k) (h5 : ∀ k, Fj k → F k) (h6 : ∀ k, F k → k < H.size) {D' : Dev} (hd : IsRDev H' (grow Fd H H') pd D') (hx : ExtP Fd H H') : RJD H' (grow F H H') pr pd J D' ∧ ExtP F H H' := by
  have hs := hx.size
  exact ⟨⟨_, Fj, G, new, a, c, pos, hd, h2.extP hx (fun k hk hk' => h3 k hk' hk) (fun _ h => h) (fun k hk => by have := h2.lt k hk; omega), fun k hk hk' => by
    rcases hk with hk | hk
    · exact h3 k hk hk'
    · have := h2.lt k hk'; omega, grow_in h4 (Nat.le_refl _) (Nat.le_refl _), fun k hk => .inl (h5 k hk), grow_lt h6 hs⟩, hx.mono (fun k _ hk => h4 k hk)⟩

theorem rhome_ok (h : RJD H F pr pd J D) (hw : D.Wf n B) (hj : J.Wf n) : Does Tryz.prog 22 [.pointer (some ⟨pr, 0, none⟩)] H fun v H' => v = .int .i64 (homeN n J.h.size) ∧ H = H' := by
  obtain ⟨Fd, Fj, G, new, a, c, pos, ⟨ak, ck, ap, cp, h1⟩, h2, _⟩ := h
  have hl := hw.len
  have hf := hw.few
  have hz := hj.size
  refine Fn_of_vc Tryz.mixed (vc_rhome _ _ _) ?_
  refine ⟨pr, 0, rfl, _, h2.head.cell 0, pd, 0, rfl, ak, _, ck, h1.head.cell 0, ⟨by omega, by omega⟩, pr, 0, rfl, _, h2.head.cell 1, ⟨by omega, by omega⟩, ?_, rfl⟩
  rw [homeN_of hz, hl]
theorem rfree_ok (h : RJD H F pr pd J D) (hj : J.Wf n) (hn : n ≤ 4096) (hd : J.dead = false) : Does Tryz.prog 56 [.pointer (some ⟨pr, 0, none⟩)] H fun v H' => v = .int .i64 (J.h.size - J.used) ∧ H = H' := by
  obtain ⟨Fd, Fj, G, new, a, c, pos, h1, h2, _⟩ := h
  have hz := hj.size
  have hu := hj.used
  have hp := h2.pos hd
  refine Fn_of_vc Tryz.mixed (vc_rfree _ _ _) ?_
  exact ⟨pr, 0, rfl, _, h2.head.cell 1, pr, 0, rfl, _, h2.head.cell 4, ⟨by omega, by omega⟩, by rw [hp], rfl⟩

theorem rdone_ok (h : RJD H F pr pd J D) (b : Bool) : Does Tryz.prog 43 [.pointer (some ⟨pr, 0, none⟩), .bool b] H fun v H' => v = .int .i64 (if b then 0 else 4) ∧ RJD H' F pr pd (endsM J (if b then 0 else 4)) D ∧ ExtP F H H' := by
  refine Fn_of_vc Tryz.mixed (vc_rdone _ _ _ _) ?_
  refine ⟨fun hb => ?_, fun hb => ?_⟩
  · subst hb
    refine ⟨rfl, ?_, ExtP.refl _ _⟩
    have : endsM J (if true = true then 0 else 4) = J := by
      obtain ⟨x, y, z, d⟩ := J
      show (⟨x, y, z, d || decide ((0 : Int) = 4)⟩ : Jn) = _
      simp
    rw [this]; exact h
  · subst hb
    obtain ⟨Fd, Fj, G, new, a, c, pos, h1, h2, h3, h4, h5, h6⟩ := h
    refine ⟨pr, 0, rfl, h2.head.cells 1 6 (by simp [rcells]), fun H3 hp => ⟨rfl, ?_⟩⟩
    have hdd : (endsM J (if false = true then 0 else 4)).dead = true := by show (J.dead || decide ((4 : Int) = 4)) = true; simp
    obtain ⟨g1, g2⟩ := h2.poke (J' := endsM J (if false = true then 0 else 4)) (pos' := pos) hp (by decide) (by rw [hdd]; rfl) rfl (fun hf => by rw [hdd] at hf; cases hf)
    refine ⟨⟨Fd, Fj, G, new, a, c, pos, h1.ext g2.toP (fun k hk hk' => ?_), g1, h3, h4, h5, fun k hk => Nat.lt_of_lt_of_le (h6 k hk) g2.size⟩, g2.lift (fun k _ hk => ?_)⟩
    · simp only [List.mem_singleton] at hk'; subst hk'; exact h3 _ hk h2.hp
    · simp only [List.mem_singleton] at hk; subst hk; exact h5 _ h2.hp
end

theorem homeM_valid {n : Nat} {J : Jn} {new : List Wr} (hj : J.Wf n) (h : Same J.taken new) : ∀ w ∈ new.map fun w => ((1 + J.h.size + w.1, w.2) : Int × Octs), 0 ≤ w.1 ∧ w.1 < n ∧ w.2.length = 128 := fun w hw => by
  obtain ⟨x, hx, rfl⟩ := List.mem_map.1 hw
  have hm := mem_of_tGet (h.mem hx)
  have := hj.took.1 _ hm
  have hz := hj.size
  rw [homeN_of hz] at this
  simp only at this ⊢
  omega

set_option maxHeartbeats 1000000 in
theorem rgohome_ok {H : Heap} {F : Nat → Prop} {pr pd : Nat} {J : Jn} {D : Dev} {n B : Nat} (h : RJD H F pr pd J D) (hw : D.Wf n B) (hB : B ≤ 800000000) (hn : n ≤ 4096) (hj : J.Wf n) :
    Does Tryz.prog 40 [.pointer (some ⟨pr, 0, none⟩)] H fun v H' => v = .bool (decide ((homeM n J D).2.2 = 0)) ∧ RJD H' (grow F H H') pr pd (homeM n J D).2.1 (homeM n J D).1 ∧ ExtP F H H' := by
  obtain ⟨Fd, Fj, G, new, a, c, pos, h1, h2, h3, h4, h5, h6⟩ := h
  have hsz := hj.size
  have hho := homeN_of hsz
  have hval := homeM_valid hj h2.same
  have hgo0 := goHome_goL (n := n) (D := D) h2.same hj.took.2
  have hlen := h2.same.len hj.took.2
  have hfew := hj.took.few (n := 4096) (by omega)
  refine Fn_of_vc Tryz.mixed (vc_rgohome _ _ _) ?_
  have grd : ∀ {A C : Heap} {Fa : Nat → Prop}, H.size ≤ A.size → A.size ≤ C.size → ∀ k, grow (grow Fa H A) A C k → grow Fa H C k := fun h0 hs k hk => by
    rcases hk with (hk | hk) | hk
    · exact .inl hk
    · exact .inr ⟨hk.1, by omega⟩
    · exact .inr ⟨by omega, hk.2⟩
  refine ⟨fun i H' => ∃ (q : Nat) (D' : Dev), i = q ∧ q ≤ new.length ∧ goHomeM n J D = goL n ((new.map fun w => (1 + J.h.size + w.1, w.2)).drop q) D' ∧ D'.Wf n (B + q) ∧ IsRDev H' (grow Fd H H') pd D' ∧ ExtP Fd H H', fun i _ => new.length - i.toNat,
    ⟨0, D, rfl, by omega, by simpa using hgo0, hw, h1.up (fun _ => .inl) (grow_lt (fun k hk => h1.lt k hk) (Nat.le_refl _)), ExtP.refl _ _⟩, ?_⟩
  rintro _ H4 ⟨q, D', rfl, hq, hgo, hw', hd', hx'⟩
  have hs' := hx'.size
  have hR4 := h2.extP (F' := Fj) hx' (fun k hk hk' => h3 k hk' hk) (fun _ h => h) (fun k hk => by have := h2.lt k hk; omega)
  have fin : ∀ {A : Heap} {D2 : Dev}, IsRDev A (grow Fd H A) pd D2 → ExtP Fd H A → RJD A (grow F H A) pr pd J D2 ∧ ExtP F H A := fun hd hx => RJD.dstep h2 h3 h4 h5 h6 hd hx
  refine ⟨pr, 0, rfl, a, _, c, hR4.head.cell 5, fun hlt => ?_, fun hge => ?_⟩
  · have hqn : q < new.length := by omega
    have hi : new[q]? = some (new[q]'hqn) := List.getElem?_eq_getElem hqn
    have hdr : (new.map fun w => ((1 + J.h.size + w.1, w.2) : Int × Octs)).drop q = (1 + J.h.size + (new[q]'hqn).1, (new[q]'hqn).2) :: (new.map fun w => ((1 + J.h.size + w.1, w.2) : Int × Octs)).drop (q + 1) := by
      rw [List.drop_eq_getElem_cons (by simpa using hqn), List.getElem_map]
    have hv := hval (1 + J.h.size + (new[q]'hqn).1, (new[q]'hqn).2) (List.mem_map.2 ⟨_, List.getElem_mem hqn, rfl⟩)
    obtain ⟨bb, oo, v, ea, hc, ⟨a31, l32, c33, ev, hrow, _⟩, hfp⟩ := hR4.seq.get hi
    generalize new[q]'hqn = w at *
    subst ev
    have hl32 : w.2.length = l32 := by have := hrow.1; rw [bytesV_length] at this; omega
    have hc0 := hc 0 _ rfl
    have hc1 := hc 1 _ rfl
    have hsz2 : writeE.sz = 2 := rfl
    rw [hsz2] at hc0 hc1
    refine ⟨pr, 0, rfl, _, hR4.head.cell 0, pr, 0, rfl, _, hR4.head.cell 1, ⟨by omega, by omega⟩, pr, 0, rfl, a, _, c, hR4.head.cell 5, by omega, hlt, bb, oo, ea, w.1, by rw [Int.toNat_natCast]; exact hc0, ⟨by omega, by omega⟩, pr, 0, rfl, a, _, c, hR4.head.cell 5, by omega, hlt, bb, oo, ea, a31, l32, c33, by rw [Int.toNat_natCast]; exact hc1, ?_⟩
    refine (rdwrite_ok hd' hw' (by omega) (1 + J.h.size + w.1) (KeptB.of hrow (fun i hi hg => ?_))).mono ?_
    · have h7 := (hR4.hG i (hfp i hi)).1
      rcases hg with hg | hg
      · exact h3 i hg h7
      · have := h2.lt i h7; omega
    rintro _ H35 ⟨rfl, hd35, hx35⟩
    have hs35 := hx35.size
    have hw35 := writeWf hw' (1 + J.h.size + w.1) w.2
    have hd35' := hd35.up (grd (Fa := Fd) hs' hs35) (grow_lt (fun k hk => h1.lt k hk) (by omega))
    have hx35' : ExtP Fd H H35 := hx'.trans' hx35 (fun i hi => by
      rcases hi with hi | hi
      · exact .inr hi
      · exact .inl hi.1)
    rw [hdr, goL] at hgo
    refine ⟨_, rfl, fun hne => ?_, fun he => ⟨⟨by omega, by omega⟩, ⟨q + 1, _, by omega, by omega, by rw [if_neg he] at hgo; exact hgo, hw35.up (by omega), hd35', hx35'⟩, by simp only []; omega⟩⟩
    rw [if_pos hne] at hgo
    have hM : homeM n J D = ((writeD D' n (1 + J.h.size + w.1) w.2).1, J, (writeD D' n (1 + J.h.size + w.1) w.2).2) := by
      unfold homeM; rw [hgo, if_pos hne]
    rw [hM]
    exact ⟨congrArg _ (decide_eq_false hne).symm, fin hd35' hx35'⟩
  · have hqe : q = new.length := by omega
    subst hqe
    rw [List.drop_eq_nil_of_le (by simp), goL] at hgo
    refine ⟨pr, 0, rfl, _, hR4.head.cell 0, (rdflush_ok hd' hw' (by omega)).mono ?_⟩
    rintro _ H41 ⟨rfl, hd41, hx41⟩
    have hs41 := hx41.size
    have hw41 := flushWf hw'
    have hd41' := hd41.up (grd (Fa := Fd) hs' hs41) (grow_lt (fun k hk => h1.lt k hk) (by omega))
    have hx41' : ExtP Fd H H41 := hx'.trans' hx41 (fun i hi => by
      rcases hi with hi | hi
      · exact .inr hi
      · exact .inl hi.1)
    refine ⟨_, rfl, fun hne => ?_, fun he => ?_⟩
    · have hM : homeM n J D = ((flushD D').1, J, (flushD D').2) := by unfold homeM; rw [hgo, if_pos hne]
      rw [hM]
      exact ⟨congrArg _ (decide_eq_false hne).symm, fin hd41' hx41'⟩
    have hM : homeM n J D = beginM n J.h J (flushD D').1 := by unfold homeM; rw [hgo, if_neg he]
    rw [hM]
    have hR41 := h2.extP (F' := Fj) hx41' (fun k hk hk' => h3 k hk' hk) (fun _ h => h) (fun k hk => by have := h2.lt k hk; omega)
    refine ⟨pr, 0, rfl, _, hR41.head.cell 0, pr, 0, rfl, _, hR41.head.cell 2, pr, 0, rfl, _, hR41.head.cell 3, pr, 0, rfl, _, hR41.head.cell 1, (rheader_ok J.h.epoch J.h.seq J.h.size H41).mono ?_⟩
    rintro _ H56 ⟨⟨a57, c59, rfl, ho56, hf56⟩, hx56⟩
    have hs56 := hx56.size
    have hR56 := hR41.extP (F' := Fj) hx56.toP (by simp) (fun _ h => h) (fun k hk => by have := h2.lt k hk; omega)
    have hd56 := hd41'.ext hx56.toP (by simp)
    refine ⟨_, _, _, rfl, ⟨hR56.head.cell 0, trivial⟩, (rdwrite_ok hd56 hw41 (by omega) 0 (KeptB.of (ho56.row _ c59) (fun i hi hg => by have := hf56 i hi; have := hd41'.lt i hg; omega))).mono ?_⟩
    rintro _ H61 ⟨rfl, hd61, hx61⟩
    have hs61 := hx61.size
    have hhd : (⟨J.h.epoch, J.h.seq, J.h.size⟩ : Hd) = J.h := rfl
    rw [hhd] at *
    have hw61 := writeWf hw41 0 (hdrB J.h)
    have hx61' : ExtP Fd H H61 := (hx41'.trans hx56.anyP).trans' hx61 (fun i hi => by
      rcases hi with hi | hi
      · exact .inr hi
      · exact .inl hi.1)
    have hd61' := hd61.up (F' := grow Fd H H61) (fun k hk => by
      rcases hk with (hk | hk) | hk
      · exact .inl hk
      · exact .inr ⟨hk.1, by omega⟩
      · exact .inr ⟨by omega, hk.2⟩) (grow_lt (fun k hk => h1.lt k hk) (by omega))
    unfold beginM
    refine ⟨_, rfl, fun hne => ?_, fun he2 => ?_⟩
    · rw [if_pos hne]
      exact ⟨congrArg _ (decide_eq_false hne).symm, fin hd61' hx61'⟩
    rw [if_neg he2]
    have hR61 := h2.extP (F' := Fj) hx61' (fun k hk hk' => h3 k hk' hk) (fun _ h => h) (fun k hk => by have := h2.lt k hk; omega)
    refine ⟨pr, 0, rfl, _, hR61.head.cell 0, (rdflush_ok hd61' hw61 (by omega)).mono ?_⟩
    rintro _ H67 ⟨rfl, hd67, hx67⟩
    have hs67 := hx67.size
    have hd67' := hd67.up (grd (Fa := Fd) (by omega) hs67) (grow_lt (fun k hk => h1.lt k hk) (by omega))
    have hx67' : ExtP Fd H H67 := hx61'.trans' hx67 (fun i hi => by
      rcases hi with hi | hi
      · exact .inr hi
      · exact .inl hi.1)
    refine ⟨_, rfl, fun hne => ?_, fun he3 => ?_⟩
    · rw [if_pos hne]
      exact ⟨congrArg _ (decide_eq_false hne).symm, fin hd67' hx67'⟩
    rw [if_neg he3]
    have hR67 := h2.extP (F' := Fj) hx67' (fun k hk hk' => h3 k hk' hk) (fun _ h => h) (fun k hk => by have := h2.lt k hk; omega)
    refine ⟨pr, 0, rfl, hR67.head.cells 1 5 (by simp [rcells]), fun H71 hp71 => ?_⟩
    have hb71 := hp71.blk hR67.head (by simp [rcells])
    refine ⟨pr, 0, rfl, hb71.cells 1 4 (by simp [rcells, splice]), fun H74 hp74 => ?_⟩
    have hb74 := hp74.blk hb71 (by simp [rcells, splice])
    have hx74 : Ext [pr] H67 H74 := hp71.ext.trans hp74.ext
    have hs74 := hx74.size
    have hs74' : H74.size = H67.size := by rw [hp74.size, hp71.size]
    refine ⟨rfl, ⟨grow Fd H H67, Fj, fun _ => False, [], none, 0, 0, hd67'.ext hx74.toP (fun k hk hk' => ?_), ⟨by simpa [splice, rcells] using hb74, Seq.nil _ _ _, Same.nil, fun _ => rfl, h2.hp, fun k hk => hk.elim, by simp [blkOf], fun k hk => by have := h2.lt k hk; omega⟩, fun k hk hk' => ?_, fun k hk => ?_, fun k hk => .inl (h5 k hk), grow_lt h6 (by omega)⟩, (hx67'.mono (fun k _ hk => h4 k hk)).trans (hx74.lift (fun k _ hk => by simp only [List.mem_singleton] at hk; subst hk; exact h5 _ h2.hp))⟩
    · simp only [List.mem_singleton] at hk'
      subst hk'
      rcases hk with hk | hk
      · exact h3 _ hk h2.hp
      · have := h2.lt _ h2.hp; omega
    · rcases hk with hk | hk
      · exact h3 k hk hk'
      · have := h2.lt k hk'; omega
    · rcases hk with hk | hk
      · exact .inl (h4 k hk)
      · exact .inr ⟨hk.1, by omega⟩
end Go.Proofs
end

section
open Go Go.Vc
namespace Go.Proofs

theorem grow_step {F : Nat → Prop} {H A C : Heap} (h1 : ExtP F H A) (h2 : ExtP (grow F H A) A C) : ExtP F H C := h1.trans' h2 (fun i hi => by
  rcases hi with hi | hi
  · exact .inr hi
  · exact .inl hi.1)
theorem grow_same {F : Nat → Prop} {A B C : Heap} (h0 : A.size ≤ B.size) (h1 : B.size ≤ C.size) : ∀ k, grow F A B k → grow F A C k := fun k hk => by
  rcases hk with hk | hk
  · exact .inl hk
  · exact .inr ⟨hk.1, by omega⟩
theorem grow_two {F : Nat → Prop} {A B C : Heap} (h0 : A.size ≤ B.size) (h1 : B.size ≤ C.size) : ∀ k, grow (grow F A B) B C k → grow F A C k := fun k hk => by
  rcases hk with (hk | hk) | hk
  · exact .inl hk
  · exact .inr ⟨hk.1, by omega⟩
  · exact .inr ⟨by omega, hk.2⟩

section
variable {H : Heap} {F : Nat → Prop} {pr pd : Nat} {J : Jn} {D : Dev} {n B : Nat}
theorem RJD.head (h : RJD H F pr pd J D) : ∃ new a c pos, Blk H pr (rcells pd J.h pos a new c J.dead) ∧ (J.dead = false → pos = J.used) := by
  obtain ⟨Fd, Fj, G, new, a, c, pos, h1, h2, _⟩ := h
  exact ⟨_, a, c, pos, h2.head, h2.pos⟩

theorem rsync_ok (h : RJD H F pr pd J D) (hw : D.Wf n B) (hB : B ≤ 900000000) :
    Does Tryz.prog 11 [.pointer (some ⟨pr, 0, none⟩)] H fun v H' => v = .int .i64 (syncM J D).2.2 ∧ RJD H' (grow F H H') pr pd (syncM J D).2.1 (syncM J D).1 ∧ ExtP F H H' := by
  have hlt := h.lt
  obtain ⟨_, _, _, _, hb, _⟩ := h.head
  refine Fn_of_vc Tryz.mixed (vc_rsync _ _ _) ?_
  refine ⟨pr, 0, rfl, J.dead, hb.cell 6, fun hd => ?_, fun hd => ?_⟩
  · have : syncM J D = (D, J, 4) := if_pos hd
    rw [this]
    exact ⟨rfl, h.up (fun _ => .inl) (grow_lt hlt (Nat.le_refl _)), ExtP.refl _ _⟩
  · have : syncM J D = ((flushD D).1, endsM J (flushD D).2, (flushD D).2) := if_neg (by simp [hd])
    rw [this]
    obtain ⟨Fd, Fj, G, new, a, c, pos, h1, h2, h3, h4, h5, h6⟩ := h
    refine ⟨pr, 0, rfl, _, h2.head.cell 0, (rdflush_ok h1 hw (by omega)).mono ?_⟩
    rintro _ H8 ⟨rfl, hd8, hx8⟩
    obtain ⟨hr8, hxF8⟩ := RJD.dstep h2 h3 h4 h5 h6 hd8 hx8
    refine ⟨_, rfl, (rdone_ok hr8 _).mono ?_⟩
    rintro _ H11 ⟨rfl, hr11, hx11⟩
    have e : (if @decide ((flushD D).2 = 0) (Classical.propDecidable _) = true then (0 : Int) else 4) = (flushD D).2 := by
      rcases flush_ret D with h | h <;> rw [h] <;> simp
    rw [e] at hr11 ⊢
    exact ⟨_, rfl, rfl, hr11.up (grow_same hx8.size hx11.size) (grow_lt hlt (by have := hx8.size; have := hx11.size; omega)), grow_step hxF8 hx11⟩

theorem rcheckpoint_ok (h : RJD H F pr pd J D) (hw : D.Wf n B) (hB : B ≤ 700000000) (hn : n ≤ 4096) (hj : J.Wf n) :
    Does Tryz.prog 13 [.pointer (some ⟨pr, 0, none⟩)] H fun v H' => v = .int .i64 (checkpointM n J D).2.2 ∧ RJD H' (grow F H H') pr pd (checkpointM n J D).2.1 (checkpointM n J D).1 ∧ ExtP F H H' := by
  have hlt := h.lt
  have hsz := hj.size
  obtain ⟨_, _, _, _, hb, _⟩ := h.head
  refine Fn_of_vc Tryz.mixed (vc_rcheckpoint _ _ _) ?_
  unfold checkpointM
  refine ⟨pr, 0, rfl, J.dead, hb.cell 6, fun hd => ?_, fun hd => ?_⟩
  · rw [if_pos hd]
    exact ⟨rfl, h.up (fun _ => .inl) (grow_lt hlt (Nat.le_refl _)), ExtP.refl _ _⟩
  rw [if_neg (by simp [hd])]
  rw [ckpt_home]
  obtain ⟨Fd, Fj, G, new, a, c, pos, h1, h2, h3, h4, h5, h6⟩ := h
  have hsame := h2.same
  refine ⟨pr, 0, rfl, _, h2.head.cell 0, (rdflush_ok h1 hw (by omega)).mono ?_⟩
  rintro _ H8 ⟨rfl, hd8, hx8⟩
  obtain ⟨hr8, hxF8⟩ := RJD.dstep h2 h3 h4 h5 h6 hd8 hx8
  refine ⟨_, rfl, fun he => ?_, fun hne => ?_⟩
  · rw [if_neg (by simp [he])]
    refine (rgohome_ok hr8 (flushWf hw) (by omega) hn hj).mono ?_
    rintro _ H11 ⟨rfl, hr11, hx11⟩
    refine ⟨_, rfl, (rdone_ok hr11 _).mono ?_⟩
    rintro _ H14 ⟨rfl, hr14, hx14⟩
    have hret : (homeM n J (flushD D).1).2.2 = 0 ∨ (homeM n J (flushD D).1).2.2 = 4 := by
      unfold homeM
      split
      · rw [goHome_goL hsame hj.took.2]
        exact goL_ret _ _ (homeM_valid hj hsame)
      · exact begin_ret (by omega)
    have e : (if decide ((homeM n J (flushD D).1).2.2 = 0) = true then (0 : Int) else 4) = (homeM n J (flushD D).1).2.2 := by
      rcases hret with h | h <;> rw [h] <;> simp
    rw [e] at hr14 ⊢
    have s8 := hx8.size
    have s11 := hx11.size
    have s14 := hx14.size
    exact ⟨_, rfl, rfl, hr14.up (fun k hk => grow_same (by omega) s14 k (grow_two s8 s11 k hk)) (grow_lt hlt (by omega)), grow_step (grow_step hxF8 hx11) (hx14.mono (fun k _ hk => grow_two s8 s11 k hk))⟩
  · rw [if_pos hne]
    refine (rdone_ok hr8 false).mono ?_
    rintro _ H17 ⟨rfl, hr17, hx17⟩
    have e : (flushD D).2 = 4 := by
      rcases flush_ret D with h | h
      · exact absurd h hne
      · exact h
    rw [e]
    exact ⟨_, rfl, rfl, hr17.up (grow_same hx8.size hx17.size) (grow_lt hlt (by have := hx8.size; have := hx17.size; omega)), grow_step hxF8 hx17⟩

theorem rread_ok (h : RJD H F pr pd J D) (hw : D.Wf n B) (hB : B ≤ 900000000) (hj : J.Wf n) (hn : n ≤ 4096) (k : Int) :
    Does Tryz.prog 27 [.pointer (some ⟨pr, 0, none⟩), .int .i64 k] H fun v H' => ∃ a c, RJD H' F pr pd (jreadM n k J D).1 D ∧ ExtP F H H' ∧ v = .tuple #[.slice a ((jreadM n k J D).2.1.getD []).length c, .int .i64 (jreadM n k J D).2.2] ∧
      SRow H' 1 ((jreadM n k J D).2.1.getD []).length (.slice a ((jreadM n k J D).2.1.getD []).length c) (bytesV ((jreadM n k J D).2.1.getD [])) := by
  have hsz := hj.size
  have hho := homeN_of hsz
  have hrj := h
  refine Fn_of_vc Tryz.mixed (vc_rread _ _ _ _) ?_
  have bad : ∀ e, (k < 0 ∨ homeN n J.h.size ≤ k) ∧ e = 1 ∨ ¬ (k < 0 ∨ homeN n J.h.size ≤ k) ∧ J.dead = true ∧ e = 4 → ∃ a c, RJD H F pr pd (jreadM n k J D).1 D ∧ ExtP F H H ∧ Value.tuple #[.slice none 0 0, .int .i64 e] = .tuple #[.slice a ((jreadM n k J D).2.1.getD []).length c, .int .i64 (jreadM n k J D).2.2] ∧
      SRow H 1 ((jreadM n k J D).2.1.getD []).length (.slice a ((jreadM n k J D).2.1.getD []).length c) (bytesV ((jreadM n k J D).2.1.getD [])) := by
    intro e he
    have : jreadM n k J D = (J, none, e) := by
      unfold jreadM
      rcases he with ⟨h1, rfl⟩ | ⟨h1, h2, rfl⟩
      · rw [if_pos h1]
      · rw [if_neg h1, if_pos h2]
    rw [this]
    exact ⟨none, 0, h, ExtP.refl _ _, rfl, rfl, rfl⟩
  refine ⟨fun h0 => bad 1 (.inl ⟨.inl h0, rfl⟩), fun h0 => (rhome_ok h hw hj).mono ?_⟩
  rintro _ _ ⟨rfl, rfl⟩
  refine ⟨_, rfl, fun h1 => bad 1 (.inl ⟨.inr h1, rfl⟩), fun h1 => ?_⟩
  have hin : ¬ (k < 0 ∨ homeN n J.h.size ≤ k) := by omega
  obtain ⟨Fd, Fj, G, new, a, c, pos, g1, g2, g3, g4, g5, g6⟩ := h
  refine ⟨pr, 0, rfl, J.dead, g2.head.cell 6, fun h2 => bad 4 (.inr ⟨hin, h2, rfl⟩), fun h2 => ?_⟩
  have hM : jreadM n k J D = match tGet J.taken k with
    | some x => (J, some x, 0)
    | none => if D.dead = true then (endsM J 4, none, 4) else (endsM J 0, D.now[(1 + J.h.size + k).toNat]?, 0) := by
    unfold jreadM; rw [if_neg hin, if_neg (by simp [h2])]; rfl
  rw [← g2.same.2 k] at hM
  have hlen := g2.same.len hj.took.2
  have hfew := hj.took.few (n := 4096) (by omega)
  refine ⟨fun i H' => H = H' ∧ ∃ q : Nat, i = q ∧ q ≤ new.length ∧ ∀ x ∈ new.take q, x.1 ≠ k, fun i _ => new.length - i.toNat, ⟨rfl, 0, rfl, by omega, by simp⟩, ?_⟩
  rintro _ _ ⟨rfl, q, rfl, hq, hno⟩
  refine ⟨pr, 0, rfl, a, _, c, g2.head.cell 5, fun hlt => ?_, fun hge => ?_⟩
  · have hqn : q < new.length := by omega
    have hi : new[q]? = some (new[q]'hqn) := List.getElem?_eq_getElem hqn
    have htk : new.take (q + 1) = new.take q ++ [new[q]'hqn] := by rw [List.take_add_one, hi]; rfl
    obtain ⟨bb, oo, v, ea, hc, ⟨a31, l32, c33, ev, hrow, _⟩, hfp⟩ := g2.seq.get hi
    have hsm := tGet_of_sorted g2.same.1 (List.getElem_mem hqn)
    generalize new[q]'hqn = w at *
    subst ev
    have hc0 := hc 0 _ rfl
    have hc1 := hc 1 _ rfl
    have hsz2 : writeE.sz = 2 := rfl
    rw [hsz2] at hc0 hc1
    have hl32 : w.2.length = l32 := by have := hrow.1; rw [bytesV_length] at this; omega
    refine ⟨pr, 0, rfl, a, _, c, g2.head.cell 5, by omega, hlt, bb, oo, ea, w.1, by rw [Int.toNat_natCast]; exact hc0, fun he => ?_, fun hne => ⟨⟨by omega, by omega⟩, ⟨rfl, q + 1, by omega, by omega, fun x hx => ?_⟩, by simp only []; omega⟩⟩
    · refine ⟨pr, 0, rfl, a, _, c, g2.head.cell 5, by omega, hlt, bb, oo, ea, a31, l32, c33, by rw [Int.toNat_natCast]; exact hc1, ?_⟩
      rw [← he, hsm] at hM
      simp only at hM
      rw [← he, hM]
      subst hl32
      exact ⟨a31, c33, hrj, ExtP.refl _ _, rfl, hrow⟩
    · rw [htk] at hx
      rcases List.mem_append.1 hx with hx | hx
      · exact hno x hx
      · simp only [List.mem_singleton] at hx; subst hx; exact hne
  · have hqe : q = new.length := by omega
    subst hqe
    rw [List.take_length] at hno
    have hnone : tGet new k = none := tGet_none (fun hk => by
      obtain ⟨w, hw, rfl⟩ := List.mem_map.1 hk
      exact hno w hw rfl)
    rw [hnone] at hM
    simp only at hM
    refine ⟨pr, 0, rfl, _, g2.head.cell 0, pr, 0, rfl, _, g2.head.cell 1, ⟨by omega, by omega⟩, ⟨by omega, by omega⟩, (rdread_ok g1 hw (by omega) (1 + J.h.size + k)).mono ?_⟩
    rintro _ _ ⟨rfl, ⟨hno', _⟩ | ⟨_, hdd, rfl⟩ | ⟨_, hdd, a42, c44, x, hx, rfl, _, hrow, _⟩⟩
    · omega
    · refine ⟨_, _, _, _, rfl, fun _ => (rdone_ok hrj false).mono ?_, fun h => absurd (by decide) h⟩
      rintro _ H47 ⟨rfl, hr47, hx47⟩
      rw [hM, if_pos hdd]
      exact ⟨_, rfl, none, 0, hr47, hx47, rfl, rfl, rfl⟩
    · refine ⟨_, _, _, _, rfl, fun h => absurd rfl h, fun _ => ?_⟩
      rw [hM, if_neg (by simp [hdd])]
      simp only [hx, Option.getD_some]
      have : endsM J 0 = J := by
        obtain ⟨p, q, r, d⟩ := J
        show (⟨p, q, r, d || decide ((0 : Int) = 4)⟩ : Jn) = _
        simp
      rw [this]
      exact ⟨a42, c44, hrj, ExtP.refl _ _, rfl, hrow⟩
end

theorem rformat_ok {H : Heap} {F : Nat → Prop} {pd : Nat} {D : Dev} {n B : Nat} (hd : IsRDev H F pd D) (hw : D.Wf n B) (hB : B ≤ 800000000) (hn : n ≤ 4096) (size : Int) :
    Does Tryz.prog 8 [.pointer (some ⟨pd, 0, none⟩), .int .i64 size] H fun v H' => v = .int .i64 (formatM n size D).2 ∧ IsRDev H' (grow F H H') pd (formatM n size D).1 ∧ ExtP F H H' := by
  have hlt := hd.lt
  have hl := hw.len
  refine Fn_of_vc Tryz.mixed (vc_rformat _ _ _ _) ?_
  have bad : homeN n size < 0 → Value.int .i64 1 = .int .i64 (formatM n size D).2 ∧ IsRDev H (grow F H H) pd (formatM n size D).1 ∧ ExtP F H H := fun h => by
    have : formatM n size D = (D, 1) := by unfold formatM; rw [if_pos h]
    rw [this]
    exact ⟨rfl, hd.up (fun _ => .inl) (grow_lt hlt (Nat.le_refl _)), ExtP.refl _ _⟩
  have hcell : ∃ ak ck, hcell H pd 0 = some (.slice ak n ck) := by
    obtain ⟨ak, ck, ap, cp, h1⟩ := hd
    exact ⟨ak, ck, by rw [← hl]; exact h1.head.cell 0⟩
  obtain ⟨ak, ck, hc0⟩ := hcell
  refine ⟨fun h1 => bad (by unfold homeN; rw [if_pos (.inl h1)]; decide), fun h1 => ⟨pd, 0, rfl, ak, n, ck, hc0, ⟨by omega, by omega⟩, fun h2 => bad (by unfold homeN; rw [if_pos (.inr (by omega))]; decide), fun h2 => ?_⟩⟩
  have hM : formatM n size D = (if (fmtW n size.toNat 0 D).2 ≠ 0 then fmtW n size.toNat 0 D else if (writeD (fmtW n size.toNat 0 D).1 n 0 (hdrB ⟨1, 1, size⟩)).2 ≠ 0 then writeD (fmtW n size.toNat 0 D).1 n 0 (hdrB ⟨1, 1, size⟩) else flushD (writeD (fmtW n size.toNat 0 D).1 n 0 (hdrB ⟨1, 1, size⟩)).1) := by
    unfold formatM
    rw [if_neg (by rw [homeN_of (by omega)]; omega)]
  rw [hM]
  refine ⟨fun i H' => ∃ (j : Nat) (D' : Dev), i = (j : Int) + 1 ∧ j ≤ size.toNat ∧ fmtW n size.toNat 0 D = fmtW n (size.toNat - j) j D' ∧ D'.Wf n (B + j) ∧ IsRDev H' (grow F H H') pd D' ∧ ExtP F H H', fun i _ => (size.toNat + 1) - i.toNat,
    ⟨0, D, rfl, by omega, rfl, hw, hd.up (fun _ => .inl) (grow_lt hlt (Nat.le_refl _)), ExtP.refl _ _⟩, ?_⟩
  rintro _ H9 ⟨j, D', rfl, hj, hf, hw', hd', hx'⟩
  have hs' := hx'.size
  refine ⟨fun h3 => ⟨by decide, by decide, by decide, fun b10 H11 hn11 => ?_⟩, fun h3 => ?_⟩
  · have e128 : Int.toNat 128 = 128 := rfl
    rw [e128] at hn11 ⊢
    have e8 := hn11.eq
    have hs11 := hn11.size
    have hel := new_elem hn11
    obtain ⟨a0, m0, c0, ev, _, hrow, _⟩ := hel
    cases ev
    have hX11 := hx'.trans hn11.ext.anyP
    refine (rdwrite_ok (hd'.ext hn11.ext.toP (by simp)) hw' (by omega) ((j : Int) + 1) (KeptB.of hrow (fun i hi hg => by
      simp only [blkOf, List.mem_singleton] at hi
      subst hi
      have := hd'.lt _ hg
      omega))).mono ?_
    rintro _ H13 ⟨rfl, hd13, hx13⟩
    have hs13 := hx13.size
    have hX13 : ExtP F H H13 := hX11.trans' hx13 (fun i hi => by
      rcases hi with hi | hi
      · exact .inr hi
      · exact .inl hi.1)
    have hd13' := hd13.up (F' := grow F H H13) (fun k hk => by
      rcases hk with (hk | hk) | hk
      · exact .inl hk
      · exact .inr ⟨hk.1, by omega⟩
      · exact .inr ⟨by omega, hk.2⟩) (grow_lt hlt (by omega))
    rw [show (j : Int) + 1 = 1 + j by omega] at *
    have hfj : fmtW n (size.toNat - j) j D' = if (writeD D' n (1 + (j : Int)) zeros).2 ≠ 0 then writeD D' n (1 + (j : Int)) zeros else fmtW n (size.toNat - (j + 1)) ((j + 1 : Nat) : Int) (writeD D' n (1 + (j : Int)) zeros).1 := by
      obtain ⟨m, hm⟩ : ∃ m, size.toNat - j = m + 1 := ⟨size.toNat - j - 1, by omega⟩
      rw [hm, fmtW, show size.toNat - (j + 1) = m by omega]; rfl
    refine ⟨_, rfl, fun hne => ?_, fun he => ⟨⟨by omega, by omega⟩, ⟨j + 1, _, by omega, by omega, ?_, (writeWf hw' (1 + (j : Int)) zeros).up (by omega), hd13', hX13⟩, by simp only []; omega⟩⟩
    · rw [hf, hfj, if_pos hne, if_pos hne]
      exact ⟨rfl, hd13', hX13⟩
    · rw [hf, hfj, if_neg he]
  · have : j = size.toNat := by omega
    subst this
    have hf0 : fmtW n size.toNat 0 D = (D', 0) := by rw [hf, Nat.sub_self]; rfl
    rw [hf0]
    simp only [ne_eq, not_true, if_false]
    refine (rheader_ok 1 1 size H9).mono ?_
    rintro _ H14 ⟨⟨a15, c17, rfl, ho14, hf14⟩, hx14⟩
    have hs14 := hx14.size
    refine ⟨_, _, _, rfl, (rdwrite_ok (hd'.ext hx14.toP (by simp)) hw' (by omega) 0 (KeptB.of (ho14.row _ c17) (fun i hi hg => by have := hf14 i hi; have := hd'.lt i hg; omega))).mono ?_⟩
    rintro _ H19 ⟨rfl, hd19, hx19⟩
    have hs19 := hx19.size
    have hX19 : ExtP F H H19 := (hx'.trans hx14.anyP).trans' hx19 (fun i hi => by
      rcases hi with hi | hi
      · exact .inr hi
      · exact .inl hi.1)
    have hd19' := hd19.up (F' := grow F H H19) (fun k hk => by
      rcases hk with (hk | hk) | hk
      · exact .inl hk
      · exact .inr ⟨hk.1, by omega⟩
      · exact .inr ⟨by omega, hk.2⟩) (grow_lt hlt (by omega))
    have hw19 := writeWf hw' 0 (hdrB ⟨1, 1, size⟩)
    refine ⟨_, rfl, fun hne => ?_, fun he => (rdflush_ok hd19' hw19 (by omega)).mono ?_⟩
    · rw [if_pos hne]
      exact ⟨rfl, hd19', hX19⟩
    · rintro _ H22 ⟨rfl, hd22, hx22⟩
      rw [if_neg he]
      exact ⟨_, rfl, rfl, hd22.up (grow_two (by omega) hx22.size) (grow_lt hlt (by have := hx22.size; omega)), grow_step hX19 hx22⟩
end Go.Proofs
end

section
open Go Go.Vc
namespace Go.Proofs

theorem mayP_iff (l : List Wr) (homes : Int) : MayP l homes ↔ l ≠ [] ∧ ∀ i (hi : i < l.length), (0 ≤ l[i].1 ∧ l[i].1 < homes ∧ l[i].2.length = 128) ∧ ∀ k (hk : k < i), l[k].1 ≠ l[i].1 := by
  unfold MayP
  constructor
  · rintro ⟨h1, h2, h3⟩
    refine ⟨h1, fun i hi => ⟨h2 _ (List.getElem_mem hi), fun k hk => ?_⟩⟩
    have := (List.pairwise_iff_getElem.1 h3) k i (by simp; omega) (by simpa using hi) hk
    simpa using this
  · rintro ⟨h1, h2⟩
    refine ⟨h1, fun w hw => ?_, ?_⟩
    · obtain ⟨i, hi, rfl⟩ := List.mem_iff_getElem.1 hw
      exact (h2 i hi).1
    · refine List.pairwise_iff_getElem.2 fun i j hi hj hij => ?_
      simp only [List.length_map] at hi hj
      have := (h2 j hj).2 i hij
      simpa using this

/-- The blocks of a transaction written, as the reference does. -/
theorem layW_step (n : Nat) (bs : List Octs) (u : Int) (D : Dev) {q : Nat} {D' : Dev} (h : layW n bs u D = layW n (bs.drop q) (u + q) D') (hq : q < bs.length) : layW n bs u D = if (writeD D' n (1 + (u + q)) bs[q]).2 ≠ 0 then ((writeD D' n (1 + (u + q)) bs[q]).1, u + q, (writeD D' n (1 + (u + q)) bs[q]).2) else layW n (bs.drop (q + 1)) (u + (q + 1 : Nat)) (writeD D' n (1 + (u + q)) bs[q]).1 := by
  rw [h, List.drop_eq_getElem_cons hq, layW]
  congr 2
  omega

set_option maxHeartbeats 2000000 in
theorem rcommit_ok {H : Heap} {F : Nat → Prop} {pr pd : Nat} {J : Jn} {D : Dev} {n B : Nat} (h : RJD H F pr pd J D) (hw : D.Wf n B) (hB : B ≤ 600000000) (hn : n ≤ 4096) (hj : J.Wf n) (hseq : J.h.seq ≤ 900000000000)
    {l : List Wr} {a : Option Addr} {c : Nat} (hk : KeptW F H a l) (hl : l.length ≤ 1000000) :
    Does Tryz.prog 24 [.pointer (some ⟨pr, 0, none⟩), .slice a l.length c] H fun v H' => v = .int .i64 (commitM n l J D).2.2 ∧ RJD H' (grow F H H') pr pd (commitM n l J D).2.1 (commitM n l J D).1 ∧ ExtP F H H' := by
  have hlt := h.lt
  have hsz := hj.size
  have hho := homeN_of hsz
  refine Fn_of_vc Tryz.mixed (vc_rcommit _ _ _ _ _ _) ?_
  have hstay : RJD H (grow F H H) pr pd J D := h.up (fun _ => .inl) (grow_lt hlt (Nat.le_refl _))
  have bad : ∀ {A : Heap}, H = A → ¬ MayP l (homeN n J.h.size) → Value.int .i64 1 = .int .i64 (commitM n l J D).2.2 ∧ RJD A (grow F H A) pr pd (commitM n l J D).2.1 (commitM n l J D).1 ∧ ExtP F H A := by
    rintro _ rfl hno
    have : commitM n l J D = (D, J, 1) := by unfold commitM; rw [if_pos (by simp [mayB, hno])]
    rw [this]
    exact ⟨rfl, hstay, ExtP.refl _ _⟩
  refine ⟨fun h0 => bad rfl (fun hm => hm.1 (by
    have : l.length = 0 := by omega
    exact List.length_eq_zero_iff.1 this)), fun h0 => ?_⟩
  let Ok : Nat → Prop := fun j => ∀ i (hi : i < l.length), i < j → (0 ≤ l[i].1 ∧ l[i].1 < homeN n J.h.size ∧ l[i].2.length = 128) ∧ ∀ k (hk : k < i), l[k].1 ≠ l[i].1
  refine ⟨fun i H' => H = H' ∧ ∃ j : Nat, i = j ∧ j ≤ l.length ∧ Ok j, fun i _ => l.length - i.toNat, ⟨rfl, 0, rfl, by omega, fun i hi h => by omega⟩, ?_⟩
  rintro _ _ ⟨rfl, j, rfl, hjl, hok⟩
  refine ⟨fun h1 => ?_, fun h1 => ?_⟩
  · have hjn : j < l.length := by omega
    have hi : l[j]? = some (l[j]'hjn) := List.getElem?_eq_getElem hjn
    obtain ⟨bb, oo, aa, cc, eaa, q0, q1, q2, _⟩ := hk.at_.wr hi
    have neg : ∀ {P : Prop}, (MayP l (homeN n J.h.size) → P) → ¬ P → ¬ MayP l (homeN n J.h.size) := fun h1 h2 h3 => h2 (h1 h3)
    have may1 : MayP l (homeN n J.h.size) → (0 ≤ (l[j]'hjn).1 ∧ (l[j]'hjn).1 < homeN n J.h.size ∧ (l[j]'hjn).2.length = 128) ∧ ∀ k (hk : k < j), (l[k]'(by omega)).1 ≠ (l[j]'hjn).1 := fun hm => ((mayP_iff l _).1 hm).2 j hjn
    refine ⟨by omega, h1, bb, oo, eaa, (l[j]'hjn).1, by rw [Int.toNat_natCast]; exact q0, fun h2 => bad rfl (fun hm => by have := (may1 hm).1.1; omega), fun h2 => ⟨by omega, h1, bb, oo, eaa, (l[j]'hjn).1, by rw [Int.toNat_natCast]; exact q0, (rhome_ok h hw hj).mono ?_⟩⟩
    rintro _ _ ⟨rfl, rfl⟩
    refine ⟨_, rfl, ⟨by rw [Int.toNat_natCast]; exact q0, trivial⟩, fun h3 => bad rfl (fun hm => by have := (may1 hm).1.2.1; omega), fun h3 => ⟨by omega, h1, bb, oo, eaa, aa, _, cc, by rw [Int.toNat_natCast]; exact q1, fun h4 => bad rfl (fun hm => by have := (may1 hm).1.2.2; omega), fun h4 => ?_⟩⟩
    refine ⟨fun i H' => H = H' ∧ ∃ q : Nat, i = q ∧ q ≤ j ∧ ∀ k (hk : k < q) (hk2 : k < l.length), l[k].1 ≠ (l[j]'hjn).1, fun i _ => j - i.toNat, ⟨rfl, 0, rfl, by omega, fun k hk => by omega⟩, ?_⟩
    rintro _ _ ⟨rfl, q, rfl, hq, hne⟩
    refine ⟨fun h5 => ?_, fun h5 => ⟨⟨by omega, by omega⟩, ⟨rfl, j + 1, by omega, by omega, fun i hi hij => ?_⟩, by simp only []; omega⟩⟩
    · have hqn : q < l.length := by omega
      have hiq : l[q]? = some (l[q]'hqn) := List.getElem?_eq_getElem hqn
      obtain ⟨b2, o2, a2, c2, ea2, p0, _⟩ := hk.at_.wr hiq
      refine ⟨by omega, by omega, b2, o2, ea2, (l[q]'hqn).1, by rw [Int.toNat_natCast]; exact p0, by omega, h1, bb, oo, eaa, (l[j]'hjn).1, by rw [Int.toNat_natCast]; exact q0, fun h6 => bad rfl (fun hm => (may1 hm).2 q (by omega) h6), fun h6 => ⟨⟨by omega, by omega⟩, ⟨rfl, q + 1, by omega, by omega, fun k hk hk2 => ?_⟩, by simp only []; omega⟩⟩
      by_cases e : k = q
      · subst e; exact h6
      · exact hne k (by omega) hk2
    · by_cases e : i = j
      · subst e
        exact ⟨⟨by omega, by omega, by omega⟩, fun k hk => hne k (by omega) (by omega)⟩
      · exact hok i hi (by omega)
  have hjl' : j = l.length := by omega
  subst hjl'
  have hm : MayP l (homeN n J.h.size) := (mayP_iff l _).2 ⟨fun h => h0 (by rw [h]; rfl), fun i hi => hok i hi hi⟩
  have hfew := hm.few (n := 4096) (by omega)
  have hfull := hm.full
  obtain ⟨_, _, _, _, hb, hps⟩ := h.head
  refine (rneeds_ok l.length H (by omega)).mono ?_
  rintro _ _ ⟨rfl, rfl⟩
  have hM : commitM n l J D = if J.dead = true then (D, J, 4) else if J.h.size < needsN l.length then (D, J, 5) else if J.h.size - J.used < needsN l.length then (if (checkpointM n J D).2.2 ≠ 0 then checkpointM n J D else layE n l (checkpointM n J D).2.1 (checkpointM n J D).1) else layE n l J D := by
    unfold commitM; rw [if_neg (by simp [mayB, hm])]
  rw [hM]
  refine ⟨_, rfl, pr, 0, rfl, J.dead, hb.cell 6, fun hd => ?_, fun hd => ⟨pr, 0, rfl, _, hb.cell 1, fun h3 => ?_, fun h3 => ?_⟩⟩
  · rw [if_pos hd]; exact ⟨rfl, hstay, ExtP.refl _ _⟩
  · rw [if_neg (by simp [hd]), if_pos h3]; exact ⟨rfl, hstay, ExtP.refl _ _⟩
  rw [if_neg (by simp [hd]), if_neg h3]
  -- behind the checkpoint, if one is needed
  refine ⟨fun H' => ∃ J1 D1, (if J.h.size - J.used < needsN l.length then (if (checkpointM n J D).2.2 ≠ 0 then checkpointM n J D else layE n l (checkpointM n J D).2.1 (checkpointM n J D).1) else layE n l J D) = layE n l J1 D1 ∧ RJD H' (grow F H H') pr pd J1 D1 ∧ ExtP F H H' ∧ D1.Wf n (B + 4100) ∧ J1.Wf n ∧ J1.h = J.h ∧ J1.dead = false ∧ needsN l.length ≤ J1.h.size - J1.used, (rfree_ok h hj hn hd).mono ?_, ?_⟩
  · rintro _ _ ⟨rfl, rfl⟩
    refine ⟨_, rfl, fun h4 => (rcheckpoint_ok h hw (by omega) hn hj).mono ?_, fun h4 => ⟨J, D, by rw [if_neg h4], hstay, ExtP.refl _ _, hw.up (by omega), hj, rfl, hd, by omega⟩⟩
    rintro _ H43 ⟨rfl, hr43, hx43⟩
    refine ⟨_, rfl, fun hne => ?_, fun he => ?_⟩
    · rw [if_pos h4, if_pos hne]; exact ⟨rfl, hr43, hx43⟩
    · have he' : (checkpointM n J D).2.2 = 0 := by simpa using he
      have ck := checkpoint_ok0 he'
      have ckh := checkpoint_h (n := n) (J := J) (D := D)
      exact ⟨_, _, by rw [if_pos h4, if_neg he], hr43, hx43, checkpoint_dwf hw hj hn, checkpoint_jwf hj, ckh, ck.2.2.2, by rw [ckh, ck.1]; omega⟩
  rintro H45 ⟨J1, D1, hE, hr45, hx45, hw45, hj1, hjh, hd1, hfit⟩
  rw [hE]
  rw [← hjh] at hsz
  have hs45 := hx45.size
  have hus := hj1.used
  have hsq := hj1.seq
  have hcn := needs_nat l
  obtain ⟨Fd, Fj, G, new, an, cn, pos, g1, g2, g3, g4, g5, g6⟩ := hr45
  have hpos := g2.pos hd1
  subst hpos
  have hlt45 : ∀ k, grow F H H45 k → k < H45.size := g6
  have hk45 : KeptW (grow F H H45) H45 a l := hk.go hx45
  refine ⟨pr, 0, rfl, _, g2.head.cell 2, pr, 0, rfl, _, g2.head.cell 3, (rblocks_ok J1.h.epoch J1.h.seq J1.h.size (by omega) hfull hk45.at_ (c := c)).mono ?_⟩
  rintro _ H53 ⟨a54, c56, rfl, hmy, hx53⟩
  have hhd : (⟨J1.h.epoch, J1.h.seq, J1.h.size⟩ : Hd) = J1.h := rfl
  rw [hhd] at hmy
  have hs53 := hx53.size
  have hll := laidB_len J1.h l
  have hlb : ∀ x ∈ laidB J1.h l, x.length = 128 := fun x hx => by
    unfold laidB at hx
    obtain ⟨i, hi, rfl⟩ := List.mem_map.1 hx
    exact jblk_len hfull (by simpa using hi)
  have g1' := g1.ext hx53.toP (by simp)
  have g2' := g2.extP (F' := Fj) hx53.toP (by simp) (fun _ h => h) (fun k hk => by have := g2.lt k hk; omega)
  refine ⟨_, _, _, rfl, ?_⟩
  unfold layE layM
  generalize hbs : laidB J1.h l = bs at *
  refine ⟨fun i H' => ∃ (q : Nat) (D' : Dev), i = q ∧ q ≤ bs.length ∧ layW n bs J1.used D1 = layW n (bs.drop q) (J1.used + q) D' ∧ D'.Wf n (B + 4100 + q) ∧ IsRDev H' (grow Fd H53 H') pd D' ∧ ExtP Fd H53 H', fun i _ => bs.length - i.toNat,
    ⟨0, D1, rfl, by omega, by simp, hw45, g1'.up (fun _ => .inl) (grow_lt (fun k hk => g1'.lt k hk) (Nat.le_refl _)), ExtP.refl _ _⟩, ?_⟩
  rintro _ H60 ⟨q, D', rfl, hq, hgo, hw', hd', hx60⟩
  have hs60 := hx60.size
  have hR60 := g2'.extP (F' := Fj) hx60 (fun k hk hk' => g3 k hk' hk) (fun _ h => h) (fun k hk => by have := g2'.lt k hk; omega)
  have hFd : ∀ k, Fd k → grow F H H45 k := g4
  have hX60 : ExtP (grow F H H45) H45 H60 := hx53.anyP.trans (hx60.mono (fun k _ hk => g4 k hk))
  refine ⟨fun h5 => ?_, fun h5 => ?_⟩
  · have hqn : q < bs.length := by omega
    have hi : bs[q]? = some (bs[q]'hqn) := List.getElem?_eq_getElem hqn
    have hst := layW_step n bs J1.used D1 hgo hqn
    obtain ⟨b67, o68, a69, c71, ea, hc, hcc, hrow, hfp⟩ := hmy.view.blk hi
    have hmy60 := hmy.extP hx60 (fun k _ h0 hk => by have := g1.lt k hk; omega)
    obtain ⟨b67', o68', a69', c71', ea', hc', _, hrow', hfp'⟩ := hmy60.view.blk hi
    rw [ea] at ea'
    cases ea'
    have hne67 : ¬ Fd b67 := fun hf => by
      obtain ⟨G', _, _, gl⟩ := hmy
      have := gl b67 (by rw [ea]; simp [blkOf])
      have := g1.lt _ hf; omega
    have hcc' := hcell_extP hc hx60 hne67
    rw [hc'] at hcc'
    cases hcc'
    have hfar : ∀ i ∈ blkOf a69, H45.size ≤ i := by
      obtain ⟨G', gs, gg, gl⟩ := hmy
      obtain ⟨b0, o0, u, e0, hc0, ⟨aa, m, cc, eu, _, _, _⟩, hf0⟩ := gs.get1 rfl hi
      cases eu
      rw [ea] at e0
      cases e0
      rw [hc] at hc0
      cases hc0
      exact fun i hi => (gg i (hf0 i hi)).1
    have hlb' := hlb _ (List.getElem_mem hqn)
    generalize bs[q]'hqn = x at *
    refine ⟨pr, 0, rfl, _, hR60.head.cell 0, pr, 0, rfl, _, hR60.head.cell 4, ⟨by omega, by omega⟩, ⟨by omega, by omega⟩, by omega, h5, b67, o68, ea, a69, _, c71, by rw [Int.toNat_natCast]; exact hc', ?_⟩
    rw [show 1 + J1.used + (q : Int) = 1 + (J1.used + q) by omega]
    refine (rdwrite_ok hd' hw' (by omega) (1 + (J1.used + q)) (KeptB.of hrow' (fun i hi hg => ?_))).mono ?_
    · have h7 := hfar i hi
      rcases hg with hg | hg
      · have := g1.lt i hg; omega
      · have := hfp i hi; omega
    rintro _ H73 ⟨rfl, hd73, hx73⟩
    have hs73 := hx73.size
    have hw73 := writeWf hw' (1 + (J1.used + q)) x
    have hd73' := hd73.up (grow_two (F := Fd) hs60 hs73) (grow_lt (fun k hk => g1'.lt k hk) (by omega))
    have hx73' := grow_step hx60 hx73
    refine ⟨_, rfl, fun hne => ?_, fun he => ?_⟩
    · rw [if_pos hne] at hst
      rw [hst]
      simp only [if_pos hne]
      obtain ⟨hr73, hxF73⟩ := RJD.dstep (F := grow F H H53) (J := J1) (D' := (writeD D' n (1 + (J1.used + q)) x).1) g2' g3 (fun k hk => grow_same hs45 hs53 k (g4 k hk)) (fun k hk => grow_same hs45 hs53 k (g5 k hk)) (grow_lt hlt (by omega)) hd73' hx73'
      refine (rdone_ok hr73 false).mono ?_
      rintro _ H76 ⟨rfl, hr76, hx76⟩
      have hs76 := hx76.size
      have e4 : (writeD D' n (1 + (J1.used + q)) x).2 = 4 := by
        rcases write_ret (D := D') (n := n) (k := 1 + (J1.used + q)) (b := x) ⟨by omega, by omega⟩ hlb' with h | h
        · exact absurd h hne
        · exact h
      rw [e4]
      have hr76' : RJD H76 (grow F H H76) pr pd (endsM { J1 with used := J1.used + q } 4) (writeD D' n (1 + (J1.used + q)) x).1 := by
        have hr := hr76.up (F' := grow F H H76) (fun k hk => grow_same (by omega) hs76 k (grow_two (by omega) (by omega) k hk)) (grow_lt hlt (by omega))
        obtain ⟨a1, a2, a3, a4, a5, a6, a7, r1, r2, r3⟩ := hr
        exact ⟨a1, a2, a3, a4, a5, a6, a7, r1, ⟨r2.head, r2.seq, r2.same, fun hf => absurd hf (by show ¬ ((J1.dead || decide ((4 : Int) = 4)) = false); simp), r2.hp, r2.hG, r2.ha, r2.lt⟩, r3⟩
      refine ⟨_, rfl, rfl, hr76', ?_⟩
      have hxx : ExtP F H H53 := hx45.trans hx53.anyP
      exact grow_step (grow_step hxx hxF73) (hx76.mono (fun k _ hk => grow_two (by omega) (by omega) k hk) |>.mono (fun k _ hk => hk))
    · rw [if_neg he] at hst
      exact ⟨⟨by omega, by omega⟩, ⟨q + 1, _, by omega, by omega, by rw [hst], hw73.up (by omega), hd73', hx73'⟩, by simp only []; omega⟩
  · have hqe : q = bs.length := by omega
    subst hqe
    rw [List.drop_eq_nil_of_le (by omega), layW] at hgo
    rw [hgo]
    simp only [ne_eq, not_true, if_false]
    refine ⟨pr, 0, rfl, _, hR60.head.cell 4, ⟨by omega, by omega⟩, pr, 0, rfl, hR60.head.cells 1 4 (by simp [rcells]), fun H83 hp83 => ?_⟩
    obtain ⟨hR83, hx83⟩ := hR60.poke (J' := { J1 with used := J1.used + needsN l.length }) (pos' := J1.used + needsN l.length) hp83 (by decide) (by simp [rcells]) rfl (fun _ => rfl)
    refine ⟨pr, 0, rfl, _, hR83.head.cell 3, ⟨by show _ ≤ J1.h.seq + 1; omega, by show J1.h.seq + 1 ≤ _; omega⟩, pr, 0, rfl, hR83.head.cells 1 3 (by simp [rcells]), fun H89 hp89 => ?_⟩
    obtain ⟨hR89, hx89⟩ := hR83.poke (J' := { J1 with used := J1.used + needsN l.length, h := { J1.h with seq := J1.h.seq + 1 } }) (pos' := J1.used + needsN l.length) hp89 (by decide) (by simp [rcells]) rfl (fun _ => rfl)
    have hx6089 : Ext [pr] H60 H89 := hx83.trans hx89
    have hs89 : H89.size = H60.size := by rw [hp89.size, hp83.size]
    have hpr : Fj pr := g2.hp
    have hd89 : IsRDev H89 (grow Fd H53 H60) pd D' := hd'.ext hx6089.toP (fun k hk hk' => by
      simp only [List.mem_singleton] at hk'; subst hk'
      rcases hk with hk | hk
      · exact g3 _ hk hpr
      · have := g2'.lt _ hpr; omega)
    have hX89 : ExtP (grow F H H45) H45 H89 := hX60.trans (hx6089.lift (fun k _ hk => by simp only [List.mem_singleton] at hk; subst hk; exact g5 _ hpr))
    have hneed : needsN l.length = bs.length := by omega
    refine ⟨fun i H' => ∃ (q : Nat) (Fj' G' : Nat → Prop) (new' : List Wr) (a' : Option Addr) (c' : Nat), i = q ∧ q ≤ l.length ∧ new'.length ≤ 4096 + q ∧ RJn H' Fj' pr pd { J1 with used := J1.used + bs.length, taken := tAll J1.taken (l.take q), h := { J1.h with seq := J1.h.seq + 1 } } G' new' a' c' (J1.used + bs.length) ∧ (∀ k, Fj' k → Fj k ∨ (H60.size ≤ k ∧ k < H'.size)) ∧ ExtP (fun k => k = pr) H89 H', fun i _ => l.length - i.toNat,
      ⟨0, Fj, G, new, an, cn, rfl, by omega, by have := g2.same.len hj1.took.2; have := hj1.took.few (n := 4096) (by rw [hjh, hho]; omega); omega, by rw [hneed] at hR89; simpa [tAll] using hR89, fun k hk => .inl hk, ExtP.refl _ _⟩, ?_⟩
    rintro _ H93 ⟨q, Fj', G', new', a', c', rfl, hql, hnl, hR93, hFj', hx93⟩
    have hs93 := hx93.size
    have hX93 : ExtP (grow F H H45) H45 H93 := hX89.trans (hx93.mono (fun k _ hk => by subst hk; exact g5 _ hpr))
    refine ⟨fun h6 => ?_, fun h6 => ?_⟩
    · have hqn : q < l.length := by omega
      have hi : l[q]? = some (l[q]'hqn) := List.getElem?_eq_getElem hqn
      have htk : l.take (q + 1) = l.take q ++ [l[q]'hqn] := by rw [List.take_add_one, hi]; rfl
      obtain ⟨bb, oo, aa, cc, eaa, q0, q1, q2, _⟩ := (hk45 H93 hX93).wr hi
      have hw128 := hfull _ (List.getElem_mem hqn)
      generalize l[q]'hqn = w at *
      refine ⟨pr, 0, rfl, a', _, c', hR93.head.cell 5, by omega, h6, bb, oo, eaa, w.1, by rw [Int.toNat_natCast]; exact q0, by omega, h6, bb, oo, eaa, aa, _, cc, by rw [Int.toNat_natCast]; exact q1, fun b107 H108 hn108 => ?_⟩
      have e107 := hn108.eq
      have s108 := hn108.size
      have hx108 := hn108.ext
      have hoe : Own H108 1 (some ⟨b107, 0, none⟩) 0 0 ([] : List Value) := Own.of_new (size := 1) (len := 0) (cap := 0) hn108.blk rfl (Nat.le_refl _) (by decide)
      have hR108 := hR93.extP (F' := Fj') hx108.toP (by simp) (fun _ h => h) (fun k hk => by have := hR93.lt k hk; omega)
      refine ⟨⟨by rw [Int.toNat_natCast]; exact hcell_ext q1 hx108 (by simp), trivial⟩, ⟨by rw [Int.toNat_natCast]; exact hcell_ext q0 hx108 (by simp), trivial⟩, ⟨hR108.head.cell 5, trivial⟩, [], bytesV w.2, hoe.row 0 0, q2.ext hx108 (by simp), bytesV_one _, by omega, fun hle => by omega, fun a111 c112 H113 happ => ?_⟩
      obtain ⟨p1, p2, p3⟩ := happ.own hoe (hoe.row 0 0) (by rw [bytesV_length]; omega) rfl
      rw [Nat.zero_add, List.nil_append] at p1
      have hx113 : Ext [] H93 H113 := ext_new hx108 p2 (fun i hi => by simp only [blkOf, List.mem_singleton] at hi; omega)
      have hs113 := hx113.size
      have hf111 : ∀ i ∈ blkOf a111, H93.size ≤ i := fun i hi => by
        rcases p3 i hi with h' | h'
        · simp only [blkOf, List.mem_singleton] at h'; omega
        · omega
      have hR113 := hR93.extP (F' := fun k => Fj' k ∨ k ∈ blkOf a111) hx113.toP (by simp) (fun _ h => .inl h) (fun k hk => by
        rcases hk with hk | hk
        · have := hR93.lt k hk; omega
        · exact p1.lt k hk)
      have hput := rput_ok (w := w) (a1 := a111) (l1 := w.2.length) (c1 := c112) (hR113.seq.mono (G' := fun k => G' k ∨ k ∈ blkOf a111) (fun _ _ h => .inl h)) (by omega) (fun k hk => by
        rcases hk with hk | hk
        · have := hR93.lt k (hR93.hG k hk).1; omega
        · exact p1.lt k hk) ⟨a111, w.2.length, c112, rfl, p1.row _ _, p1.lt⟩ (fun k hk => .inr hk)
      refine ⟨⟨by rw [Int.toNat_natCast]; exact hcell_ext q0 hx113 (by simp), trivial⟩, ⟨hR113.head.cell 5, trivial⟩, ?_⟩
      rw [Nat.zero_add w.2.length]
      refine hput.mono ?_
      rintro _ H115 ⟨a116, c118, rfl, hseq115, hx115, hf115⟩
      have hs115 := hx115.size
      have hh115 := hR113.head.ext hx115 (by simp)
      refine ⟨_, _, _, rfl, pr, 0, rfl, hh115.cells 1 5 (by simp [rcells]), fun H121 hp121 => ?_⟩
      have hb121 := hp121.blk hh115 (by simp [rcells])
      have hs121 := hp121.size
      have hprlt : pr < H60.size := by have := g2.lt _ hpr; omega
      refine ⟨⟨by omega, by omega⟩, ⟨q + 1, fun k => Fj' k ∨ k ∈ blkOf a111 ∨ k ∈ blkOf a116, fun k => G' k ∨ k ∈ blkOf a111, putM new' w, a116, c118, by omega, by omega, by have := putM_len w new'; omega, ⟨by simpa [splice, rcells] using hb121, hseq115.extP hp121.ext.toP (fun k hk hk' => ?_) (fun k hk hk' => ?_), ?_, fun _ => rfl, .inl hR93.hp, fun k hk => ?_, fun k hk => ?_, fun k hk => ?_⟩, fun k hk => ?_, hx93.trans ((hx113.trans hx115).anyP.trans (hp121.ext.lift (fun k _ hk => by simpa using hk)))⟩, by simp only []; omega⟩
      · simp only [List.mem_singleton] at hk'; subst hk'
        have := hf115 _ hk; omega
      · simp only [List.mem_singleton] at hk'; subst hk'
        rcases hk with hk | hk
        · exact (hR93.hG _ hk).2.1 rfl
        · have := hf111 _ hk; omega
      · show Same (tAll J1.taken (l.take (q + 1))) (putM new' w)
        rw [htk, tAll_snoc]
        exact hR93.same.put w
      · rcases hk with hk | hk
        · have h7 := hR93.hG k hk
          exact ⟨.inl h7.1, h7.2.1, fun hm => by have := hf115 k hm; have := hR93.lt k h7.1; omega⟩
        · exact ⟨.inr (.inl hk), fun e => by have := hf111 k hk; omega, fun hm => by have := hf115 k hm; have := p1.lt k hk; omega⟩
      · exact ⟨.inr (.inr hk), fun e => by have := hf115 k hk; omega⟩
      · rw [hs121]
        rcases hk with hk | hk | hk
        · have := hR93.lt k hk; omega
        · have := p1.lt k hk; omega
        · exact hseq115.lt k hk
      · rw [hs121]
        rcases hk with hk | hk | hk
        · rcases hFj' k hk with h7 | h7
          · exact .inl h7
          · exact .inr ⟨h7.1, by omega⟩
        · exact .inr ⟨by have := hf111 k hk; omega, by have := p1.lt k hk; omega⟩
        · exact .inr ⟨by have := hf115 k hk; omega, hseq115.lt k hk⟩
    · have hqe : q = l.length := by omega
      subst hqe
      rw [List.take_length] at hR93
      have hend : endsM { J1 with used := J1.used + bs.length, taken := tAll J1.taken l, h := { J1.h with seq := J1.h.seq + 1 } } 0 = { J1 with used := J1.used + bs.length, taken := tAll J1.taken l, h := { J1.h with seq := J1.h.seq + 1 } } := by
        show (⟨_, _, _, J1.dead || decide ((0 : Int) = 4)⟩ : Jn) = _
        simp
      rw [hend]
      have hX : ExtP F H H93 := grow_step hx45 hX93
      refine ⟨trivial, ⟨grow Fd H53 H60, Fj', G', new', a', c', _, hd89.ext hx93 (fun k hk hk' => ?_), hR93, fun k hk hk' => ?_, fun k hk => ?_, fun k hk => ?_, grow_lt hlt (by omega)⟩, hX⟩
      · subst hk'
        rcases hk with hk | hk
        · exact g3 _ hk hpr
        · have := g2'.lt _ hpr; omega
      · rcases hFj' k hk' with h7 | h7
        · rcases hk with hk | hk
          · exact g3 k hk h7
          · have := g2'.lt k h7; omega
        · rcases hk with hk | hk
          · have := g1.lt k hk; omega
          · omega
      · rcases hk with hk | hk
        · exact grow_same hs45 (by omega) k (g4 k hk)
        · exact .inr ⟨by omega, by omega⟩
      · rcases hFj' k hk with h7 | h7
        · exact grow_same hs45 (by omega) k (g5 k h7)
        · exact .inr ⟨by omega, by omega⟩
end Go.Proofs
end

