/-
  The law JournalPlays is true and changes nothing that was there, whatever the input. No condition.
-/
import Derived.Test.YtmijngnbbpilmaaGreatRfB
import Derived.Test.YtmijngnbbpilmaaGreatVd
import Derived.Test.YtmijngnbbpilmaaGreatRows
import Derived.WalkKit
import Derived.ProofKit
import Derived.OpenShut
import Derived.ShutString
import Derived.ChangeOld
import Derived.Below

section
open Go Go.Vc
namespace Go.Proofs

/-- A step, as it is read. -/
abbrev StepR : Rd := KAll [(1, KInt .i64), (1, KInt .i64), (1, KInts .i64), (1, KBytes)]
theorem step_at {H : Heap} {a : Option Addr} {len cap : Nat} (h : KSlice 4 StepR H [.slice a len cap]) {j : Nat} (hj : j < len) :
    ∃ b o what n, ∃ (pa : Option Addr) (la ca : Nat) (ats : List Int) (pm : Option Addr) (lm cm : Nat) (ms : List UInt8), a = some ⟨b, o, none⟩ ∧ hcell H b (o + j * 4) = some (.int .i64 what) ∧ hcell H b (o + j * 4 + 1) = some (.int .i64 n) ∧ hcell H b (o + j * 4 + 1 + 1) = some (.slice pa la ca) ∧ hcell H b (o + j * 4 + 1 + 1 + 1) = some (.slice pm lm cm) ∧
      SRow H 1 la (.slice pa la ca) (ints ats) ∧ la ≤ maxLen ∧ SRow H 1 lm (.slice pm lm cm) (bytesV ms) ∧ lm ≤ maxLen := by
  obtain ⟨a', len', cap', rows, e, h1, h2, h3, h4, h5⟩ := h
  simp only [List.cons.injEq, Value.slice.injEq, and_true] at e
  obtain ⟨rfl, rfl, rfl⟩ := e
  have hi : rows[j]? = some (rows[j]'(by omega)) := List.getElem?_eq_getElem (by omega)
  obtain ⟨b, o, rfl, hc⟩ := kslice_at h3 h4 (by decide) hi
  have hr := h5 _ (List.getElem_mem (by omega : j < rows.length))
  have hl := h3 _ (List.getElem_mem (by omega : j < rows.length))
  generalize rows[j]'(by omega) = r at *
  match r, hl with
  | [v0, v1, v2, v3], _ =>
    obtain ⟨_, ⟨x, e0, _⟩, _, ⟨n, e1, _⟩, _, ⟨pa, la, ca, ats, e2, g1, g2, g3, _⟩, _, ⟨pm, lm, cm, ms, e3, k1, k2, k3⟩, _⟩ := hr
    cases e0; cases e1; cases e2; cases e3
    exact ⟨b, o, x, n, pa, la, ca, ats, pm, lm, cm, ms, rfl, hc 0 _ rfl, hc 1 _ rfl, hc 2 _ rfl, hc 3 _ rfl, g3, g2, k3, k2⟩

theorem JD.fuse {H : Heap} {F : Nat → Prop} {pj pd : Nat} {J : Jn} {D : Dev} (h : JD H F pj pd J D) (k : Int) :
    Does Tryz.prog 19 [.pointer (some ⟨pd, 0, none⟩), .int .i64 k] H fun v H' => v = .tuple #[] ∧ JD H' F pj pd J { D with fuse := max k (-1) } ∧ ExtP F H H' := by
  obtain ⟨Fd, Fj, r, l, hd, hJ, hdis, hfd, hfj, hlt⟩ := h
  refine (dfuse_ok hd k).mono ?_
  rintro _ H' ⟨rfl, hd', hx⟩
  have hs := hx.size
  exact ⟨rfl, ⟨Fd, Fj, r, l, hd', hJ.extP hx (fun k hk hk' => hdis k hk' hk) (fun _ h => h) (fun k hk => by have := hJ.lt k hk; omega), hdis, hfd, hfj, fun k hk => by have := hlt k hk; omega⟩, hx.mono (fun k _ hk => hfd k hk)⟩
theorem RJD.fuse {H : Heap} {F : Nat → Prop} {pj pd : Nat} {J : Jn} {D : Dev} (h : RJD H F pj pd J D) (k : Int) :
    Does Tryz.prog 20 [.pointer (some ⟨pd, 0, none⟩), .int .i64 k] H fun v H' => v = .tuple #[] ∧ RJD H' F pj pd J { D with fuse := max k (-1) } ∧ ExtP F H H' := by
  obtain ⟨Fd, Fj, G, new, a, c, pos, hd, hJ, hdis, hfd, hfj, hlt⟩ := h
  refine (rdfuse_ok hd k).mono ?_
  rintro _ H' ⟨rfl, hd', hx⟩
  have hs := hx.size
  rw [Int.max_comm] at hd'
  exact ⟨rfl, ⟨Fd, Fj, G, new, a, c, pos, hd', hJ.extP hx (fun k hk hk' => hdis k hk' hk) (fun _ h => h) (fun k hk => by have := hJ.lt k hk; omega), hdis, hfd, hfj, fun k hk => by have := hlt k hk; omega⟩, hx.mono (fun k _ hk => hfd k hk)⟩

theorem open_new {n z : Nat} (hzn : 4 ≤ z ∧ z + 4 ≤ n) (hn : n ≤ 4096) : ∃ J, openM n (formatM n z (newD n)).1 = ((openM n (formatM n z (newD n)).1).1, some J, 0) := by
  obtain ⟨k1, K, k2, k3, k4⟩ := format_sure hzn hn
  rcases open_cases k4 k2 rfl (by omega) with ⟨J, e, g1, _⟩ | ⟨_, g2, _⟩
  · exact ⟨J, g1⟩
  · exact absurd k3 g2

theorem openz_ok (H : Heap) {n z : Nat} (hzn : 4 ≤ z ∧ z + 4 ≤ n) (hn : n ≤ 4096) {J : Jn} (hJ : openM n (formatM n z (newD n)).1 = ((openM n (formatM n z (newD n)).1).1, some J, 0)) :
    Does Tryz.prog 5 [.int .i64 n, .int .i64 z] H fun v H' => ∃ pj pd, v = .tuple #[.pointer (some ⟨pj, 0, none⟩), .pointer (some ⟨pd, 0, none⟩)] ∧ JD H' (fun k => H.size ≤ k ∧ k < H'.size) pj pd J (openM n (formatM n z (newD n)).1).1 ∧ Ext [] H H' := by
  refine Fn_of_vc Tryz.mixed (vcl_open _ _ _ _) ?_
  refine (dnew_ok n H).mono ?_
  rintro _ H2 ⟨hx2, ⟨h1, _⟩ | ⟨_, pd, rfl, hd2⟩⟩
  · omega
  rw [Int.toNat_natCast] at hd2
  have hw1 := format_dwf (newWf (n := n) (by omega)) hn z
  refine ⟨_, _, rfl, fun h => absurd rfl h, fun _ => ⟨fun h => (by cases h), fun _ => (format_ok hd2 (newWf (by omega)) (by omega) hn z).mono ?_⟩⟩
  rintro _ H6 ⟨rfl, hd6, hx6⟩
  have k1 := (format_sure hzn hn).1
  refine ⟨_, rfl, fun h => absurd k1 h, fun _ => (open_ok hd6 hw1 (by omega) hn (by omega)).mono ?_⟩
  rintro _ H9 ⟨⟨e, h1, _⟩ | ⟨pj, J', h1, rfl, hjd⟩, hx9⟩
  · rw [hJ] at h1
    simp only [Prod.mk.injEq] at h1
    exact absurd h1.2.1 (by simp)
  · rw [hJ] at h1
    simp only [Prod.mk.injEq, Option.some.injEq, true_and, and_true] at h1
    subst h1
    have s2 := hx2.size
    have s6 := hx6.size
    have s9 := hx9.size
    have hl2 : ∀ k, grow none_ H H2 k → H.size ≤ k ∧ k < H2.size := fun k hk => by
      rcases hk with hk | hk
      · exact hk.elim
      · exact hk
    have hl6 : ∀ k, grow (grow none_ H H2) H2 H6 k → H.size ≤ k ∧ k < H6.size := fun k hk => by
      rcases hk with hk | hk
      · have := hl2 k hk; omega
      · omega
    exact ⟨_, _, rfl, fun h => absurd rfl h, fun _ => ⟨fun h => (by cases h), fun _ => ⟨pj, pd, rfl, hjd.up (fun k hk => by
      rcases hk with hk | hk
      · have := hl6 k hk; exact ⟨by omega, by omega⟩
      · exact ⟨by omega, by omega⟩) (fun k hk => hk.2), (hx2.transP hx6 (fun k hk => (hl2 k hk).1)).transP hx9 (fun k hk => (hl6 k hk).1)⟩⟩⟩

theorem jread_keep {n : Nat} {k : Int} {J : Jn} {D : Dev} (hj : J.Wf n) : (jreadM n k J D).1.Wf n ∧ (jreadM n k J D).1.h = J.h := by
  unfold jreadM
  split
  · exact ⟨hj, rfl⟩
  split
  · exact ⟨hj, rfl⟩
  split
  · exact ⟨hj, rfl⟩
  split
  · exact ⟨hj.ends _, rfl⟩
  · exact ⟨hj.ends _, rfl⟩

set_option maxHeartbeats 8000000 in
theorem jplays_law (H : Heap) (x0 : Int) (_ : (Lit.int .i64 x0).wf = true) (x1 : Int) (_ : (Lit.int .i64 x1).wf = true) (a : Option Addr) (len cap : Nat) (hs : KSlice 4 StepR H [.slice a len cap]) : Does Tryz.prog 3 [.int .i64 x0, .int .i64 x1, .slice a len cap] H fun v H' => v = .bool true ∧ Ext [] H H' := by
  refine Fn_of_vc Tryz.mixed (vcl_plays _ _ _ _ _ _ _) ?_
  refine (pick_ok x1 14 H (by decide) (by decide)).mono ?_
  rintro _ _ ⟨rfl, rfl⟩
  have a0 := Int.emod_nonneg x1 (show (14 : Int) ≠ 0 by decide)
  have a1 := Int.emod_lt_of_pos x1 (show (0 : Int) < 14 by decide)
  obtain ⟨z, hz, hz4⟩ : ∃ z : Nat, 4 + x1 % 14 = z ∧ 4 ≤ z ∧ z < 18 := ⟨(4 + x1 % 14).toNat, by omega, by omega, by omega⟩
  refine ⟨_, rfl, ?_⟩
  rw [hz]
  refine ⟨⟨by omega, by omega⟩, ⟨by omega, by omega⟩, (pick_ok x0 10 H (by decide) (by decide)).mono ?_⟩
  rintro _ _ ⟨rfl, rfl⟩
  have b0 := Int.emod_nonneg x0 (show (10 : Int) ≠ 0 by decide)
  have b1 := Int.emod_lt_of_pos x0 (show (0 : Int) < 10 by decide)
  obtain ⟨n, hn, hn4⟩ : ∃ n : Nat, (z : Int) + 4 + x0 % 10 = n ∧ z + 4 ≤ n ∧ n < 40 := ⟨((z : Int) + 4 + x0 % 10).toNat, by omega, by omega, by omega⟩
  refine ⟨_, rfl, ?_⟩
  rw [hn]
  refine ⟨⟨by omega, by omega⟩, fun m H' => m = (n : Int) ∧ H = H', ⟨fun h => by omega, fun _ => ⟨rfl, rfl⟩⟩, ?_⟩
  rintro _ _ ⟨rfl, rfl⟩
  have hzn : 4 ≤ z ∧ z + 4 ≤ n := by omega
  have hn' : n ≤ 4096 := by omega
  obtain ⟨J0, hJ0⟩ := open_new hzn hn'
  refine (openz_ok H hzn hn' hJ0).mono ?_
  rintro _ H11 ⟨pj0, pd, rfl, hjd11, hx11⟩
  refine ⟨_, _, rfl, (known_ok H11).mono ?_⟩
  rintro _ H15 ⟨rfl, hx15⟩
  refine ⟨_, rfl, fun h => (by cases h), fun _ => ⟨fun h => (by cases h), fun _ => ⟨fun h => (by cases h), fun _ => ?_⟩⟩⟩
  refine (rdnew_ok n H15 (by omega)).mono ?_
  rintro _ H18 ⟨hx18, py, rfl, hd18⟩
  refine ⟨_, rfl, (rformat_ok hd18 (newWf (by omega)) (by omega) hn' z).mono ?_⟩
  rintro _ H21 ⟨rfl, hd21, hx21⟩
  have hw1 := format_dwf (newWf (n := n) (by omega)) hn' z
  have hs1 : HS 1 (formatM n z (newD n)).1 := (new_hs 1 n).format (Int.le_refl _)
  refine ⟨_, rfl, (ropen_ok hd21 hw1 (by omega) hn' (by omega) (fun hr => by have := hs1.read hr; omega)).mono ?_⟩
  rintro _ H24 ⟨⟨e, h1, _⟩ | ⟨pr0, J', h1, rfl, hrj24⟩, hx24⟩
  · rw [hJ0] at h1
    simp only [Prod.mk.injEq] at h1
    exact absurd h1.2.1 (by simp)
  rw [hJ0] at h1
  simp only [Prod.mk.injEq, Option.some.injEq, true_and, and_true] at h1
  subst h1
  have hjw0 := open_jn (n := n) (D := (formatM n z (newD n)).1) (J := J0) (by rw [hJ0])
  have hw2 := open_dwf hw1 hn'
  have hs2 := hs1.open_ (n := n) (Int.le_refl _)
  generalize (openM n (formatM n z (newD n)).1).1 = D0 at *
  have s11 := hx11.size
  have s15 := hx15.size
  have s18 := hx18.size
  have s21 := hx21.size
  have s24 := hx24.size
  have hl18 : ∀ k, grow none_ H15 H18 k → H15.size ≤ k ∧ k < H18.size := fun k hk => by
    rcases hk with hk | hk
    · exact hk.elim
    · exact hk
  have hl21 : ∀ k, grow (grow none_ H15 H18) H18 H21 k → H15.size ≤ k ∧ k < H21.size := fun k hk => by
    rcases hk with hk | hk
    · have := hl18 k hk; omega
    · omega
  have hX24 : Ext [] H11 H24 := hx15.trans ((hx18.transP hx21 (fun k hk => (hl18 k hk).1)).transP hx24 (fun k hk => (hl21 k hk).1))
  have h24 : JnTwo H H24 (fun k => H.size ≤ k ∧ k < H11.size) (fun k => H15.size ≤ k ∧ k < H24.size) pj0 pd pr0 py J0 D0 n 20000 100 :=
    ⟨⟨fun k hk hk' => by omega, fun k hk => by omega, fun k hk => by omega, hx11.trans hX24⟩, hjd11.ext hX24.toP (by simp), hrj24.up (fun k hk => by
      rcases hk with hk | hk
      · have := hl21 k hk; exact ⟨by omega, by omega⟩
      · exact ⟨by omega, by omega⟩) (fun k hk => hk.2), hw2.up (by omega), hjw0.1, hs2.up (by omega), by rw [hjw0.2]; omega⟩
  clear hx24 hrj24 hX24 hjd11 hx21 hd21 hd18
  refine ⟨_, _, rfl, fun p q i H' => ∃ (j : Nat) (F G : Nat → Prop) (pj pr : Nat) (J : Jn) (D : Dev), p = some ⟨pj, 0, none⟩ ∧ q = some ⟨pr, 0, none⟩ ∧ i = j ∧ j ≤ 30 ∧ JnTwo H H' F G pj pd pr py J D n (20000 + 200000 * j) (100 + j),
    fun _ _ i _ => 30 - i.toNat, ⟨0, _, _, pj0, pr0, J0, D0, rfl, rfl, rfl, by omega, h24⟩, ?_⟩
  clear h24
  rintro _ _ _ H32 ⟨j, F, G, pj, pr, J, D, rfl, rfl, rfl, hj30, h32⟩
  refine ⟨fun h1 => ⟨fun h2 => ?_, fun h2 => ⟨rfl, h32.side.ext⟩⟩, fun h1 => ⟨rfl, h32.side.ext⟩⟩
  obtain ⟨b, o, what, N, pa, la, ca, ats, pm, lm, cm, ms, ea, c0, c1, c2, c3, hat, hla, hms, hlm⟩ := step_at hs (j := j) (by omega)
  have hX32 := h32.side.ext
  refine ⟨by omega, h1, b, o, ea, what, by rw [Int.toNat_natCast]; exact hcell_ext c0 hX32 (by simp), N, by rw [Int.toNat_natCast]; exact hcell_ext c1 hX32 (by simp), pa, la, ca, by rw [Int.toNat_natCast]; exact hcell_ext c2 hX32 (by simp), pm, lm, cm, by rw [Int.toNat_natCast]; exact hcell_ext c3 hX32 (by simp), fun b43 H44 hn44 => ⟨hn44.blk.cells _ _ (by simp), fun H45 hp45 => ?_⟩⟩
  have e43 := hn44.eq
  have s44 := hn44.size
  have hx45 : Ext [] H32 H45 := ext_new hn44.ext hp45.ext (by simp; omega)
  have hl45 : L2 H45 F G b43 [.int .i64 what, .int .i64 N, .slice pa la ca, .slice pm lm cm] := ⟨by simpa [splice] using hp45.blk hn44.blk (by simp), by rw [hp45.size]; omega, fun hF => by have := h32.side.lt _ (.inl hF); omega, fun hF => by have := h32.side.lt _ (.inr hF); omega⟩
  have h45 := h32.more hx45
  have hX45 := h45.side.ext
  clear hn44 hp45 h32 hx45
  have hjw := h45.jwf
  have hsq := h45.sq
  let St : Option Addr → Option Addr → Bool → Heap → Prop := fun p q t H' => t = true ∧ ∃ (F G : Nat → Prop) (pj pr : Nat) (J : Jn) (D : Dev), p = some ⟨pj, 0, none⟩ ∧ q = some ⟨pr, 0, none⟩ ∧ JnTwo H H' F G pj pd pr py J D n (20000 + 200000 * j + 100000) (100 + j + 1)
  refine ⟨St, ⟨what, hl45.1.cell 0, (pick_ok what 12 H45 (by decide) (by decide)).mono ?_⟩, ?_⟩
  · rintro _ _ ⟨rfl, rfl⟩
    have m0 := Int.emod_nonneg what (show (12 : Int) ≠ 0 by decide)
    have m1 := Int.emod_lt_of_pos what (show (0 : Int) < 12 by decide)
    have fuse_ : ∀ (R : Value → Heap → Prop), True := fun _ => trivial
    refine ⟨_, rfl, fun g6 => ?_, fun g6 => ⟨fun g7 => ?_, fun g7 => ⟨fun g8 => ⟨fun _ => ?_, fun h => absurd g8 h⟩, fun g8 => ⟨fun g9 => ⟨fun _ => ?_, fun h => absurd g9 h⟩, fun g9 => ⟨fun g11 => ?_, fun g11 => ⟨fun g10 => ?_, fun g10 => ?_⟩⟩⟩⟩⟩⟩
    · -- Sync
      refine (sync_ok h45.a h45.wf (by omega)).mono ?_
      rintro _ H52 ⟨rfl, ha, hxa⟩
      refine ⟨_, rfl, (rsync_ok (h45.b.ext hxa h45.side.off1) h45.wf (by omega)).mono ?_⟩
      rintro _ H55 ⟨rfl, hb, hxb⟩
      exact ⟨_, rfl, dec_bool ⟨fun _ => rfl, fun _ => rfl⟩, _, _, pj, pr, _, _, rfl, rfl, h45.step ha hxa hb hxb ((sync_dwf h45.wf).up (by omega)) (sync_jwf hjw) (h45.hs.sync.up (by omega)) (by rw [sync_h]; omega)⟩
    · -- Checkpoint
      refine (checkpoint_ok h45.a h45.wf (by omega) hn' hjw).mono ?_
      rintro _ H52 ⟨rfl, ha, hxa⟩
      refine ⟨_, rfl, (rcheckpoint_ok (h45.b.ext hxa h45.side.off1) h45.wf (by omega) hn' hjw).mono ?_⟩
      rintro _ H55 ⟨rfl, hb, hxb⟩
      exact ⟨_, rfl, dec_bool ⟨fun _ => rfl, fun _ => rfl⟩, _, _, pj, pr, _, _, rfl, rfl, h45.step ha hxa hb hxb ((checkpoint_dwf h45.wf hjw hn').up (by omega)) (checkpoint_jwf hjw) ((h45.hs.checkpoint hjw hsq (by omega)).up (by omega)) (by rw [checkpoint_h]; omega)⟩
    rotate_left 3
    · -- Fuse
      refine ⟨N, hl45.1.cell 1, (pick_ok N 14 H45 (by decide) (by decide)).mono ?_⟩
      rintro _ _ ⟨rfl, rfl⟩
      have q0 := Int.emod_nonneg N (show (14 : Int) ≠ 0 by decide)
      have q1 := Int.emod_lt_of_pos N (show (0 : Int) < 14 by decide)
      refine ⟨_, rfl, ⟨by omega, by omega⟩, (h45.a.fuse _).mono ?_⟩
      rintro _ H52 ⟨rfl, ha, hxa⟩
      refine ⟨rfl, ((h45.b.ext hxa h45.side.off1).fuse _).mono ?_⟩
      rintro _ H55 ⟨rfl, hb, hxb⟩
      have hw := h45.wf
      refine ⟨rfl, rfl, _, _, pj, pr, J, _, rfl, rfl, h45.step (ha.up (fun _ => .inl) (grow_lt (fun k hk => h45.side.lt k (.inl hk)) hxa.size)) hxa (hb.up (fun _ => .inl) (grow_lt (fun k hk => Nat.lt_of_lt_of_le (h45.side.lt k (.inr hk)) hxa.size) hxb.size)) hxb ⟨hw.len, hw.few, hw.size, hw.pin, by have := hw.pfew; show D.pend.length ≤ _; omega, by simp only; omega, ⟨hw.works.1, by have := hw.works.2; show D.works ≤ _; omega⟩⟩ hjw ((h45.hs.eq rfl rfl).up (by omega)) (by omega)⟩
    · -- Commit
      refine ⟨what, hl45.1.cell 0, N, hl45.1.cell 1, pa, la, ca, hl45.1.cell 2, pm, lm, cm, hl45.1.cell 3, (rhome_ok h45.b h45.wf hjw).mono ?_⟩
      rintro _ _ ⟨rfl, rfl⟩
      have hsz := hjw.size
      have hho := homeN_of hsz
      have hmx : maxLen ≤ 9223372036854775807 := by unfold maxLen; omega
      refine ⟨_, rfl, ⟨hl45.1.cell 0, hl45.1.cell 1, hl45.1.cell 2, hl45.1.cell 3, trivial⟩, (list_ok what N (hat.ext hX45 (by simp)) (by omega) (homeN n J.h.size) (by omega) 6 (by decide)).mono ?_⟩
      rintro _ H132 ⟨a133, c135, a136, c138, rfl, htw, hx132⟩
      have hll : (listM N ats (homeN n J.h.size) 6).length ≤ 6 := by
        have := listW_len N (homeN n J.h.size) (ats.take 6) 0 []
        have h4 : (ats.take 6).length ≤ 6 := by rw [List.length_take]; omega
        simp only [List.length_nil] at this
        unfold listM; omega
      generalize listM N ats (homeN n J.h.size) 6 = l at *
      have h132 := h45.more hx132
      have s132 := hx132.size
      refine ⟨_, _, _, _, _, _, rfl, (commit_ok h132.a h132.wf (by omega) hn' hjw (by omega) (htw.kept (fun k hk => h45.side.lt k (.inl hk))) (by omega)).mono ?_⟩
      rintro _ H140 ⟨rfl, ha, hxa⟩
      have hkr : KeptW G H140 a136 l := fun H' hx' => (htw.my.2.extP (M := fun k => F k ∨ G k ∨ H132.size ≤ k) ((hxa.mono (fun k _ hk => .inl hk)).trans' hx' (fun k hk => .inr (.inr (.inl hk)))) (fun k k1 k2 hk => by
        rcases hk with hk | hk | hk
        · have := h45.side.lt k (.inl hk); omega
        · have := h45.side.lt k (.inr hk); omega
        · omega)).view
      refine ⟨_, rfl, (rcommit_ok (h132.b.ext hxa h132.side.off1) h132.wf (by omega) hn' hjw (by omega) hkr (by omega)).mono ?_⟩
      rintro _ H143 ⟨rfl, hb, hxb⟩
      have hc := h132.hs.commit (l := l) hjw hsq (by omega)
      exact ⟨_, rfl, dec_bool ⟨fun _ => rfl, fun _ => rfl⟩, _, _, pj, pr, _, _, rfl, rfl, h132.step ha hxa hb hxb ((commit_dwf h132.wf hjw hn').up (by omega)) (commit_jwf hjw (by omega)) (hc.1.up (by omega)) (by have := hc.2; omega)⟩
    all_goals
      refine ⟨fun H' => ∃ (F G : Nat → Prop) (D : Dev), DvTwo H H' F G pd py D n (20000 + 200000 * j) (100 + j) ∧ L2 H' F G b43 [.int .i64 what, .int .i64 N, .slice pa la ca, .slice pm lm cm], ⟨what, hl45.1.cell 0, (pick_ok what 12 H45 (by decide) (by decide)).mono ?_⟩, ?_⟩
      · rintro _ _ ⟨rfl, rfl⟩
        have cr : ∀ {R : Heap → Prop}, (∀ H', (∃ (F G : Nat → Prop) (D : Dev), DvTwo H H' F G pd py D n (20000 + 200000 * j) (100 + j) ∧ L2 H' F G b43 [.int .i64 what, .int .i64 N, .slice pa la ca, .slice pm lm cm]) → R H') → ∃ a l c, hcell H45 b43 (0 + 3) = some (.slice a l c) ∧ Does Tryz.prog 15 [.pointer (some ⟨pd, 0, none⟩), .slice a l c] H45 fun v H72 => v = .tuple #[] ∧ ∃ a l c, hcell H72 b43 (0 + 3) = some (.slice a l c) ∧ Does Tryz.prog 16 [.pointer (some ⟨py, 0, none⟩), .slice a l c] H72 fun v H' => v = .tuple #[] ∧ R H' := by
          intro R hR
          refine ⟨pm, lm, cm, hl45.1.cell 3, (dcrash_ok h45.dv.a h45.wf (by omega) (KeptB.old hms hX45 h45.side.low1)).mono ?_⟩
          rintro _ H72 ⟨rfl, ha, hxa⟩
          have hl72 := hl45.one hxa
          refine ⟨rfl, pm, lm, cm, hl72.1.cell 3, (rdcrash_ok (h45.dv.b.ext hxa h45.side.off1) h45.wf (by omega) (KeptB.old hms (hX45.transP hxa h45.side.low1) h45.side.low2)).mono ?_⟩
          rintro _ H77 ⟨rfl, hb, hxb⟩
          exact ⟨rfl, hR _ ⟨_, _, _, h45.dv.step ha hxa hb hxb (crashWf h45.wf ms) (h45.hs.crash ms), hl72.two hxb⟩⟩
        refine ⟨_, rfl, fun _ => cr (fun _ h => h), fun _ => (ddead_ok h45.dv.a).mono ?_⟩
        rintro _ _ ⟨rfl, rfl⟩
        exact ⟨_, rfl, fun _ => cr (fun _ h => h), fun _ => ⟨F, G, D, h45.dv, hl45⟩⟩
      rintro H91 ⟨F1, G1, D1, h91, hl91⟩
      refine ⟨fun H' => ∃ (F G : Nat → Prop) (D : Dev), DvTwo H H' F G pd py D n (20000 + 200000 * j + 5000) (100 + j), ⟨what, hl91.1.cell 0, (pick_ok what 12 H91 (by decide) (by decide)).mono ?_⟩, ?_⟩
      · rintro _ _ ⟨rfl, rfl⟩
        refine ⟨_, rfl, fun _ => (format_ok h91.a h91.wf (by omega) hn' z).mono ?_, fun _ => ⟨F1, G1, D1, h91.up (by omega) (by omega)⟩⟩
        rintro _ H98 ⟨rfl, ha, hxa⟩
        refine ⟨_, rfl, (rformat_ok (h91.b.ext hxa h91.side.off1) h91.wf (by omega) hn' z).mono ?_⟩
        rintro _ H101 ⟨rfl, hb, hxb⟩
        exact ⟨_, rfl, fun h => absurd rfl h, fun _ => ⟨_, _, _, h91.step ha hxa hb hxb (format_dwf h91.wf hn' z) (h91.hs.format (by omega))⟩⟩
      rintro H103 ⟨F2, G2, D2, h103⟩
      refine (open_ok h103.a h103.wf (by omega) hn' (by omega)).mono ?_
      rintro va H105 ⟨hra, hxa⟩
      have hrd := fun hr : (readM n D2).2 = 0 => h103.hs.read hr
      have hd2 := (open_dwf h103.wf hn')
      rcases hra with ⟨e, h1, hne, rfl, ha⟩ | ⟨pj2, J2, h1, rfl, ha⟩
      · refine ⟨_, _, rfl, (ropen_ok (h103.b.ext hxa h103.side.off1) h103.wf (by omega) hn' (by omega) (fun hr => by have := hrd hr; omega)).mono ?_⟩
        rintro vb H109 ⟨⟨e', h2, _, rfl, hb⟩ | ⟨pr2, J2, h2, rfl, hb⟩, hxb⟩
        · rw [h1] at h2
          simp only [Prod.mk.injEq, true_and] at h2
          subst h2
          exact ⟨_, _, rfl, fun h => absurd rfl h, fun _ => ⟨fun _ => ⟨rfl, (h103.side.step hxa hxb).ext⟩, fun h => absurd hne h⟩⟩
        · rw [h1] at h2
          simp only [Prod.mk.injEq] at h2
          exact absurd h2.2.1 (by simp)
      · refine ⟨_, _, rfl, (ropen_ok (h103.b.ext hxa h103.side.off1) h103.wf (by omega) hn' (by omega) (fun hr => by have := hrd hr; omega)).mono ?_⟩
        rintro vb H109 ⟨⟨e', h2, _, rfl, hb⟩ | ⟨pr2, J3, h2, rfl, hb⟩, hxb⟩
        · rw [h1] at h2
          simp only [Prod.mk.injEq] at h2
          exact absurd h2.2.1 (by simp)
        · have h1' := h1
          rw [h1] at h2
          simp only [Prod.mk.injEq, Option.some.injEq, true_and, and_true] at h2
          subst h2
          have hjn := open_jn (n := n) (D := D2) (J := J2) (by rw [h1'])
          exact ⟨_, _, rfl, fun h => absurd rfl h, fun _ => ⟨fun h => absurd rfl h, fun _ => ⟨rfl, _, _, pj2, pr2, J2, _, rfl, rfl, h103.jn ha hxa hb hxb (hd2.up (by omega)) hjn.1 ((h103.hs.open_ (by omega)).up (by omega)) (by rw [hjn.2]; omega)⟩⟩⟩
  · rintro _ _ _ H312 ⟨rfl, F3, G3, pj3, pr3, J3, D3, rfl, rfl, h312⟩
    refine ⟨fun h => (by cases h), fun _ => ⟨fun h => (by cases h), fun _ => (same_ok h312 (by omega) hn').mono ?_⟩⟩
    rintro _ H314 ⟨rfl, hx314⟩
    have h314 := h312.more hx314
    have hsz3 := h312.jwf.size
    have hho3 := homeN_of hsz3
    refine ⟨_, rfl, fun h => (by cases h), fun _ => ?_⟩
    refine ⟨fun k H' => -1 ≤ k ∧ ∃ (F G : Nat → Prop) (J : Jn), J.h = J3.h ∧ JnTwo H H' F G pj3 pd pr3 py J D3 n (20000 + 200000 * j + 100000) (100 + j + 1), fun k _ => (homeN n J3.h.size + 1 - k).toNat, ⟨Int.le_refl _, F3, G3, J3, rfl, h314⟩, ?_⟩
    rintro k H319 ⟨hk1, F4, G4, J4, hjh, h319⟩
    refine (rhome_ok h319.b h319.wf h319.jwf).mono ?_
    rintro _ _ ⟨rfl, rfl⟩
    rw [hjh]
    refine ⟨_, rfl, fun hk => ?_, fun hk => ⟨⟨by omega, by omega⟩, ⟨j + 1, F4, G4, pj3, pr3, J4, D3, rfl, rfl, by omega, by omega, h319.up (by omega) (by omega)⟩, by simp only []; omega⟩⟩
    have hjw4 := h319.jwf
    have hkp := jread_keep (k := k) (D := D3) hjw4
    refine (jread_ok h319.a h319.wf hjw4 hn' k).mono ?_
    rintro _ H324 ⟨a325, c327, ha, hxa, rfl, ho, hf⟩
    refine ⟨_, _, _, _, rfl, (rread_ok (h319.b.ext hxa h319.side.off1) h319.wf (by omega) hjw4 hn' k).mono ?_⟩
    rintro _ H330 ⟨a331, c333, hb, hxb, rfl, hrow⟩
    have s324 := hxa.size
    have ho330 := ho.extP hxb (fun i hi hg => by have := hf i hi; have := h319.side.lt i (.inr hg); omega)
    refine ⟨_, _, _, _, rfl, fun h => absurd rfl h, fun _ => ⟨_, ho330.row _ _, _, hrow, fun h => absurd rfl h, fun _ => ⟨⟨by omega, by omega⟩, ⟨by omega, _, _, _, by rw [hkp.2, hjh], h319.step (ha.up (fun _ => .inl) (grow_lt (fun k hk => h319.side.lt k (.inl hk)) hxa.size)) hxa (hb.up (fun _ => .inl) (grow_lt (fun k hk => Nat.lt_of_lt_of_le (h319.side.lt k (.inr hk)) hxa.size) hxb.size)) hxb h319.wf hkp.1 h319.hs (by rw [hkp.2]; exact h319.sq)⟩, by simp only []; omega⟩⟩⟩
end Go.Proofs
end

namespace Go.Proofs.YtmijngnbbpilmaaGreat.journalPlays
open Go.ChangeShapes Go.WideShapes Go.ChangeAt Go.RowKit
open Go.ChangeMaps (open_string shut_string)
set_option linter.unusedVariables false

theorem own : ownKnob Tryz.prog.godebug = none := by kernel_rfl
theorem laidOut : laidOutB Tryz.prog = true := by kernel_rfl

set_option maxRecDepth 100000 in
theorem lifted (os : Os) (started : os.Started) (H : Type) (enc : TypeId × Value → H) :
    ReturnsInHanded {} Tryz.checked os 3 .any (Rows.journalPlaysSpec.pre6 enc Tryz.prog Tryz.f3 Rows.journalPlaysRow.domain false) (Rows.journalPlaysSpec.post enc Tryz.prog Tryz.f3 false true false false) := by
  refine returnsInHanded_of_change (C := Tryz.checked) own started (by kernel_rfl) Tryz.func3
    (ChangeSpec.witness6 (enc := enc) (C := Tryz.checked) false ⟨#[], #[.int .i64 0, .int .i64 0, .slice none 0 0], []⟩ 8 (by kernel_rfl) (by kernel_rfl) (by kernel_rfl) (by kernel_rfl)) ?_
  intro W base args ds gs before hval0 hW hcnd _
  have hval : ∀ (j : Nat) t v, Tryz.f3.params[j]? = some t → args[j]? = some v → Value.okWide Tryz.prog W .any base t v := hval0
  have hW' := hW
  obtain ⟨p, q, hA0, hV, rfl, hfz, hnd⟩ := hW
  have hA : DataW.TrodAll enc Tryz.prog W 0 (fun _ => true) true Tryz.f3.params.toList args.toList ds p := hA0
  rw [Tryz.params3] at hA hval
  obtain ⟨v0, vs0, d0, ds0, p0, q0, hargs, rfl, rfl, h0, r0⟩ := trodAll_cons hA
  obtain ⟨v1, vs1, d1, ds1, p1, q1, rfl, rfl, rfl, h1, r1⟩ := trodAll_cons r0
  obtain ⟨v2, vs2, d2, ds2, p2, q2, rfl, rfl, rfl, h2, r2⟩ := trodAll_cons r1
  obtain ⟨rfl, rfl, rfl⟩ := trodAll_nil r2
  obtain rfl : args = #[v0, v1, v2] := by cases args; simp_all
  obtain ⟨rfl, rfl⟩ := trodVars_none hV
  obtain ⟨a0, rfl, rfl, rfl, w0⟩ := open_int Tryz.underlying3 (hval 0 3 v0 rfl rfl) h0
  obtain ⟨a1, rfl, rfl, rfl, w1⟩ := open_int Tryz.underlying3 (hval 1 3 v1 rfl rfl) h1
  obtain ⟨a2, len2, cap2, rfl⟩ := okWide_slice Tryz.underlying22 (hval 2 22 v2 rfl rfl)
  have k2 := h2
  have lt2 : ∀ x ∈ p2, x.block < W.heap.size := by obtain ⟨m, hm⟩ := k2; exact DataW.trod_lt m _ _ _ hm
  have sp2 := Go.Vc.okWide_spot Tryz.underlying22 (hval 2 22 _ rfl rfl)
  have s2 : (Go.Vc.KSlice 4 (Go.Vc.KAll [(1, (Go.Vc.KInt .i64)), (1, (Go.Vc.KInt .i64)), (1, (Go.Vc.KInts .i64)), (1, Go.Vc.KBytes)])) W.heap [.slice a2 len2 cap2] := Go.Vc.Sound.of (Go.Vc.sound_slice Tryz.underlying22 (by kernel_rfl) (by decide) (Go.Vc.sound_struct Tryz.underlying39 (by kernel_rfl) (.cons (by kernel_rfl) (by kernel_rfl) (Go.Vc.sound_int Tryz.underlying3) (.cons (by kernel_rfl) (by kernel_rfl) (Go.Vc.sound_int Tryz.underlying3) (.cons (by kernel_rfl) (by kernel_rfl) (Go.Vc.sound_ints Tryz.underlying36 Tryz.underlying3 (by kernel_rfl)) (.cons (by kernel_rfl) (by kernel_rfl) (Go.Vc.sound_bytes Tryz.underlying37 Tryz.underlying5 (by kernel_rfl)) .nil)))))) h2
  clear hA0 hval0
  refine (Go.Vc.Does.below (jplays_law W.heap a0 w0 a1 w1 a2 len2 cap2 s2)).mono fun e W' ⟨he, bel⟩ => ?_
  subst he
  exact ⟨_, rfl, _, _, _, [], _, [], hW', trodAll_mk1 (shut_bool Tryz.underlying4 _), (trodAll_cons_mk (shut_int Tryz.underlying3 w0) (trodAll_cons_mk (shut_int Tryz.underlying3 w1) (trodAll_cons_mk (Below.trod laidOut (by kernel_rfl) (of_decide_eq_true (by kernel_rfl)) k2 bel lt2) trodAll_mk0))), rfl, bel.frame _, fun h => by cases h⟩

theorem over : Rows.journalPlaysRow.holds Tryz.pinned (OpenSpec.ofChange Rows.journalPlaysSpec) :=
  OpenClaim.holds_of_wide 3 Tryz.f3 rfl rfl rfl rfl rfl rfl rfl ⟨rfl, rfl, rfl, rfl, rfl⟩ rfl rfl rfl rfl rfl (by kernel_rfl) Tryz.func3 (by kernel_rfl)
    (of_decide_eq_true (by kernel_rfl)) (by unfold Func.isWrapper; first | (rw [if_pos (by decide +kernel)]; kernel_rfl) | (rw [if_neg (by decide +kernel)]; exact ⟨rfl, rfl⟩))
    (fun os started H enc _ => lifted os started H enc)

theorem proved : Rows.JournalPlaysSaid := over
#print axioms proved
end Go.Proofs.YtmijngnbbpilmaaGreat.journalPlays

