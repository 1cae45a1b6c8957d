/-
  The contracts of the device's, the octets' and the journal's functions, first part. No condition.
-/
import Derived.Test.YtmijngnbbpilmaaGreatVd
import Derived.Test.YtmijngnbbpilmaaGreatJnV

section
open Go Go.Vc
namespace Go.Vc

abbrev Octs := List UInt8

/-- Slices of bytes. -/
def bytesE : Elem Octs where
  sz := 1
  pos := by decide
  ok H v xs := ∃ a n c, v = [.slice a n c] ∧ n ≤ c ∧ SRow H 1 n (.slice a n c) (bytesV xs) ∧ ∀ k, k ∈ blkOf a → k < H.size
  fp v := match v with | [.slice a _ _] => blkOf a | _ => []
  len := by rintro H v x ⟨a, n, c, rfl, _⟩; rfl
  one := by rintro H v x ⟨a, n, c, rfl, _⟩ u hu; simp only [List.mem_singleton] at hu; subst hu; rfl
  lt := by rintro H v x ⟨a, n, c, rfl, _, _, h⟩; exact h
  ext := by rintro M H H' v x ⟨a, n, c, rfl, h0, h1, h2⟩ he hm; exact ⟨a, n, c, rfl, h0, h1.extP he hm, fun k hk => Nat.lt_of_lt_of_le (h2 k hk) he.size⟩

/-- A number and a slice of bytes. -/
def writeE : Elem (Int × Octs) where
  sz := 2
  pos := by decide
  ok H v x := ∃ a n c, v = [.int .i64 x.1, .slice a n c] ∧ SRow H 1 n (.slice a n c) (bytesV x.2) ∧ ∀ k, k ∈ blkOf a → k < H.size
  fp v := match v with | [_, .slice a _ _] => blkOf a | _ => []
  len := by rintro H v x ⟨a, n, c, rfl, _⟩; rfl
  one := by rintro H v x ⟨a, n, c, rfl, _⟩ u hu; simp only [List.mem_cons, List.not_mem_nil, or_false] at hu; rcases hu with rfl | rfl <;> rfl
  lt := by rintro H v x ⟨a, n, c, rfl, _, h⟩; exact h
  ext := by rintro M H H' v x ⟨a, n, c, rfl, h1, h2⟩ he hm; exact ⟨a, n, c, rfl, h1.extP he hm, fun k hk => Nat.lt_of_lt_of_le (h2 k hk) he.size⟩

def writeC : Elem (Int × Octs) where
  sz := 2
  pos := by decide
  ok H v x := ∃ a n c, v = [.int .i64 x.1, .slice a n c] ∧ n ≤ c ∧ SRow H 1 n (.slice a n c) (bytesV x.2) ∧ ∀ k, k ∈ blkOf a → k < H.size
  fp v := match v with | [_, .slice a _ _] => blkOf a | _ => []
  len := by rintro H v x ⟨a, n, c, rfl, _⟩; rfl
  one := by rintro H v x ⟨a, n, c, rfl, _⟩ u hu; simp only [List.mem_cons, List.not_mem_nil, or_false] at hu; rcases hu with rfl | rfl <;> rfl
  lt := by rintro H v x ⟨a, n, c, rfl, _, _, h⟩; exact h
  ext := by rintro M H H' v x ⟨a, n, c, rfl, h0, h1, h2⟩ he hm; exact ⟨a, n, c, rfl, h0, h1.extP he hm, fun k hk => Nat.lt_of_lt_of_le (h2 k hk) he.size⟩

/-- The blocks of a region that are not written again. -/
def calm (F : Nat → Prop) (pd : Nat) (ak an ap : Option Addr) : Nat → Prop := fun k => F k ∧ k ≠ pd ∧ k ∉ blkOf ak ∧ k ∉ blkOf an ∧ k ∉ blkOf ap

/-- A struct with three lists of its own, all within F. -/
structure Three (H : Heap) (F : Nat → Prop) (pd : Nat) (cells : List Value) (ak : Option Addr) (ck : Nat) (kept : List Octs) (an : Option Addr) (cn : Nat) (now : List Octs) (ap : Option Addr) (cp : Nat) (pend : List (Int × Octs)) : Prop where
  head : Blk H pd cells
  sk : Seq bytesE H (calm F pd ak an ap) ak kept.length ck kept
  sn : Seq bytesE H (calm F pd ak an ap) an now.length cn now
  sp : Seq writeC H (calm F pd ak an ap) ap pend.length cp pend
  fh : F pd
  fk : ∀ k, k ∈ blkOf ak → F k
  fn : ∀ k, k ∈ blkOf an → F k
  fp : ∀ k, k ∈ blkOf ap → F k
  dk : pd ∉ blkOf ak
  dn : pd ∉ blkOf an
  dp : pd ∉ blkOf ap
  kn : ∀ k, k ∈ blkOf ak → k ∉ blkOf an
  kp : ∀ k, k ∈ blkOf ak → k ∉ blkOf ap
  np : ∀ k, k ∈ blkOf an → k ∉ blkOf ap
  lt : ∀ k, F k → k < H.size

section
variable {H H' : Heap} {F F' M : Nat → Prop} {pd : Nat} {cells : List Value} {ak : Option Addr} {ck : Nat} {kept : List Octs} {an : Option Addr} {cn : Nat} {now : List Octs} {ap : Option Addr} {cp : Nat} {pend : List (Int × Octs)}

theorem Three.up (h : Three H F pd cells ak ck kept an cn now ap cp pend) (hF : ∀ k, F k → F' k) (hlt : ∀ k, F' k → k < H.size) : Three H F' pd cells ak ck kept an cn now ap cp pend := by
  have hc : ∀ k, k < H.size → calm F pd ak an ap k → calm F' pd ak an ap k := fun k _ hk => ⟨hF k hk.1, hk.2⟩
  exact ⟨h.head, h.sk.mono hc, h.sn.mono hc, h.sp.mono hc, hF _ h.fh, fun k hk => hF k (h.fk k hk), fun k hk => hF k (h.fn k hk), fun k hk => hF k (h.fp k hk), h.dk, h.dn, h.dp, h.kn, h.kp, h.np, hlt⟩

theorem Three.ext (h : Three H F pd cells ak ck kept an cn now ap cp pend) (he : ExtP M H H') (hm : ∀ k, F k → ¬ M k) : Three H' F pd cells ak ck kept an cn now ap cp pend := by
  have hc : ∀ k, calm F pd ak an ap k → ¬ M k := fun k hk => hm k hk.1
  exact ⟨h.head.extP he (hm _ h.fh), h.sk.extP he (fun k hk => hm k (h.fk k hk)) hc, h.sn.extP he (fun k hk => hm k (h.fn k hk)) hc, h.sp.extP he (fun k hk => hm k (h.fp k hk)) hc, h.fh, h.fk, h.fn, h.fp, h.dk, h.dn, h.dp, h.kn, h.kp, h.np,
    fun k hk => Nat.lt_of_lt_of_le (h.lt k hk) he.size⟩

theorem grow_lt (h : ∀ k, F k → k < H.size) (hs : H.size ≤ H'.size) : ∀ k, grow F H H' k → k < H'.size := by
  rintro k (hk | hk)
  · have := h k hk; omega
  · exact hk.2

/-- New blocks join the region. -/
theorem Three.grown (h : Three H F pd cells ak ck kept an cn now ap cp pend) (he : ExtP M H H') (hm : ∀ k, F k → ¬ M k) : Three H' (grow F H H') pd cells ak ck kept an cn now ap cp pend :=
  (h.ext he hm).up (fun _ => .inl) (grow_lt h.lt he.size)

theorem Three.poke (h : Three H F pd cells ak ck kept an cn now ap cp pend) {o : Nat} {v : Value} (hp : Puts H pd o [v] H') (ho : o < cells.length) : Three H' F pd (cells.set o v) ak ck kept an cn now ap cp pend ∧ Ext [pd] H H' := by
  have he := hp.ext
  have hb := hp.blk h.head (by simp only [List.length_cons, List.length_nil]; omega)
  rw [splice_one _ _ _ ho] at hb
  have hc : ∀ k, calm F pd ak an ap k → k ∉ [pd] := fun k hk => by simpa using hk.2.1
  have hm : ∀ {a : Option Addr}, pd ∉ blkOf a → ∀ k, k ∈ blkOf a → k ∉ [pd] := fun h1 k hk hk' => by
    simp only [List.mem_singleton] at hk'
    subst hk'
    exact h1 hk
  exact ⟨⟨hb, h.sk.extP he.toP (hm h.dk) hc, h.sn.extP he.toP (hm h.dn) hc, h.sp.extP he.toP (hm h.dp) hc, h.fh, h.fk, h.fn, h.fp, h.dk, h.dn, h.dp, h.kn, h.kp, h.np, fun k hk => Nat.lt_of_lt_of_le (h.lt k hk) he.size⟩, he⟩

theorem Three.putK (h : Three H F pd cells ak ck kept an cn now ap cp pend) {i : Nat} (hi : i < kept.length) :
    ∃ b, ak = some ⟨b, 0, none⟩ ∧ Cells H b (0 + i) 1 ∧ ∀ u x H', bytesE.ok H [u] x → (∀ k ∈ bytesE.fp [u], calm F pd ak an ap k) → Puts H b (0 + i) [u] H' → Three H' F pd cells ak ck (kept.set i x) an cn now ap cp pend ∧ Ext (blkOf ak) H H' := by
  obtain ⟨b, e, hc, hp⟩ := h.sk.put1 rfl hi (fun k hk => hk.2.2.1)
  refine ⟨b, e, hc, fun u x H' hu hf hput => ?_⟩
  obtain ⟨hs, he⟩ := hp u x H' hu hf hput
  refine ⟨⟨h.head.extP he.toP h.dk, by rw [List.length_set]; exact hs, h.sn.extP he.toP (fun k hk hk' => h.kn k hk' hk) (fun k hk => hk.2.2.1), h.sp.extP he.toP (fun k hk hk' => h.kp k hk' hk) (fun k hk => hk.2.2.1), h.fh, h.fk, h.fn, h.fp, h.dk, h.dn, h.dp, h.kn, h.kp, h.np,
    fun k hk => Nat.lt_of_lt_of_le (h.lt k hk) he.size⟩, he⟩

theorem Three.putN (h : Three H F pd cells ak ck kept an cn now ap cp pend) {i : Nat} (hi : i < now.length) :
    ∃ b, an = some ⟨b, 0, none⟩ ∧ Cells H b (0 + i) 1 ∧ ∀ u x H', bytesE.ok H [u] x → (∀ k ∈ bytesE.fp [u], calm F pd ak an ap k) → Puts H b (0 + i) [u] H' → Three H' F pd cells ak ck kept an cn (now.set i x) ap cp pend ∧ Ext (blkOf an) H H' := by
  obtain ⟨b, e, hc, hp⟩ := h.sn.put1 rfl hi (fun k hk => hk.2.2.2.1)
  refine ⟨b, e, hc, fun u x H' hu hf hput => ?_⟩
  obtain ⟨hs, he⟩ := hp u x H' hu hf hput
  refine ⟨⟨h.head.extP he.toP h.dn, h.sk.extP he.toP (fun k hk hk' => h.kn k hk hk') (fun k hk => hk.2.2.2.1), by rw [List.length_set]; exact hs, h.sp.extP he.toP (fun k hk hk' => h.np k hk' hk) (fun k hk => hk.2.2.2.1), h.fh, h.fk, h.fn, h.fp, h.dk, h.dn, h.dp, h.kn, h.kp, h.np,
    fun k hk => Nat.lt_of_lt_of_le (h.lt k hk) he.size⟩, he⟩

/-- Another list for the first. -/
theorem Three.swapK (h : Three H F pd cells ak ck kept an cn now ap cp pend) (he : ExtP M H H') (hM : ∀ k, M k → k ∈ blkOf ak) {ak' : Option Addr} {ck' : Nat} {kept' : List Octs}
    (hs : Seq bytesE H' (calm F pd ak an ap) ak' kept'.length ck' kept') (hk : ∀ k, k ∈ blkOf ak' → k ∈ blkOf ak ∨ H.size ≤ k) : Three H' (grow F H H') pd cells ak' ck' kept' an cn now ap cp pend := by
  have hlt := hs.lt
  have hc : ∀ k, k < H'.size → calm F pd ak an ap k → calm (grow F H H') pd ak' an ap k := fun k _ ⟨c1, c2, c3, c4, c5⟩ => ⟨.inl c1, c2, fun hh => by
    rcases hk k hh with h1 | h1
    · exact c3 h1
    · have := h.lt k c1; omega, c4, c5⟩
  have hm : ∀ k, calm F pd ak an ap k → ¬ M k := fun k hk h1 => hk.2.2.1 (hM k h1)
  refine ⟨h.head.extP he (fun h1 => h.dk (hM _ h1)), hs.mono hc, (h.sn.extP he (fun k hk' h1 => h.kn k (hM k h1) hk') hm).mono hc, (h.sp.extP he (fun k hk' h1 => h.kp k (hM k h1) hk') hm).mono hc, .inl h.fh, fun k hk' => ?_, fun k hk' => .inl (h.fn k hk'), fun k hk' => .inl (h.fp k hk'), fun hk' => ?_, h.dn, h.dp, fun k hk' => ?_, fun k hk' => ?_, h.np, grow_lt h.lt he.size⟩
  · rcases hk k hk' with h1 | h1
    · exact .inl (h.fk k h1)
    · exact .inr ⟨h1, hlt k hk'⟩
  · rcases hk pd hk' with h1 | h1
    · exact h.dk h1
    · have := h.lt _ h.fh; omega
  · rcases hk k hk' with h1 | h1
    · exact h.kn k h1
    · intro h2; have := h.lt _ (h.fn k h2); omega
  · rcases hk k hk' with h1 | h1
    · exact h.kp k h1
    · intro h2; have := h.lt _ (h.fp k h2); omega

theorem Three.swapN (h : Three H F pd cells ak ck kept an cn now ap cp pend) (he : ExtP M H H') (hM : ∀ k, M k → k ∈ blkOf an) {an' : Option Addr} {cn' : Nat} {now' : List Octs}
    (hs : Seq bytesE H' (calm F pd ak an ap) an' now'.length cn' now') (hk : ∀ k, k ∈ blkOf an' → k ∈ blkOf an ∨ H.size ≤ k) : Three H' (grow F H H') pd cells ak ck kept an' cn' now' ap cp pend := by
  have hlt := hs.lt
  have hc : ∀ k, k < H'.size → calm F pd ak an ap k → calm (grow F H H') pd ak an' ap k := fun k _ ⟨c1, c2, c3, c4, c5⟩ => ⟨.inl c1, c2, c3, fun hh => by
    rcases hk k hh with h1 | h1
    · exact c4 h1
    · have := h.lt k c1; omega, c5⟩
  have hm : ∀ k, calm F pd ak an ap k → ¬ M k := fun k hk h1 => hk.2.2.2.1 (hM k h1)
  refine ⟨h.head.extP he (fun h1 => h.dn (hM _ h1)), (h.sk.extP he (fun k hk' h1 => h.kn k hk' (hM k h1)) hm).mono hc, hs.mono hc, (h.sp.extP he (fun k hk' h1 => h.np k (hM k h1) hk') hm).mono hc, .inl h.fh, fun k hk' => .inl (h.fk k hk'), fun k hk' => ?_, fun k hk' => .inl (h.fp k hk'), h.dk, fun hk' => ?_, h.dp, fun k hk' h2 => ?_, h.kp, fun k hk' => ?_, grow_lt h.lt he.size⟩
  · rcases hk k hk' with h1 | h1
    · exact .inl (h.fn k h1)
    · exact .inr ⟨h1, hlt k hk'⟩
  · rcases hk pd hk' with h1 | h1
    · exact h.dn h1
    · have := h.lt _ h.fh; omega
  · rcases hk k h2 with h1 | h1
    · exact h.kn k hk' h1
    · have := h.lt _ (h.fk k hk'); omega
  · rcases hk k hk' with h1 | h1
    · exact h.np k h1
    · intro h2; have := h.lt _ (h.fp k h2); omega

theorem Three.swapP (h : Three H F pd cells ak ck kept an cn now ap cp pend) (he : ExtP M H H') (hM : ∀ k, M k → k ∈ blkOf ap) {ap' : Option Addr} {cp' : Nat} {pend' : List (Int × Octs)}
    (hs : Seq writeC H' (calm F pd ak an ap) ap' pend'.length cp' pend') (hk : ∀ k, k ∈ blkOf ap' → k ∈ blkOf ap ∨ H.size ≤ k) : Three H' (grow F H H') pd cells ak ck kept an cn now ap' cp' pend' := by
  have hlt := hs.lt
  have hc : ∀ k, k < H'.size → calm F pd ak an ap k → calm (grow F H H') pd ak an ap' k := fun k _ ⟨c1, c2, c3, c4, c5⟩ => ⟨.inl c1, c2, c3, c4, fun hh => by
    rcases hk k hh with h1 | h1
    · exact c5 h1
    · have := h.lt k c1; omega⟩
  have hm : ∀ k, calm F pd ak an ap k → ¬ M k := fun k hk h1 => hk.2.2.2.2 (hM k h1)
  refine ⟨h.head.extP he (fun h1 => h.dp (hM _ h1)), (h.sk.extP he (fun k hk' h1 => h.kp k hk' (hM k h1)) hm).mono hc, (h.sn.extP he (fun k hk' h1 => h.np k hk' (hM k h1)) hm).mono hc, hs.mono hc, .inl h.fh, fun k hk' => .inl (h.fk k hk'), fun k hk' => .inl (h.fn k hk'), fun k hk' => ?_, h.dk, h.dn, fun hk' => ?_, h.kn, fun k hk' h2 => ?_, fun k hk' h2 => ?_, grow_lt h.lt he.size⟩
  · rcases hk k hk' with h1 | h1
    · exact .inl (h.fp k h1)
    · exact .inr ⟨h1, hlt k hk'⟩
  · rcases hk pd hk' with h1 | h1
    · exact h.dp h1
    · have := h.lt _ h.fh; omega
  · rcases hk k h2 with h1 | h1
    · exact h.kp k hk' h1
    · have := h.lt _ (h.fk k hk'); omega
  · rcases hk k h2 with h1 | h1
    · exact h.np k hk' h1
    · have := h.lt _ (h.fn k hk'); omega

/-- What is new is calm. -/
theorem Three.calm_new (h : Three H F pd cells ak ck kept an cn now ap cp pend) {k : Nat} (h1 : H.size ≤ k) (h2 : k < H'.size) : calm (grow F H H') pd ak an ap k := by
  refine ⟨.inr ⟨h1, h2⟩, fun e => ?_, fun e => ?_, fun e => ?_, fun e => ?_⟩
  · subst e; have := h.lt _ h.fh; omega
  · have := h.lt _ (h.fk k e); omega
  · have := h.lt _ (h.fn k e); omega
  · have := h.lt _ (h.fp k e); omega

theorem grow_sub {H1 : Heap} (hs : H.size ≤ H1.size) (hs' : H1.size ≤ H'.size) : ∀ k, grow (grow F H H1) H1 H' k → grow F H H' k := by
  rintro k ((hk | hk) | hk)
  · exact .inl hk
  · exact .inr ⟨hk.1, by omega⟩
  · exact .inr ⟨by omega, hk.2⟩
end
end Go.Vc
end

section
open Go Go.Vc
namespace Go.Proofs

theorem Tryz.mixed : Tryz.prog.follows .mixedOrders = true := by kernel_rfl

theorem pick_ok (n m : Int) (H : Heap) (hm : 0 < m) (hm' : m ≤ 1000000000000) : Does Tryz.prog 4 [.int .i64 n, .int .i64 m] H fun v H' => v = .int .i64 (n % m) ∧ H = H' := by
  refine Fn_of_vc Tryz.mixed (vc_pick _ _ _ _) ?_
  refine ⟨by omega, ?_⟩
  rintro q rfl
  have h1 := Int.tmod_lt_of_pos n hm
  have h2 := Int.lt_tmod_of_pos n hm
  have h3 : n.tmod m = if 0 ≤ n ∨ m ∣ n then n % m else n % m - m := by
    rw [Int.tmod_eq_emod]
    split <;> simp
    omega
  refine ⟨fun hq => ?_, fun hq => ?_⟩
  · refine ⟨⟨by omega, by omega⟩, ?_, rfl⟩
    congr 1
    have h4 := Int.emod_nonneg n (show m ≠ 0 by omega)
    split at h3 <;> omega
  · refine ⟨?_, rfl⟩
    congr 1
    have h4 := Int.emod_nonneg n (show m ≠ 0 by omega)
    have h5 := Int.emod_lt_of_pos n hm
    split at h3 <;> omega

/-- A device, plainly. -/
structure Dev where
  kept : List Octs
  pend : List (Int × Octs)
  fuse : Int
  dead : Bool
  works : Int

def laid (kept : List Octs) (pend : List (Int × Octs)) : List Octs := pend.foldl (fun l w => l.set w.1.toNat w.2) kept
def Dev.now (D : Dev) : List Octs := laid D.kept D.pend

theorem laid_length : ∀ (pend : List (Int × Octs)) (kept : List Octs), (laid kept pend).length = kept.length
  | [], _ => rfl
  | w :: r, kept => by
    have e : laid kept (w :: r) = laid (kept.set w.1.toNat w.2) r := rfl
    rw [e, laid_length r, List.length_set]

theorem laid_size : ∀ (p : List (Int × Octs)) (kp : List Octs), (∀ b ∈ kp, b.length = 128) → (∀ w ∈ p, w.2.length = 128) → ∀ b ∈ laid kp p, b.length = 128
  | [], kp, h1, _ => h1
  | w :: r, kp, h1, h2 => by
    refine laid_size r (kp.set w.1.toNat w.2) (fun b hb => ?_) (fun x hx => h2 x (by simp [hx]))
    rcases List.mem_or_eq_of_mem_set hb with hb | rfl
    · exact h1 b hb
    · exact h2 w (by simp)

theorem laid_snoc (kept : List Octs) (p : List (Int × Octs)) (w : Int × Octs) : laid kept (p ++ [w]) = (laid kept p).set w.1.toNat w.2 := by
  unfold laid; rw [List.foldl_append]; rfl

/-- What a device must be like. -/
structure Dev.Wf (D : Dev) (n B : Nat) : Prop where
  len : D.kept.length = n
  few : n ≤ 100000
  size : ∀ b ∈ D.kept, b.length = 128
  pin : ∀ w ∈ D.pend, 0 ≤ w.1 ∧ w.1 < n ∧ w.2.length = 128
  pfew : D.pend.length ≤ B
  fuse : -1 ≤ D.fuse ∧ D.fuse ≤ 9223372036854775807
  works : 0 ≤ D.works ∧ D.works ≤ B

def IsDev (H : Heap) (F : Nat → Prop) (pd : Nat) (D : Dev) : Prop := ∃ ak ck an cn ap cp,
  Three H F pd [.slice ak D.kept.length ck, .slice an D.now.length cn, .slice ap D.pend.length cp, .int .i64 D.fuse, .bool D.dead, .int .i64 D.works] ak ck D.kept an cn D.now ap cp D.pend

def IsRDev (H : Heap) (F : Nat → Prop) (pd : Nat) (D : Dev) : Prop := ∃ ak ck ap cp,
  Three H F pd [.slice ak D.kept.length ck, .slice ap D.pend.length cp, .int .i64 D.fuse, .bool D.dead, .int .i64 D.works] ak ck D.kept none 0 [] ap cp D.pend

section
variable {H H' : Heap} {F F' M : Nat → Prop} {pd : Nat} {D : Dev}
theorem IsDev.ext (h : IsDev H F pd D) (he : ExtP M H H') (hm : ∀ k, F k → ¬ M k) : IsDev H' F pd D := by
  obtain ⟨ak, ck, an, cn, ap, cp, h⟩ := h
  exact ⟨ak, ck, an, cn, ap, cp, h.ext he hm⟩
theorem IsDev.up (h : IsDev H F pd D) (hF : ∀ k, F k → F' k) (hlt : ∀ k, F' k → k < H.size) : IsDev H F' pd D := by
  obtain ⟨ak, ck, an, cn, ap, cp, h⟩ := h
  exact ⟨ak, ck, an, cn, ap, cp, h.up hF hlt⟩
theorem IsDev.lt (h : IsDev H F pd D) : ∀ k, F k → k < H.size := by
  obtain ⟨ak, ck, an, cn, ap, cp, h⟩ := h
  exact h.lt
theorem IsRDev.ext (h : IsRDev H F pd D) (he : ExtP M H H') (hm : ∀ k, F k → ¬ M k) : IsRDev H' F pd D := by
  obtain ⟨ak, ck, ap, cp, h⟩ := h
  exact ⟨ak, ck, ap, cp, h.ext he hm⟩
theorem IsRDev.up (h : IsRDev H F pd D) (hF : ∀ k, F k → F' k) (hlt : ∀ k, F' k → k < H.size) : IsRDev H F' pd D := by
  obtain ⟨ak, ck, ap, cp, h⟩ := h
  exact ⟨ak, ck, ap, cp, h.up hF hlt⟩
theorem IsRDev.lt (h : IsRDev H F pd D) : ∀ k, F k → k < H.size := by
  obtain ⟨ak, ck, ap, cp, h⟩ := h
  exact h.lt
end

/-! ### One more work -/

def wk (D : Dev) : Dev × Bool := if D.fuse = 0 ∨ D.dead = true then ({ D with dead := true }, false) else ({ D with fuse := if 0 < D.fuse then D.fuse - 1 else D.fuse, works := D.works + 1 }, true)

theorem wk_kept (D : Dev) : (wk D).1.kept = D.kept ∧ (wk D).1.pend = D.pend := by
  unfold wk
  split <;> exact ⟨rfl, rfl⟩

theorem wk_now (D : Dev) : (wk D).1.now = D.now := by
  unfold Dev.now
  rw [(wk_kept D).1, (wk_kept D).2]

theorem extP_fresh {F : Nat → Prop} {H H' : Heap} {L : List Nat} (h : Ext L H H') (hl : ∀ k, k ∈ L → F k) : ExtP F H H' := h.lift fun k _ hk => hl k hk

theorem work_ok {H : Heap} {F : Nat → Prop} {pd : Nat} {D : Dev} (h : IsDev H F pd D) (hw : D.works ≤ 1000000000000) (hw0 : 0 ≤ D.works) (hf : -1 ≤ D.fuse ∧ D.fuse ≤ 9223372036854775807) :
    Does Tryz.prog 69 [.pointer (some ⟨pd, 0, none⟩)] H fun v H' => v = .int .i64 (if (wk D).2 then 0 else 4) ∧ IsDev H' F pd (wk D).1 ∧ ExtP F H H' := by
  refine Fn_of_vc Tryz.mixed (vc_work _ _ _) ?_
  obtain ⟨ak, ck, an, cn, ap, cp, h⟩ := h
  have he : ∀ {A B : Heap}, Ext [pd] A B → ExtP F A B := fun hx => extP_fresh hx (by intro k hk; simp only [List.mem_singleton] at hk; subst hk; exact h.fh)
  have hd := h.head
  refine ⟨_, _, rfl, _, hd.cell 3, fun h1 => ?_, fun h1 => ?_⟩
  · have e : wk D = ({ D with dead := true }, false) := if_pos (.inl h1)
    refine ⟨_, _, rfl, hd.cells 1 4 (by simp), fun H6 hp => ?_⟩
    obtain ⟨h6, hx6⟩ := h.poke hp (by simp)
    refine ⟨_, _, rfl, true, h6.head.cell 4, fun _ => ?_, fun e => (by cases e)⟩
    rw [e]
    exact ⟨rfl, ⟨ak, ck, an, cn, ap, cp, h6⟩, he hx6⟩
  · refine ⟨_, _, rfl, D.dead, hd.cell 4, fun h2 => ?_, fun h2 => ?_⟩
    · have e : wk D = ({ D with dead := true }, false) := if_pos (.inr h2)
      rw [e]
      refine ⟨rfl, ⟨ak, ck, an, cn, ap, cp, ?_⟩, ExtP.refl _ _⟩
      rw [← h2]
      exact h
    · have e : wk D = ({ D with fuse := if 0 < D.fuse then D.fuse - 1 else D.fuse, works := D.works + 1 }, true) := if_neg (by rintro (h3 | h3); exact h1 h3; rw [h2] at h3; cases h3)
      rw [e]
      refine ⟨_, _, rfl, _, hd.cell 3, fun h3 => ?_, fun h3 => ?_⟩
      · refine ⟨_, _, rfl, _, hd.cell 3, ⟨by omega, by omega⟩, _, _, rfl, hd.cells 1 3 (by simp), fun H42 hp => ?_⟩
        obtain ⟨h42, hx42⟩ := h.poke hp (by simp)
        refine ⟨_, _, rfl, D.works, h42.head.cell 5, ⟨by omega, by omega⟩, _, _, rfl, h42.head.cells 1 5 (by simp), fun H48 hp2 => ?_⟩
        obtain ⟨h48, hx48⟩ := h42.poke hp2 (by simp)
        refine ⟨rfl, ⟨ak, ck, an, cn, ap, cp, ?_⟩, (he hx42).trans (he hx48)⟩
        simp only [if_pos h3]
        exact h48
      · refine ⟨_, _, rfl, _, hd.cell 5, ⟨by omega, by omega⟩, _, _, rfl, hd.cells 1 5 (by simp), fun H54 hp => ?_⟩
        obtain ⟨h54, hx54⟩ := h.poke hp (by simp)
        refine ⟨rfl, ⟨ak, ck, an, cn, ap, cp, ?_⟩, he hx54⟩
        simp only [if_neg h3]
        exact h54

theorem rworks_ok {H : Heap} {F : Nat → Prop} {pd : Nat} {D : Dev} (h : IsRDev H F pd D) (hw : D.works ≤ 1000000000000) (hw0 : 0 ≤ D.works) (hf : -1 ≤ D.fuse ∧ D.fuse ≤ 9223372036854775807) :
    Does Tryz.prog 63 [.pointer (some ⟨pd, 0, none⟩)] H fun v H' => v = .bool (wk D).2 ∧ IsRDev H' F pd (wk D).1 ∧ ExtP F H H' := by
  refine Fn_of_vc Tryz.mixed (vc_rworks _ _ _) ?_
  obtain ⟨ak, ck, ap, cp, h⟩ := h
  have he : ∀ {A B : Heap}, Ext [pd] A B → ExtP F A B := fun hx => extP_fresh hx (by intro k hk; simp only [List.mem_singleton] at hk; subst hk; exact h.fh)
  have hd := h.head
  refine ⟨_, _, rfl, D.dead, hd.cell 3, fun h2 => ?_, fun h2 => ⟨_, _, rfl, _, hd.cell 2, fun h1 => ?_, fun h1 => ?_⟩⟩
  · have e : wk D = ({ D with dead := true }, false) := if_pos (.inr h2)
    rw [e]
    refine ⟨rfl, ⟨ak, ck, ap, cp, ?_⟩, ExtP.refl _ _⟩
    rw [← h2]
    exact h
  · have e : wk D = ({ D with dead := true }, false) := if_pos (.inl h1)
    refine ⟨_, _, rfl, hd.cells 1 3 (by simp), fun H6 hp => ?_⟩
    obtain ⟨h6, hx6⟩ := h.poke hp (by simp)
    rw [e]
    exact ⟨rfl, ⟨ak, ck, ap, cp, h6⟩, he hx6⟩
  · have e : wk D = ({ D with fuse := if 0 < D.fuse then D.fuse - 1 else D.fuse, works := D.works + 1 }, true) := if_neg (by rintro (h3 | h3); exact h1 h3; rw [h2] at h3; cases h3)
    rw [e]
    refine ⟨_, _, rfl, _, hd.cell 2, fun h3 => ?_, fun h3 => ?_⟩
    · refine ⟨_, _, rfl, _, hd.cell 2, ⟨by omega, by omega⟩, _, _, rfl, hd.cells 1 2 (by simp), fun H42 hp => ?_⟩
      obtain ⟨h42, hx42⟩ := h.poke hp (by simp)
      refine ⟨_, _, rfl, D.works, h42.head.cell 4, ⟨by omega, by omega⟩, _, _, rfl, h42.head.cells 1 4 (by simp), fun H48 hp2 => ?_⟩
      obtain ⟨h48, hx48⟩ := h42.poke hp2 (by simp)
      refine ⟨rfl, ⟨ak, ck, ap, cp, ?_⟩, (he hx42).trans (he hx48)⟩
      simp only [if_pos h3]
      exact h48
    · refine ⟨_, _, rfl, _, hd.cell 4, ⟨by omega, by omega⟩, _, _, rfl, hd.cells 1 4 (by simp), fun H54 hp => ?_⟩
      obtain ⟨h54, hx54⟩ := h.poke hp (by simp)
      refine ⟨rfl, ⟨ak, ck, ap, cp, ?_⟩, he hx54⟩
      simp only [if_neg h3]
      exact h54

/-! ### Copies -/

theorem clonell_ok {α : Type} {E : Elem α} (hE : E.sz = 1) {H : Heap} {G : Nat → Prop} {a : Option Addr} {n c : Nat} {xs : List α} (h : Seq E H G a n c xs) (hl : n ≤ 1000000) : Does Tryz.prog 46 [.slice a n c] H fun v H' =>
    ∃ a' c', v = .slice a' n c' ∧ Seq E H' G a' n c' xs ∧ Ext [] H H' ∧ (∀ k, k ∈ blkOf a' → H.size ≤ k) := by
  refine Fn_of_vc Tryz.mixed (vc_clonell _ _ _ _ _) ?_
  have hnum := h.num
  obtain ⟨flat, ho, h1, hc⟩ := h.copy
  rw [hE] at ho hc
  refine ⟨fun h0 => ?_, fun h0 => ?_⟩
  · subst h0
    have h2 := (ho.row n c).2
    simp only at h2
    have h3 := ho.1
    rw [h2] at h3
    have : n = 0 := by simp at h3; omega
    subst this
    have : xs = [] := List.length_eq_zero_iff.1 hnum
    subst this
    exact ⟨none, 0, rfl, Seq.nil _ _ _, Ext.refl _ _, fun k hk => by cases hk⟩
  · intro b H2 hn
    have hx := hn.ext
    have ho2 : Own H2 1 (some ⟨b, 0, none⟩) 0 0 [] := ⟨rfl, Nat.le_refl _, by unfold maxLen; omega, .inr ⟨b, [], rfl, hn.blk, rfl⟩⟩
    refine ⟨[], flat, ho2.row 0 0, (ho.row n c).ext hx (by simp), h1, by omega, fun hle => ho2.room (n := n) hle, ?_⟩
    intro a5 c6 H7 happ
    obtain ⟨q1, q2, q3⟩ := happ.own ho2 (ho2.row 0 0) (by have := ho.1; omega) rfl
    simp only [Nat.zero_add, List.nil_append] at q1 ⊢
    have hb := hn.eq
    have hxx : Ext [] H H7 := hx.trans' q2 (fun i hi => by simp only [blkOf, List.mem_singleton] at hi; omega)
    refine ⟨a5, c6, rfl, hc q1 hxx.toP (by simp), hxx, fun k hk => ?_⟩
    rcases q3 k hk with h4 | h4
    · simp only [blkOf, List.mem_singleton] at h4; omega
    · have := hn.size; omega

theorem clonel_ok {H : Heap} {a : Option Addr} {len cap : Nat} {xs : List UInt8} (h : SRow H 1 len (.slice a len cap) (bytesV xs)) (hl : len ≤ 1000000) : Does Tryz.prog 62 [.slice a len cap] H fun v H' =>
    ∃ a' c', v = .slice a' len c' ∧ Own H' 1 a' len c' (bytesV xs) ∧ Ext [] H H' ∧ (∀ k, k ∈ blkOf a' → H.size ≤ k) := by
  refine Fn_of_vc Tryz.mixed (vc_clonel _ _ _ _ _) ?_
  refine ⟨fun h0 => ?_, fun h0 => ?_⟩
  · subst h0
    have h2 := h.2
    simp only at h2
    have h1 := h.1
    rw [h2] at h1
    have : len = 0 := by simpa using h1.symm
    subst this
    rw [h2]
    exact ⟨none, 0, rfl, Own.nil _ _, Ext.refl _ _, fun k hk => by cases hk⟩
  · intro b H2 hn
    have hx := hn.ext
    have ho : Own H2 1 (some ⟨b, 0, none⟩) 0 0 [] := ⟨rfl, Nat.le_refl _, by unfold maxLen; omega, .inr ⟨b, [], rfl, hn.blk, rfl⟩⟩
    refine ⟨[], bytesV xs, ho.row 0 0, h.ext hx (by simp), bytesV_one xs, by omega, fun hle => ho.room (n := len) hle, ?_⟩
    intro a5 c6 H7 happ
    obtain ⟨h1, h2, h3⟩ := happ.own ho (ho.row 0 0) h.1 rfl
    simp only [Nat.zero_add, List.nil_append] at h1 ⊢
    have hb := hn.eq
    refine ⟨a5, c6, rfl, h1, hx.trans' h2 (fun i hi => ?_), fun k hk => ?_⟩
    · simp only [blkOf, List.mem_singleton] at hi; omega
    · rcases h3 k hk with h4 | h4
      · simp only [blkOf, List.mem_singleton] at h4; omega
      · have := hn.size; omega

/-- A fresh copy is an element. -/
theorem own_elem {H : Heap} {a : Option Addr} {len cap : Nat} {xs : List UInt8} (h : Own H 1 a len cap (bytesV xs)) : bytesE.ok H [.slice a len cap] xs := ⟨a, len, cap, rfl, h.2.1, h.row len cap, h.lt⟩

theorem has_ok {H : Heap} {F : Nat → Prop} {pd : Nat} {D : Dev} (h : IsDev H F pd D) (k : Int) :
    Does Tryz.prog 73 [.pointer (some ⟨pd, 0, none⟩), .int .i64 k] H fun v H' => v = .bool (decide (0 ≤ k ∧ k < D.kept.length)) ∧ H = H' := by
  refine Fn_of_vc Tryz.mixed (vc_has _ _ _ _) ?_
  obtain ⟨ak, ck, an, cn, ap, cp, h⟩ := h
  have e : D.now.length = D.kept.length := laid_length _ _
  refine ⟨fun h0 => ⟨_, _, rfl, _, _, _, h.head.cell 1, congrArg _ (dec_eq ?_), rfl⟩, fun h0 => ⟨congrArg _ (decide_eq_false ?_).symm, rfl⟩⟩
  · rw [e]; simp [h0]
  · omega

theorem dread_ok {H : Heap} {F : Nat → Prop} {pd : Nat} {D : Dev} {n B : Nat} (h : IsDev H F pd D) (hw : D.Wf n B) (k : Int) :
    Does Tryz.prog 61 [.pointer (some ⟨pd, 0, none⟩), .int .i64 k] H fun v H' => Ext [] H H' ∧
      ((¬ (0 ≤ k ∧ k < n) ∧ v = .tuple #[.slice none 0 0, .int .i64 1]) ∨ ((0 ≤ k ∧ k < n) ∧ D.dead = true ∧ v = .tuple #[.slice none 0 0, .int .i64 4]) ∨
        ((0 ≤ k ∧ k < n) ∧ D.dead = false ∧ ∃ a c xs, D.now[k.toNat]? = some xs ∧ v = .tuple #[.slice a xs.length c, .int .i64 0] ∧ Own H' 1 a xs.length c (bytesV xs) ∧ ∀ i, i ∈ blkOf a → H.size ≤ i)) := by
  refine Fn_of_vc Tryz.mixed (vc_dread _ _ _ _) ?_
  have hl := hw.len
  refine (has_ok h k).mono ?_
  rintro _ _ ⟨rfl, rfl⟩
  rw [hl]
  refine ⟨_, rfl, fun h1 => ⟨Ext.refl _ _, .inl ⟨by simpa using h1, rfl⟩⟩, fun h1 => ?_⟩
  have hk : 0 ≤ k ∧ k < n := by simpa using h1
  obtain ⟨ak, ck, an, cn, ap, cp, h⟩ := h
  have e : D.now.length = n := by rw [← hl]; exact laid_length _ _
  refine ⟨_, _, rfl, D.dead, h.head.cell 4, fun h2 => ⟨Ext.refl _ _, .inr (.inl ⟨hk, h2, rfl⟩)⟩, fun h2 => ?_⟩
  obtain ⟨xs, hxs⟩ : ∃ xs, D.now[k.toNat]? = some xs := ⟨_, List.getElem?_eq_getElem (by omega)⟩
  obtain ⟨b, o, u, ea, hc, ⟨a, m, c, eu, _, hr, _⟩, _⟩ := h.sn.get1 rfl hxs
  cases eu
  have hm : xs.length = m := by have := hr.1; rw [bytesV_length] at this; omega
  have h128 : m ≤ 1000000 := by
    have hin : xs ∈ D.now := List.mem_of_getElem? hxs
    have := laid_size D.pend D.kept hw.size (fun w hw' => (hw.pin w hw').2.2) xs hin
    omega
  refine ⟨_, _, rfl, _, _, _, h.head.cell 1, hk.1, by omega, b, o, ea, a, m, c, hc, (clonel_ok hr h128).mono ?_⟩
  rintro _ H18 ⟨a', c', rfl, ho, hx, hf⟩
  refine ⟨_, _, _, rfl, hx, .inr (.inr ⟨hk, h2, a', c', xs, hxs, ?_, ?_, hf⟩)⟩
  · rw [hm]
  · rw [hm]; exact ho

theorem dpending_ok {H : Heap} {F : Nat → Prop} {pd : Nat} {D : Dev} (h : IsDev H F pd D) : Does Tryz.prog 60 [.pointer (some ⟨pd, 0, none⟩)] H fun v H' => v = .int .i64 D.pend.length ∧ H = H' := by
  refine Fn_of_vc Tryz.mixed (vc_dpending _ _ _) ?_
  obtain ⟨ak, ck, an, cn, ap, cp, h⟩ := h
  exact ⟨_, _, rfl, _, _, _, h.head.cell 2, rfl, rfl⟩
theorem ddead_ok {H : Heap} {F : Nat → Prop} {pd : Nat} {D : Dev} (h : IsDev H F pd D) : Does Tryz.prog 14 [.pointer (some ⟨pd, 0, none⟩)] H fun v H' => v = .bool D.dead ∧ H = H' := by
  refine Fn_of_vc Tryz.mixed (vc_ddead _ _ _) ?_
  obtain ⟨ak, ck, an, cn, ap, cp, h⟩ := h
  exact ⟨_, _, rfl, _, h.head.cell 4, rfl, rfl⟩
theorem dworks_ok {H : Heap} {F : Nat → Prop} {pd : Nat} {D : Dev} (h : IsDev H F pd D) : Does Tryz.prog 59 [.pointer (some ⟨pd, 0, none⟩)] H fun v H' => v = .int .i64 D.works ∧ H = H' := by
  refine Fn_of_vc Tryz.mixed (vc_dworks _ _ _) ?_
  obtain ⟨ak, ck, an, cn, ap, cp, h⟩ := h
  exact ⟨_, _, rfl, _, h.head.cell 5, rfl, rfl⟩
theorem dblocks_ok {H : Heap} {F : Nat → Prop} {pd : Nat} {D : Dev} (h : IsDev H F pd D) : Does Tryz.prog 72 [.pointer (some ⟨pd, 0, none⟩)] H fun v H' => v = .int .i64 D.kept.length ∧ H = H' := by
  refine Fn_of_vc Tryz.mixed (vc_dblocks _ _ _) ?_
  obtain ⟨ak, ck, an, cn, ap, cp, h⟩ := h
  have e : D.now.length = D.kept.length := laid_length _ _
  exact ⟨_, _, rfl, _, _, _, h.head.cell 1, by rw [e], rfl⟩

theorem dfuse_ok {H : Heap} {F : Nat → Prop} {pd : Nat} {D : Dev} (h : IsDev H F pd D) (k : Int) : Does Tryz.prog 19 [.pointer (some ⟨pd, 0, none⟩), .int .i64 k] H fun v H' => v = .tuple #[] ∧ IsDev H' F pd { D with fuse := max k (-1) } ∧ ExtP F H H' := by
  refine Fn_of_vc Tryz.mixed (vc_dfuse _ _ _ _) ?_
  obtain ⟨ak, ck, an, cn, ap, cp, h⟩ := h
  refine ⟨_, _, rfl, h.head.cells 1 3 (by simp), fun H3 hp => ?_⟩
  obtain ⟨h3, hx⟩ := h.poke hp (by simp)
  exact ⟨rfl, ⟨ak, ck, an, cn, ap, cp, h3⟩, extP_fresh hx (by intro k hk; simp only [List.mem_singleton] at hk; subst hk; exact h.fh)⟩
theorem rdfuse_ok {H : Heap} {F : Nat → Prop} {pd : Nat} {D : Dev} (h : IsRDev H F pd D) (k : Int) : Does Tryz.prog 20 [.pointer (some ⟨pd, 0, none⟩), .int .i64 k] H fun v H' => v = .tuple #[] ∧ IsRDev H' F pd { D with fuse := max (-1) k } ∧ ExtP F H H' := by
  refine Fn_of_vc Tryz.mixed (vc_rdfuse _ _ _ _) ?_
  obtain ⟨ak, ck, ap, cp, h⟩ := h
  refine ⟨_, _, rfl, h.head.cells 1 2 (by simp), fun H3 hp => ?_⟩
  obtain ⟨h3, hx⟩ := h.poke hp (by simp)
  exact ⟨rfl, ⟨ak, ck, ap, cp, h3⟩, extP_fresh hx (by intro k hk; simp only [List.mem_singleton] at hk; subst hk; exact h.fh)⟩

end Go.Proofs
end

section
open Go Go.Vc
namespace Go.Proofs

theorem take_snoc {α : Type} {l : List α} {j : Nat} {x : α} (h : l[j]? = some x) : l.take (j + 1) = l.take j ++ [x] := by
  rw [List.take_add_one, h]; rfl

/-- Octs that stay, whatever is done to F. -/
def KeptB (F : Nat → Prop) (H : Heap) (a : Option Addr) (len cap : Nat) (xs : Octs) : Prop := ∀ H', ExtP F H H' → SRow H' 1 len (.slice a len cap) (bytesV xs)

theorem KeptB.at_ {F : Nat → Prop} {H : Heap} {a : Option Addr} {len cap : Nat} {xs : Octs} (h : KeptB F H a len cap xs) : SRow H 1 len (.slice a len cap) (bytesV xs) := h H (ExtP.refl _ _)
theorem KeptB.of {F : Nat → Prop} {H : Heap} {a : Option Addr} {len cap : Nat} {xs : Octs} (h : SRow H 1 len (.slice a len cap) (bytesV xs)) (ha : ∀ i, i ∈ blkOf a → ¬ F i) : KeptB F H a len cap xs := fun _ hx => h.extP hx ha
/-- What was there ahead of all that is written stays. -/
theorem KeptB.old {F : Nat → Prop} {H0 H : Heap} {a : Option Addr} {len cap : Nat} {xs : Octs} (h : SRow H0 1 len (.slice a len cap) (bytesV xs)) (hx : Ext [] H0 H) (hF : ∀ i, F i → H0.size ≤ i) : KeptB F H a len cap xs :=
  fun _ hx' => h.ext (hx.transP hx' hF) (by simp)

/-! ### New -/

def zeros : Octs := List.replicate 128 0
def newD (n : Nat) : Dev := ⟨List.replicate n zeros, [], -1, false, 0⟩

theorem zerosV : bytesV zeros = List.replicate 128 (.int .u8 0) := by
  unfold bytesV zeros
  rw [List.map_replicate]; rfl

def none_ : Nat → Prop := fun _ => False

theorem new_elem {H H' : Heap} {b : Nat} (h : New H b (List.replicate 128 (.int .u8 0)) 5 H') : bytesE.ok H' [.slice (some ⟨b, 0, none⟩) 128 128] zeros :=
  own_elem (by
    have := Own.of_new (size := 1) (len := 128) (cap := 128) h.blk (by simp) (Nat.le_refl _) (by unfold maxLen; omega)
    rw [zerosV]
    simpa using this)

theorem three_new {H H2 : Heap} {b : Nat} {cells : List Value} {e : TypeId} (h : New H b cells e H2) : Three H2 (grow none_ H H2) b cells none 0 [] none 0 [] none 0 [] :=
  ⟨h.blk, Seq.nil _ _ _, Seq.nil _ _ _, Seq.nil _ _ _, .inr ⟨by have := h.eq; omega, h.blk.lt⟩, fun k hk => (by cases hk), fun k hk => (by cases hk), fun k hk => (by cases hk), fun hk => (by cases hk), fun hk => (by cases hk), fun hk => (by cases hk), fun k hk => (by cases hk), fun k hk => (by cases hk), fun k hk => (by cases hk), fun k hk => by
    rcases hk with hk | hk
    · exact hk.elim
    · exact hk.2⟩

theorem grow_low {H H' : Heap} : ∀ k, grow none_ H H' k → H.size ≤ k ∧ k < H'.size := by
  rintro k (hk | hk)
  · exact hk.elim
  · exact hk

theorem replicate_snoc {α : Type} (n : Nat) (x : α) : List.replicate (n + 1) x = List.replicate n x ++ [x] := by
  rw [List.replicate_succ']

theorem dnew_ok (n : Int) (H : Heap) : Does Tryz.prog 28 [.int .i64 n] H fun v H' => Ext [] H H' ∧ ((¬ (8 ≤ n ∧ n ≤ 4096) ∧ v = .tuple #[.pointer none, .int .i64 1]) ∨
    ((8 ≤ n ∧ n ≤ 4096) ∧ ∃ pd, v = .tuple #[.pointer (some ⟨pd, 0, none⟩), .int .i64 0] ∧ IsDev H' (grow none_ H H') pd (newD n.toNat))) := by
  refine Fn_of_vc Tryz.mixed (vc_dnew _ _ _) ?_
  refine ⟨fun h1 => ⟨Ext.refl _ _, .inl ⟨by omega, rfl⟩⟩, fun h1 => ⟨fun h2 => ⟨Ext.refl _ _, .inl ⟨by omega, rfl⟩⟩, fun h2 => ?_⟩⟩
  intro b1 H2 hn
  have hb1 := hn.eq
  refine ⟨fun i H' => ∃ (j : Nat) (ak : Option Addr) (ck : Nat), i = j ∧ j ≤ n.toNat ∧ Ext [] H H' ∧ Three H' (grow none_ H H') b1 [.slice ak j ck, .slice none 0 0, .slice none 0 0, .int .i64 (-1), .bool false, .int .i64 0] ak ck (List.replicate j zeros) none 0 [] none 0 [], fun i _ => n.toNat - i.toNat,
    ⟨0, none, 0, rfl, Nat.zero_le _, hn.ext, three_new hn⟩, ?_⟩
  rintro _ H6 ⟨j, ak, ck, rfl, hj, hx6, h6⟩
  have hs6 := hx6.size
  have e128 : Int.toNat 128 = 128 := rfl
  refine ⟨fun h3 => ?_, fun h3 => ?_⟩
  · refine ⟨b1, 0, rfl, ak, j, ck, h6.head.cell 0, by decide, by decide, by decide, fun b12 H13 hn13 => ?_⟩
    rw [e128] at hn13
    have hx13 := hn13.ext
    have h13 := (h6.grown hx13.toP (by simp))
    have hel := new_elem hn13
    have hb12 := hn13.eq
    have hs13 := hn13.size
    refine ⟨⟨h13.head.cell 0, trivial⟩, fun b14 H15 hn15 => ⟨⟨(h13.head.ext hn15.ext (by simp)).cell 0, trivial⟩, ?_⟩⟩
    have hsk := h13.sk
    rw [List.length_replicate] at hsk
    refine hsk.push (v := [.slice (some ⟨b12, 0, none⟩) 128 128]) (x := zeros) (fun k hk => hk.2.2.1) hel (fun k hk => ?_) rfl (by omega) ?_ b14 H15 hn15
    · simp only [bytesE, blkOf, List.mem_singleton] at hk
      subst hk
      exact h6.calm_new (by omega) (by omega)
    · intro a' c' H20 hs20 hx20 hk20
      have h20 := h13.swapK hx20.toP (fun k hk => hk) (kept' := List.replicate (j + 1) zeros) (by rw [List.length_replicate, replicate_snoc]; exact hs20) hk20
      refine ⟨b1, 0, rfl, h20.head.cells 1 0 (by simp), fun H23 hp => ?_⟩
      obtain ⟨h23, hx23⟩ := h20.poke hp (by simp)
      have hxx : Ext [] H H23 := ((hx6.trans hx13).trans' hx20 (fun i hi => .inl (grow_low i (h6.fk i hi)).1)).trans' hx23 (fun i hi => by simp only [List.mem_singleton] at hi; omega)
      · refine ⟨⟨by omega, by omega⟩, ⟨j + 1, a', c', by omega, by omega, hxx, h23.up (fun k hk => ?_) (fun k hk => (grow_low k hk).2)⟩, by dsimp only; omega⟩
        have hs20' := hx20.size
        have hs23 := hx23.size
        have : H.size ≤ k ∧ k < H20.size := by
          rcases hk with (hk | hk) | hk
          · have := grow_low k hk; omega
          · omega
          · omega
        exact .inr ⟨this.1, by omega⟩
  · have ej : j = n.toNat := by omega
    subst ej
    have hsk := h6.sk
    rw [List.length_replicate] at hsk
    refine ⟨b1, 0, rfl, ak, _, ck, h6.head.cell 0, (clonell_ok rfl hsk (by omega)).mono ?_⟩
    rintro _ H30 ⟨a31, c33, rfl, hs30, hx30, hf30⟩
    have h30 := h6.swapN hx30.toP (by simp) (now' := List.replicate n.toNat zeros) (by rw [List.length_replicate]; exact hs30) (fun k hk => .inr (hf30 k hk))
    refine ⟨_, _, _, rfl, b1, 0, rfl, h30.head.cells 1 1 (by simp), fun H36 hp => ?_⟩
    obtain ⟨h36, hx36⟩ := h30.poke hp (by simp)
    have hs30' := hx30.size
    have hs36 := hx36.size
    refine ⟨(hx6.trans hx30).trans' hx36 (fun i hi => by simp only [List.mem_singleton] at hi; omega), .inr ⟨by omega, b1, rfl, ak, ck, a31, c33, none, 0, ?_⟩⟩
    have e1 : (newD n.toNat).kept.length = n.toNat := by simp [newD]
    have e2 : (newD n.toNat).now = List.replicate n.toNat zeros := rfl
    rw [e1, e2, List.length_replicate]
    refine h36.up (fun k hk => ?_) (fun k hk => (grow_low k hk).2)
    rcases hk with hk | hk
    · have := grow_low k hk; exact .inr ⟨this.1, by omega⟩
    · exact .inr ⟨by omega, by omega⟩

theorem rdnew_ok (n : Nat) (H : Heap) (hn8 : n ≤ 100000) : Does Tryz.prog 7 [.int .i64 n] H fun v H' => Ext [] H H' ∧ ∃ pd, v = .pointer (some ⟨pd, 0, none⟩) ∧ IsRDev H' (grow none_ H H') pd (newD n) := by
  refine Fn_of_vc Tryz.mixed (vc_rdnew _ _ _) ?_
  intro b1 H2 hn
  have hb1 := hn.eq
  refine ⟨fun i H' => ∃ (j : Nat) (ak : Option Addr) (ck : Nat), i = j ∧ j ≤ n ∧ Ext [] H H' ∧ Three H' (grow none_ H H') b1 [.slice ak j ck, .slice none 0 0, .int .i64 (-1), .bool false, .int .i64 0] ak ck (List.replicate j zeros) none 0 [] none 0 [], fun i _ => n - i.toNat,
    ⟨0, none, 0, rfl, Nat.zero_le _, hn.ext, three_new hn⟩, ?_⟩
  rintro _ H6 ⟨j, ak, ck, rfl, hj, hx6, h6⟩
  have hs6 := hx6.size
  have e128 : Int.toNat 128 = 128 := rfl
  refine ⟨fun h3 => ?_, fun h3 => ?_⟩
  · refine ⟨b1, 0, rfl, ak, j, ck, h6.head.cell 0, by decide, by decide, by decide, fun b12 H13 hn13 => ?_⟩
    rw [e128] at hn13
    have hx13 := hn13.ext
    have h13 := (h6.grown hx13.toP (by simp))
    have hel := new_elem hn13
    have hb12 := hn13.eq
    have hs13 := hn13.size
    refine ⟨⟨h13.head.cell 0, trivial⟩, fun b14 H15 hn15 => ⟨⟨(h13.head.ext hn15.ext (by simp)).cell 0, trivial⟩, ?_⟩⟩
    have hsk := h13.sk
    rw [List.length_replicate] at hsk
    refine hsk.push (v := [.slice (some ⟨b12, 0, none⟩) 128 128]) (x := zeros) (fun k hk => hk.2.2.1) hel (fun k hk => ?_) rfl (by omega) ?_ b14 H15 hn15
    · simp only [bytesE, blkOf, List.mem_singleton] at hk
      subst hk
      exact h6.calm_new (by omega) (by omega)
    · intro a' c' H20 hs20 hx20 hk20
      have h20 := h13.swapK hx20.toP (fun k hk => hk) (kept' := List.replicate (j + 1) zeros) (by rw [List.length_replicate, replicate_snoc]; exact hs20) hk20
      refine ⟨b1, 0, rfl, h20.head.cells 1 0 (by simp), fun H23 hp => ?_⟩
      obtain ⟨h23, hx23⟩ := h20.poke hp (by simp)
      have hxx : Ext [] H H23 := ((hx6.trans hx13).trans' hx20 (fun i hi => .inl (grow_low i (h6.fk i hi)).1)).trans' hx23 (fun i hi => by simp only [List.mem_singleton] at hi; omega)
      · refine ⟨⟨by omega, by omega⟩, ⟨j + 1, a', c', by omega, by omega, hxx, h23.up (fun k hk => ?_) (fun k hk => (grow_low k hk).2)⟩, by dsimp only; omega⟩
        have hs20' := hx20.size
        have hs23 := hx23.size
        have : H.size ≤ k ∧ k < H20.size := by
          rcases hk with (hk | hk) | hk
          · have := grow_low k hk; omega
          · omega
          · omega
        exact .inr ⟨this.1, by omega⟩
  · have ej : j = n := by omega
    subst ej
    refine ⟨hx6, b1, rfl, ak, ck, none, 0, ?_⟩
    have e1 : (newD j).kept.length = j := by simp [newD]
    rw [e1]
    exact h6

end Go.Proofs
end

section
open Go Go.Vc
namespace Go.Proofs

/-! ### Flush -/

def flushD (D : Dev) : Dev × Int := if (wk D).2 then ({ (wk D).1 with kept := D.now, pend := [] }, 0) else ((wk D).1, 4)

theorem wkWf {D : Dev} {n B : Nat} (h : D.Wf n B) : (wk D).1.Wf n (B + 1) := by
  have hf := h.fuse
  have hw := h.works
  have hp := h.pfew
  unfold wk
  split
  · exact ⟨h.len, h.few, h.size, h.pin, by simp only; omega, hf, ⟨hw.1, by simp only; omega⟩⟩
  · exact ⟨h.len, h.few, h.size, h.pin, by simp only; omega, ⟨by simp only; split <;> omega, by simp only; split <;> omega⟩, ⟨by simp only; omega, by simp only; omega⟩⟩

theorem nowSize {D : Dev} {n B : Nat} (h : D.Wf n B) : ∀ b ∈ D.now, b.length = 128 := laid_size D.pend D.kept h.size fun w hw => (h.pin w hw).2.2

theorem flushWf {D : Dev} {n B : Nat} (h : D.Wf n B) : (flushD D).1.Wf n (B + 1) := by
  have h1 := wkWf h
  unfold flushD
  split
  · exact ⟨by simp only [Dev.now, laid_length]; exact h.len, h.few, nowSize h, by simp, by simp, h1.fuse, h1.works⟩
  · exact h1

theorem dflush_ok {H : Heap} {F : Nat → Prop} {pd : Nat} {D : Dev} {n B : Nat} (h : IsDev H F pd D) (hw : D.Wf n B) (hB : B ≤ 1000000000) :
    Does Tryz.prog 42 [.pointer (some ⟨pd, 0, none⟩)] H fun v H' => v = .int .i64 (flushD D).2 ∧ IsDev H' (grow F H H') pd (flushD D).1 ∧ ExtP F H H' := by
  refine Fn_of_vc Tryz.mixed (vc_dflush _ _ _) ?_
  have hwk := hw.works
  refine (work_ok h (by omega) hwk.1 hw.fuse).mono ?_
  rintro _ H2 ⟨rfl, hd2, hx2⟩
  have hlt := h.lt
  have hs2 := hx2.size
  refine ⟨_, rfl, fun h1 => ?_, fun h1 => ?_⟩
  · have e : (wk D).2 = false := by
      cases hh : (wk D).2 with
      | false => rfl
      | true => rw [hh] at h1; exact absurd rfl h1
    have e2 : flushD D = ((wk D).1, 4) := by unfold flushD; rw [e]; rfl
    rw [e2, e]
    exact ⟨rfl, hd2.up (fun _ => .inl) (grow_lt hlt hs2), hx2⟩
  · have e : (wk D).2 = true := by
      cases hh : (wk D).2 with
      | true => rfl
      | false => rw [hh] at h1; exact absurd (show (4 : Int) ≠ 0 by decide) h1
    have e2 : flushD D = ({ (wk D).1 with kept := D.now, pend := [] }, 0) := by unfold flushD; rw [e]; rfl
    rw [e2]
    obtain ⟨ak, ck, an, cn, ap, cp, h2⟩ := hd2
    rw [wk_now D] at h2
    have hnl : D.now.length ≤ 100000 := by rw [show D.now.length = D.kept.length from laid_length _ _, hw.len]; exact hw.few
    refine ⟨_, _, rfl, _, _, _, h2.head.cell 1, (clonell_ok rfl h2.sn (by omega)).mono ?_⟩
    rintro _ H10 ⟨a11, c13, rfl, hs10, hx10, hf10⟩
    have h10 := h2.swapK hx10.toP (by simp) hs10 (fun k hk => .inr (hf10 k hk))
    refine ⟨_, _, _, rfl, _, _, rfl, h10.head.cells 1 0 (by simp), fun H16 hp => ?_⟩
    obtain ⟨h16, hx16⟩ := h10.poke hp (by simp)
    have h16' := h16.swapP (ExtP.refl (fun _ => False) H16) (by simp) (Seq.nil _ _ _) (ap' := none) (cp' := 0) (pend' := []) (fun k hk => by cases hk)
    refine ⟨_, _, rfl, h16'.head.cells 1 2 (by simp), fun H19 hp2 => ?_⟩
    obtain ⟨h19, hx19⟩ := h16'.poke hp2 (by simp)
    have s10 := hx10.size
    have s16 := hx16.size
    have s19 := hx19.size
    have hpd := h2.fh
    refine ⟨rfl, ⟨a11, c13, an, cn, none, 0, h19.up (fun k hk => ?_) (grow_lt hlt (by omega))⟩, ?_⟩
    · rcases hk with (hk | hk) | hk
      · exact .inl hk
      · exact .inr ⟨by omega, by omega⟩
      · exact .inr ⟨by omega, by omega⟩
    · refine ((hx2.trans' hx10.toP (by simp)).trans' hx16.toP ?_).trans' hx19.toP ?_ <;> (intro i hi; simp only [List.mem_singleton] at hi; subst hi; exact .inr hpd)

/-! ### Write -/

def writeD (D : Dev) (n : Nat) (k : Int) (b : Octs) : Dev × Int :=
  if ¬ (0 ≤ k ∧ k < n) ∨ b.length ≠ 128 then (D, 1) else if (wk D).2 then ({ (wk D).1 with pend := D.pend ++ [(k, b)] }, 0) else ((wk D).1, 4)

theorem writeWf {D : Dev} {n B : Nat} (h : D.Wf n B) (k : Int) (b : Octs) : (writeD D n k b).1.Wf n (B + 1) := by
  have h1 := wkWf h
  have hp := h.pfew
  unfold writeD
  split
  · exact ⟨h.len, h.few, h.size, h.pin, by simp only; omega, h.fuse, ⟨h.works.1, by have := h.works.2; simp only; omega⟩⟩
  · rename_i hk
    split
    · refine ⟨by rw [← h.len]; simp only [(wk_kept D).1], h.few, by simp only [(wk_kept D).1]; exact h.size, fun w hw => ?_, by simp; omega, h1.fuse, h1.works⟩
      rcases List.mem_append.1 hw with hw | hw
      · exact h.pin w hw
      · simp only [List.mem_singleton] at hw
        subst hw
        simp only
        exact ⟨by omega, by omega, by omega⟩
    · exact h1

theorem dwrite_ok {H : Heap} {F : Nat → Prop} {pd : Nat} {D : Dev} {n B : Nat} (h : IsDev H F pd D) (hw : D.Wf n B) (hB : B ≤ 1000000000) (k : Int) {a : Option Addr} {len cap : Nat} {xs : Octs} (hs : KeptB F H a len cap xs) :
    Does Tryz.prog 49 [.pointer (some ⟨pd, 0, none⟩), .int .i64 k, .slice a len cap] H fun v H' => v = .int .i64 (writeD D n k xs).2 ∧ IsDev H' (grow F H H') pd (writeD D n k xs).1 ∧ ExtP F H H' := by
  refine Fn_of_vc Tryz.mixed (vc_dwrite _ _ _ _ _ _ _) ?_
  have hl : xs.length = len := by have := hs.at_.1; rw [bytesV_length] at this; omega
  have hlt := h.lt
  have hwl := hw.len
  refine (has_ok h k).mono ?_
  rintro _ _ ⟨rfl, rfl⟩
  rw [hwl]
  have keep : IsDev H (grow F H H) pd D := h.up (fun _ => .inl) (grow_lt hlt (Nat.le_refl _))
  refine ⟨_, rfl, fun h1 => ?_, fun h1 => ⟨fun h2 => ?_, fun h2 => ?_⟩⟩
  · have h1' : ¬ (0 ≤ k ∧ k < (n : Int)) := by simpa using h1
    have e : writeD D n k xs = (D, 1) := if_pos (.inl h1')
    rw [e]
    exact ⟨rfl, keep, ExtP.refl _ _⟩
  · have e : writeD D n k xs = (D, 1) := if_pos (.inr (by omega))
    rw [e]
    exact ⟨rfl, keep, ExtP.refl _ _⟩
  have hk : 0 ≤ k ∧ k < n := by simpa using h1
  have hc : ¬ (¬ (0 ≤ k ∧ k < (n : Int)) ∨ xs.length ≠ 128) := by omega
  have hwk := hw.works
  refine (work_ok h (by omega) hwk.1 hw.fuse).mono ?_
  rintro _ H5 ⟨rfl, hd5, hx5⟩
  have hs5 := hx5.size
  refine ⟨_, rfl, fun h3 => ?_, fun h3 => ?_⟩
  · have e : (wk D).2 = false := by
      cases hh : (wk D).2 with
      | false => rfl
      | true => rw [hh] at h3; exact absurd rfl h3
    have e2 : writeD D n k xs = ((wk D).1, 4) := by unfold writeD; rw [if_neg hc, e]; rfl
    rw [e2, e]
    exact ⟨rfl, hd5.up (fun _ => .inl) (grow_lt hlt hs5), hx5⟩
  have e : (wk D).2 = true := by
    cases hh : (wk D).2 with
    | true => rfl
    | false => rw [hh] at h3; exact absurd (show (4 : Int) ≠ 0 by decide) h3
  have e2 : writeD D n k xs = ({ (wk D).1 with pend := D.pend ++ [(k, xs)] }, 0) := by unfold writeD; rw [if_neg hc, e]; rfl
  rw [e2]
  obtain ⟨ak, ck, an, cn, ap, cp, h5⟩ := hd5
  have hp5 := (wk_kept D).2
  have hk5 := (wk_kept D).1
  rw [wk_now D, hk5, hp5] at h5
  refine (clonel_ok (hs _ hx5) (by omega)).mono ?_
  rintro _ H8 ⟨a9, c11, rfl, ho8, hx8, hf8⟩
  refine ⟨_, _, _, rfl, fun b12 H13 hn => ⟨hn.blk.cells 2 0 (by simp), fun H14 hput => ?_⟩⟩
  have hn13 := hn.blk
  have hb14 := hput.blk hn13 (by simp)
  have ex14 : splice [Value.int .i64 0, .slice none 0 0] 0 [Value.int .i64 k, .slice a9 len c11] = [Value.int .i64 k, .slice a9 len c11] := rfl
  rw [ex14] at hb14
  have e12 := hn.eq
  have s13 := hn.size
  have s14 := hput.size
  have s8 := hx8.size
  have hx14 : Ext [] H5 H14 := (hx8.trans hn.ext).trans' hput.ext (fun i hi => by simp only [List.mem_singleton] at hi; omega)
  have hx814 : Ext [] H8 H14 := hn.ext.trans' hput.ext (fun i hi => by simp only [List.mem_singleton] at hi; omega)
  have h14 := h5.grown hx14.toP (by simp)
  have ho14 := ho8.ext hx814 (by simp)
  have hf9 : ∀ i, i ∈ blkOf a9 → calm (grow F H5 H14) pd ak an ap i := fun i hi => h5.calm_new (hf8 i hi) (by have := ho14.lt i hi; omega)
  refine ⟨_, _, rfl, ap, _, cp, h14.head.cell 2, k, hb14.cell 0, a9, len, c11, hb14.cell 1, fun b24 H25 hn25 => ⟨⟨(h14.head.ext hn25.ext (by simp)).cell 2, trivial⟩, ?_⟩⟩
  have hpf := hw.pfew
  refine h14.sp.push (v := [.int .i64 k, .slice a9 len c11]) (x := (k, xs)) (fun i hi => hi.2.2.2.2) ⟨a9, len, c11, rfl, ho14.2.1, ho14.row _ _, ho14.lt⟩ (fun i hi => hf9 i hi) rfl (by omega) ?_ b24 H25 hn25
  intro a28 c29 H30 hs30 hx30 hk30
  have h30 := h14.swapP hx30.toP (fun i hi => hi) (pend' := D.pend ++ [(k, xs)]) (by rw [List.length_append]; exact hs30) hk30
  have hlt14 := h14.lt
  have s30 := hx30.size
  have hb30 := hb14.ext hx30 (fun hi => by have := h5.lt _ (h5.fp _ hi); omega)
  refine ⟨_, _, rfl, h30.head.cells 1 2 (by simp), fun H33 hp => ?_⟩
  obtain ⟨h33, hx33⟩ := h30.poke hp (by simp)
  have hpdlt := h5.lt _ h5.fh
  have hb33 := hb30.ext hx33 (by simp only [List.mem_singleton]; omega)
  have s33 := hx33.size
  have hnow : D.now.length = n := by rw [← hwl]; exact laid_length _ _
  obtain ⟨b42, eb, kc, kp⟩ := h33.putN (i := k.toNat) (by omega)
  refine ⟨_, _, rfl, an, _, cn, h33.head.cell 1, a9, len, c11, hb33.cell 1, hk.1, by omega, b42, 0, eb, kc, fun H44 hput2 => ?_⟩
  have hx1433 : ExtP (fun i => i ∈ blkOf ap ∨ i = pd) H14 H33 := (hx30.toP.mono (fun i _ hi => .inl hi)).trans' hx33.toP (fun i hi => by simp only [List.mem_singleton] at hi; exact .inr (.inr hi))
  have hel : bytesE.ok H33 [.slice a9 len c11] xs := own_elem (ho14.extP hx1433 (fun i hi => by
    have h1 := (hf9 i hi)
    rintro (h2 | h2)
    · exact h1.2.2.2.2 h2
    · exact h1.2.1 h2))
  obtain ⟨h44, hx44⟩ := kp (.slice a9 len c11) xs H44 hel (fun i hi => by
    have h1 := hf9 i hi
    refine ⟨.inl h1.1, h1.2.1, h1.2.2.1, h1.2.2.2.1, fun h2 => ?_⟩
    rcases hk30 i h2 with h3 | h3
    · exact h1.2.2.2.2 h3
    · have := ho14.lt i hi; omega) hput2
  have s44 := hx44.size
  refine ⟨rfl, ⟨ak, ck, an, cn, a28, c29, ?_⟩, ?_⟩
  · have e3 : ({ (wk D).1 with pend := D.pend ++ [(k, xs)] } : Dev).now = D.now.set k.toNat xs := by
      show laid (wk D).1.kept (D.pend ++ [(k, xs)]) = _
      rw [laid_snoc, hk5]; rfl
    rw [e3]
    simp only [hk5, List.length_set, List.length_append]
    refine h44.up (fun i hi => ?_) (grow_lt hlt (by omega))
    rcases hi with (hi | hi) | hi
    · exact .inl hi
    · exact .inr ⟨by omega, by omega⟩
    · exact .inr ⟨by omega, by omega⟩
  · refine (((hx5.trans' hx14.toP (by simp)).trans' hx30.toP ?_).trans' hx33.toP ?_).trans' hx44.toP ?_
    · intro i hi; exact .inr (h5.fp i hi)
    · intro i hi; simp only [List.mem_singleton] at hi; subst hi; exact .inr h5.fh
    · intro i hi; exact .inr (h5.fn i hi)

end Go.Proofs
end

section
open Go Go.Vc
namespace Go.Proofs

/-! ### Bits of a mask -/

def mbit (ms : Octs) (i : Nat) : Bool := decide (i / 8 < ms.length) && (ms.getD (i / 8) 0).toNat.testBit (i % 8)

theorem pos_fin : ∀ x : Fin 256, ∀ j : Fin 8, decide ((0 : Int) < bits .and .u8 (Int.fdiv (x.val : Int) (2 ^ (min j.val 8))) 1) = Nat.testBit x.val j.val := by decide +kernel

theorem pos_byte (b : UInt8) (q : Int) (h0 : 0 ≤ q) (h1 : q < 8) : ((0 : Int) < bits .and .u8 (Int.fdiv (b.toNat : Int) (2 ^ (min q.toNat (IntKind.bits .u8)))) 1) ↔ b.toNat.testBit q.toNat = true := by
  have := pos_fin ⟨b.toNat, b.toNat_lt⟩ ⟨q.toNat, by omega⟩
  rw [← this]
  simp [IntKind.bits]

theorem one_fin : ∀ x : Fin 256, ∀ j : Fin 8, decide (bits .and .u8 (Int.fdiv (x.val : Int) (2 ^ (min j.val 8))) 1 = 1) = Nat.testBit x.val j.val := by decide +kernel

theorem one_byte (b : UInt8) (q : Int) (h0 : 0 ≤ q) (h1 : q < 8) : (bits .and .u8 (Int.fdiv (b.toNat : Int) (2 ^ (min q.toNat (IntKind.bits .u8)))) 1 = 1) ↔ b.toNat.testBit q.toNat = true := by
  have := one_fin ⟨b.toNat, b.toNat_lt⟩ ⟨q.toNat, by omega⟩
  rw [← this]
  simp [IntKind.bits]

theorem set_ok {H : Heap} {a : Option Addr} {len cap : Nat} {ms : Octs} (h : SRow H 1 len (.slice a len cap) (bytesV ms)) (i : Nat) (hi : i ≤ 1000000000) :
    Does Tryz.prog 45 [.slice a len cap, .int .i64 i] H fun v H' => v = .bool (mbit ms i) ∧ H = H' := by
  refine Fn_of_vc Tryz.mixed (vc_set _ _ _ _ _ _) ?_
  have hl : ms.length = len := by have := h.1; rw [bytesV_length] at this; omega
  refine ⟨by decide, fun q hq => ?_⟩
  rw [wrap_tdiv (by omega) (by decide) (by omega)] at hq
  refine ⟨fun h1 => ⟨by decide, fun q2 hq2 => ?_⟩, fun h1 => ⟨?_, rfl⟩⟩
  · rw [wrap_tdiv (by omega) (by decide) (by omega)] at hq2
    have e1 : q2.toNat = i / 8 := by omega
    obtain ⟨b, o, rfl, hc⟩ := h.get (bytesV_get ms (i / 8) (by omega))
    refine ⟨by omega, by omega, b, o, rfl, _, by rw [e1]; exact hc, by decide, fun q6 hq6 => ?_⟩
    rw [tmod_pos (by omega)] at hq6
    refine ⟨by omega, ?_⟩
    rintro _ rfl _ rfl
    refine ⟨dec_bool' ?_, rfl⟩
    rw [pos_byte _ q6 (by omega) (by omega), show q6.toNat = i % 8 by omega, mbit, decide_eq_true (by omega)]
    simp
  · rw [mbit, decide_eq_false (by omega)]; rfl
where
  dec_bool' {p : Prop} {i : Decidable p} {b : Bool} (h : p ↔ b = true) : Value.bool (@decide p i) = .bool b := congrArg _ (dec_bool h)

/-! ### Crash -/

def crashL (ms : Octs) : List (Int × Octs) → Nat → List Octs → List Octs
  | [], _, kept => kept
  | w :: r, i, kept => crashL ms r (i + 1) (if mbit ms i then kept.set w.1.toNat w.2 else kept)

theorem crashL_snoc (ms : Octs) (w : Int × Octs) : ∀ (l : List (Int × Octs)) (i : Nat) (kept : List Octs), crashL ms (l ++ [w]) i kept = if mbit ms (i + l.length) then (crashL ms l i kept).set w.1.toNat w.2 else crashL ms l i kept
  | [], i, kept => rfl
  | x :: l, i, kept => by
    rw [List.cons_append, crashL, crashL_snoc ms w l, crashL, List.length_cons, show i + 1 + l.length = i + (l.length + 1) by omega]

theorem crashL_length (ms : Octs) : ∀ (l : List (Int × Octs)) (i : Nat) (kept : List Octs), (crashL ms l i kept).length = kept.length
  | [], i, kept => rfl
  | x :: l, i, kept => by
    rw [crashL, crashL_length ms l]
    split <;> simp

theorem crashL_size (ms : Octs) : ∀ (l : List (Int × Octs)) (i : Nat) (kept : List Octs), (∀ b ∈ kept, b.length = 128) → (∀ w ∈ l, w.2.length = 128) → ∀ b ∈ crashL ms l i kept, b.length = 128
  | [], i, kept, h1, _ => h1
  | x :: l, i, kept, h1, h2 => by
    refine crashL_size ms l _ _ (fun b hb => ?_) (fun w hw => h2 w (by simp [hw]))
    split at hb
    · rcases List.mem_or_eq_of_mem_set hb with hb | rfl
      · exact h1 b hb
      · exact h2 x (by simp)
    · exact h1 b hb

def crashD (D : Dev) (ms : Octs) : Dev := ⟨crashL ms D.pend 0 D.kept, [], -1, false, D.works⟩

theorem crashWf {D : Dev} {n B : Nat} (h : D.Wf n B) (ms : Octs) : (crashD D ms).Wf n B :=
  ⟨by simp only [crashD, crashL_length]; exact h.len, h.few, crashL_size ms _ _ _ h.size (fun w hw => (h.pin w hw).2.2), by simp [crashD], by simp [crashD], ⟨by simp [crashD], by simp [crashD]⟩, h.works⟩

theorem dcrash_ok {H : Heap} {F : Nat → Prop} {pd : Nat} {D : Dev} {n B : Nat} (h : IsDev H F pd D) (hw : D.Wf n B) (hB : B ≤ 1000000000) {a : Option Addr} {len cap : Nat} {ms : Octs} (hs : KeptB F H a len cap ms) :
    Does Tryz.prog 15 [.pointer (some ⟨pd, 0, none⟩), .slice a len cap] H fun v H' => v = .tuple #[] ∧ IsDev H' (grow F H H') pd (crashD D ms) ∧ ExtP F H H' := by
  refine Fn_of_vc Tryz.mixed (vc_dcrash _ _ _ _ _ _) ?_
  have hlt := h.lt
  obtain ⟨ak, ck, an, cn, ap, cp, h⟩ := h
  have hpd := h.fh
  have hpf := hw.pfew
  refine ⟨_, _, rfl, ap, D.pend.length, cp, h.head.cell 2, fun i H' => ∃ j : Nat, i = j ∧ j ≤ D.pend.length ∧ ExtP F H H' ∧
      Three H' (grow F H H') pd [.slice ak D.kept.length ck, .slice an D.now.length cn, .slice ap D.pend.length cp, .int .i64 D.fuse, .bool D.dead, .int .i64 D.works] ak ck (crashL ms (D.pend.take j) 0 D.kept) an cn D.now ap cp D.pend,
    fun i _ => D.pend.length - i.toNat, ⟨0, rfl, Nat.zero_le _, ExtP.refl _ _, h.up (fun _ => .inl) (grow_lt hlt (Nat.le_refl _))⟩, ?_⟩
  rintro _ H9 ⟨j, rfl, hj, hx9, h9⟩
  have s9 := hx9.size
  refine ⟨fun h1 => ?_, fun h1 => ?_⟩
  · obtain ⟨w, hwj⟩ : ∃ w, D.pend[j]? = some w := ⟨_, List.getElem?_eq_getElem (by omega)⟩
    obtain ⟨b11, o12, v, eb, hc, ⟨a14, l15, c16, rfl, hle14, hr, hlt14⟩, hf⟩ := h9.sp.get hwj
    have hpin := hw.pin w (List.mem_of_getElem? hwj)
    have hnext : crashL ms (D.pend.take (j + 1)) 0 D.kept = if mbit ms j then (crashL ms (D.pend.take j) 0 D.kept).set w.1.toNat w.2 else crashL ms (D.pend.take j) 0 D.kept := by
      rw [take_snoc hwj, crashL_snoc, Nat.zero_add, List.length_take, Nat.min_eq_left (by omega)]
    refine ⟨fun H' => ExtP F H H' ∧ Three H' (grow F H H') pd [.slice ak D.kept.length ck, .slice an D.now.length cn, .slice ap D.pend.length cp, .int .i64 D.fuse, .bool D.dead, .int .i64 D.works] ak ck (crashL ms (D.pend.take (j + 1)) 0 D.kept) an cn D.now ap cp D.pend, ?_, ?_⟩
    · have c0 := hc 0 _ rfl
      have c1 := hc 1 _ rfl
      refine ⟨by omega, h1, b11, o12, eb, w.1, c0, a14, l15, c16, c1, fun b17 H18 hn => ⟨hn.blk.cells 2 0 (by simp), fun H19 hput => ?_⟩⟩
      have hb19 := hput.blk hn.blk (by simp)
      have ex19 : splice [Value.int .i64 0, .slice none 0 0] 0 [Value.int .i64 w.1, .slice a14 l15 c16] = [Value.int .i64 w.1, .slice a14 l15 c16] := rfl
      rw [ex19] at hb19
      have e17 := hn.eq
      have s19 : H19.size = H9.size + 1 := by rw [hput.size, hn.size]
      have hx19 : Ext [] H9 H19 := hn.ext.trans' hput.ext (fun i hi => by simp only [List.mem_singleton] at hi; omega)
      have h19 := h9.grown hx19.toP (by simp)
      have hsub : ∀ {B : Heap}, H19.size ≤ B.size → ∀ k, grow (grow F H H9) H9 H19 k → grow F H B k := by
        rintro B hB k ((hk | hk) | hk)
        · exact .inl hk
        · exact .inr ⟨hk.1, by omega⟩
        · exact .inr ⟨by omega, by omega⟩
      have hxx : ExtP F H H19 := hx9.trans' hx19.toP (by simp)
      refine (set_ok (hs _ hxx) j (by omega)).mono ?_
      rintro _ _ ⟨rfl, rfl⟩
      refine ⟨_, rfl, fun hm => ?_, fun hm => ?_⟩
      · have hklen : w.1.toNat < (crashL ms (D.pend.take j) 0 D.kept).length := by rw [crashL_length, hw.len]; omega
        obtain ⟨b32, eb2, kc, kp⟩ := h19.putK hklen
        refine ⟨_, _, rfl, ak, _, ck, h19.head.cell 0, w.1, hb19.cell 0, a14, l15, c16, hb19.cell 1, hpin.1, by rw [hw.len]; exact hpin.2.1, b32, 0, eb2, kc, fun H34 hput2 => ?_⟩
        have hel : bytesE.ok H19 [.slice a14 l15 c16] w.2 := ⟨a14, l15, c16, rfl, hle14, hr.ext hx19 (by simp), fun k hk => by have := hlt14 k hk; omega⟩
        obtain ⟨h34, hx34⟩ := kp _ _ H34 hel (fun k hk => by
          have := hf k hk
          exact ⟨.inl this.1, this.2⟩) hput2
        rw [hnext, hm]
        refine ⟨hxx.trans' hx34.toP (fun i hi => .inr (h.fk i hi)), h34.up (hsub hx34.size) (grow_lt hlt (by have := hx34.size; omega))⟩
      · rw [hnext, hm]
        exact ⟨hxx, h19.up (hsub (Nat.le_refl _)) (grow_lt hlt (by omega))⟩
    · rintro H35 ⟨hx35, h35⟩
      exact ⟨⟨by omega, by omega⟩, ⟨j + 1, by omega, by omega, hx35, h35⟩, by dsimp only; omega⟩
  · have ej : j = D.pend.length := by omega
    subst ej
    rw [List.take_length] at h9
    have hkl : (crashL ms D.pend 0 D.kept).length = D.kept.length := crashL_length _ _ _ _
    have hfew := hw.few
    have hsk := h9.sk
    rw [hkl] at hsk
    refine ⟨_, _, rfl, ak, _, ck, h9.head.cell 0, (clonell_ok rfl hsk (by rw [hw.len]; omega)).mono ?_⟩
    rintro _ H42 ⟨a43, c45, rfl, hs42, hx42, hf42⟩
    have h42 := h9.swapN hx42.toP (by simp) (now' := crashL ms D.pend 0 D.kept) (by rw [hkl]; exact hs42) (fun k hk => .inr (hf42 k hk))
    refine ⟨_, _, _, rfl, _, _, rfl, h42.head.cells 1 1 (by simp), fun H48 hp1 => ?_⟩
    obtain ⟨h48, hx48⟩ := h42.poke hp1 (by simp)
    have h48' := h48.swapP (ExtP.refl (fun _ => False) H48) (by simp) (Seq.nil _ _ _) (ap' := none) (cp' := 0) (pend' := []) (fun k hk => by cases hk)
    refine ⟨_, _, rfl, h48'.head.cells 1 2 (by simp), fun H51 hp2 => ?_⟩
    obtain ⟨h51, hx51⟩ := h48'.poke hp2 (by simp)
    refine ⟨_, _, rfl, h51.head.cells 1 4 (by simp), fun H54 hp3 => ?_⟩
    obtain ⟨h54, hx54⟩ := h51.poke hp3 (by simp)
    refine ⟨_, _, rfl, h54.head.cells 1 3 (by simp), fun H57 hp4 => ?_⟩
    obtain ⟨h57, hx57⟩ := h54.poke hp4 (by simp)
    have s42 := hx42.size
    have s48 := hx48.size
    have s51 := hx51.size
    have s54 := hx54.size
    have s57 := hx57.size
    refine ⟨rfl, ⟨ak, ck, a43, c45, none, 0, ?_⟩, ?_⟩
    · have e1 : (crashD D ms).now = crashL ms D.pend 0 D.kept := rfl
      have e2 : (crashD D ms).kept = crashL ms D.pend 0 D.kept := rfl
      rw [e1, e2, hkl]
      refine h57.up (fun i hi => ?_) (grow_lt hlt (by omega))
      rcases hi with ((hi | hi) | hi) | hi
      · exact .inl hi
      · exact .inr ⟨by omega, by omega⟩
      · exact .inr ⟨by omega, by omega⟩
      · exact .inr ⟨by omega, by omega⟩
    · refine ((((hx9.trans' hx42.toP (by simp)).trans' hx48.toP ?_).trans' hx51.toP ?_).trans' hx54.toP ?_).trans' hx57.toP ?_ <;> (intro i hi; simp only [List.mem_singleton] at hi; subst hi; exact .inr hpd)

end Go.Proofs
end

section
open Go Go.Vc
namespace Go.Proofs

def OwnO (H : Heap) (a : Option Addr) (n c : Nat) (xs : List Value) : Prop :=
  xs.length = n ∧ n ≤ c ∧ ((a = none ∧ c = 0) ∨ ∃ b o cs, a = some ⟨b, o, none⟩ ∧ Blk H b cs ∧ o + c ≤ cs.length ∧ (cs.drop o).take n = xs)

theorem OwnO.lt {H : Heap} {a : Option Addr} {n c : Nat} {xs : List Value} (h : OwnO H a n c xs) : ∀ k ∈ blkOf a, k < H.size := by
  obtain ⟨_, _, h | ⟨b, o, cs, rfl, hb, _⟩⟩ := h
  · rw [h.1]; intro k hk; cases hk
  · intro k hk
    simp only [blkOf, List.mem_singleton] at hk
    subst hk; exact hb.lt

theorem OwnO.ext {M : List Nat} {H H' : Heap} {a : Option Addr} {n c : Nat} {xs : List Value} (h : OwnO H a n c xs) (he : Ext M H H') (hm : ∀ k ∈ blkOf a, k ∉ M) : OwnO H' a n c xs := by
  obtain ⟨h1, h2, h | ⟨b, o, cs, rfl, hb, h3, h4⟩⟩ := h
  · exact ⟨h1, h2, .inl h⟩
  · exact ⟨h1, h2, .inr ⟨b, o, cs, rfl, hb.ext he (hm b (by simp [blkOf])), h3, h4⟩⟩

theorem window {cs xs : List Value} {o n j : Nat} (h : (cs.drop o).take n = xs) (hj : j < xs.length) : cs[o + j]? = xs[j]? := by
  subst h
  have hj' : j < n := by simp at hj; omega
  rw [List.getElem?_take_of_lt hj', List.getElem?_drop]

theorem OwnO.row {H : Heap} {a : Option Addr} {n c : Nat} {xs : List Value} (h : OwnO H a n c xs) (l m : Nat) : SRow H 1 n (.slice a l m) xs := by
  obtain ⟨h1, h2, ⟨rfl, rfl⟩ | ⟨b, o, cs, rfl, hb, h3, h4⟩⟩ := h
  · refine ⟨by omega, ?_⟩
    have : n = 0 := by omega
    subst this
    simpa using h1
  · refine ⟨by omega, .inr rfl, fun j u hj => ?_⟩
    show hcell H b (o + j) = some u
    rw [hb.cell, window h4 (List.getElem?_eq_some_iff.1 hj).1]
    exact hj

theorem OwnO.room {H : Heap} {a : Option Addr} {n c k : Nat} {xs : List Value} (h : OwnO H a n c xs) (hle : n + k ≤ c) : roomOf H a (n * 1) (k * 1) := by
  obtain ⟨h1, h2, ⟨rfl, _⟩ | ⟨b, o, cs, rfl, hb, h3, h4⟩⟩ := h
  · trivial
  · refine ⟨rfl, ?_⟩
    show Cells H b (o + n * 1) (k * 1)
    exact hb.cells _ _ (by omega)

theorem ext_new {A B C : Heap} {M : List Nat} (h : Ext [] A B) (k : Ext M B C) (hm : ∀ i ∈ M, A.size ≤ i) : Ext [] A C := h.trans' k (fun i hi => .inl (hm i hi))

theorem wrap_u64 (n : Int) : IntKind.wrap .u64 n = n % 18446744073709551616 := by
  simp only [IntKind.wrap, IntKind.bits, IntKind.signed]
  simp
theorem wrap_u8 (n : Int) : IntKind.wrap .u8 n = n % 256 := by
  simp only [IntKind.wrap, IntKind.bits, IntKind.signed]
  simp

theorem of_nat (n : Nat) (h : n < 18446744073709551616) : (BitVec.ofInt 64 (n : Int)).toNat = n := by
  rw [BitVec.toNat_ofInt]
  show ((n : Int) % 18446744073709551616).toNat = n
  omega

theorem or_low (n m : Nat) (h : n * 256 < 18446744073709551616) (hm : m < 256) : bits .or .u64 ((n : Int) * 256) m = (n : Int) * 256 + m := by
  unfold bits
  show IntKind.wrap .u64 ((BitVec.ofInt 64 ((n : Int) * 256) ||| BitVec.ofInt 64 (m : Int)).toNat : Int) = _
  have e : ((n : Int) * 256) = ((n * 256 : Nat) : Int) := by omega
  rw [e, BitVec.toNat_or, of_nat _ h, of_nat _ (by omega), wrap_u64]
  have := Nat.two_pow_add_eq_or_of_lt (i := 8) (b := m) hm n
  rw [show n * 256 = 2 ^ 8 * n by omega, ← this]
  omega

def u8s (l : List Int) : List Value := l.map fun z => .int .u8 z
theorem u8s_length (l : List Int) : (u8s l).length = l.length := by simp [u8s]
theorem u8s_append (l m : List Int) : u8s (l ++ m) = u8s l ++ u8s m := by simp [u8s]
theorem u8s_one (l : List Int) : ∀ u ∈ u8s l, Value.oneCell' u = true := by
  intro u hu
  obtain ⟨z, _, rfl⟩ := List.mem_map.1 hu
  rfl
theorem u8s_at {l : List Int} {j : Nat} {z : Int} (h : l[j]? = some z) : (u8s l)[j]? = some (.int .u8 z) := by simp [u8s, h]
theorem u8s_take (l : List Int) (k : Nat) : u8s (l.take k) = (u8s l).take k := by simp [u8s]
theorem u8s_drop (l : List Int) (k : Nat) : u8s (l.drop k) = (u8s l).drop k := by simp [u8s]

/-- The bytes of a number, the highest first. -/
def beL : Nat → Int → List Int
  | 0, _ => []
  | n + 1, v => (v / 256 ^ n % 256) :: beL n v
theorem beL_length : ∀ (n : Nat) (v : Int), (beL n v).length = n
  | 0, _ => rfl
  | n + 1, v => by simp [beL, beL_length n v]

/-! ### A writer -/
def WIs (G : Nat → Prop) (H : Heap) (b : Nat) (bs : List Int) : Prop :=
  G b ∧ ∃ a c, Blk H b [.slice a bs.length c] ∧ Own H 1 a bs.length c (u8s bs) ∧ b ∉ blkOf a ∧ ∀ k ∈ blkOf a, G k

theorem WIs.lt {G : Nat → Prop} {H : Heap} {b : Nat} {bs : List Int} (h : WIs G H b bs) : b < H.size := by
  obtain ⟨_, a, c, h1, _⟩ := h; exact h1.lt
theorem WIs.mono {G G' : Nat → Prop} {H : Heap} {b : Nat} {bs : List Int} (h : WIs G H b bs) (hg : ∀ k, k < H.size → G k → G' k) : WIs G' H b bs := by
  have hlt := h.lt
  obtain ⟨h0, a, c, h1, h2, h3, h4⟩ := h
  exact ⟨hg b hlt h0, a, c, h1, h2, h3, fun k hk => hg k (h2.lt k hk) (h4 k hk)⟩
theorem WIs.extP {G M : Nat → Prop} {H H' : Heap} {b : Nat} {bs : List Int} (h : WIs G H b bs) (he : ExtP M H H') (hm : ∀ k, G k → ¬ M k) : WIs G H' b bs := by
  obtain ⟨h0, a, c, h1, h2, h3, h4⟩ := h
  exact ⟨h0, a, c, h1.extP he (hm b h0), h2.extP he (fun k hk => hm k (h4 k hk)), h3, h4⟩
theorem WIs.ext {G : Nat → Prop} {H H' : Heap} {b : Nat} {bs : List Int} (h : WIs G H b bs) (he : Ext [] H H') : WIs G H' b bs := by
  obtain ⟨h0, a, c, h1, h2, h3, h4⟩ := h
  exact ⟨h0, a, c, h1.ext he (by simp), h2.ext he (by simp), h3, h4⟩

theorem nw_ok (H : Heap) : Does Tryz.prog 74 [] H fun v H' => v = .pointer (some ⟨H.size, 0, none⟩) ∧ WIs (fun k => H.size ≤ k) H' H.size [] ∧ Ext [] H H' := by
  refine Fn_of_vc Tryz.mixed (vc_nw _ _) ?_
  intro b H2 hn
  have := hn.eq
  subst this
  exact ⟨rfl, ⟨Nat.le_refl _, none, 0, hn.blk, Own.nil _ _, by simp [blkOf], by simp [blkOf]⟩, hn.ext⟩

theorem pow8 (k : Nat) : (2 : Int) ^ (8 * k) = 256 ^ k := by
  rw [Int.pow_mul]; rfl

theorem put_ok {G : Nat → Prop} {b : Nat} {bs : List Int} {x : Int} {n : Nat} {H : Heap} (hG : ∀ k, H.size ≤ k → G k) (hn : n ≤ 8) (hl : bs.length ≤ 1000000) (h : WIs G H b bs) :
    Does Tryz.prog 88 [.pointer (some ⟨b, 0, none⟩), .int .u64 x, .int .i64 n] H fun v H' => v = .tuple #[] ∧ WIs G H' b (bs ++ beL n x) ∧ ExtP G H H' := by
  refine Fn_of_vc Tryz.mixed (vc_put _ _ _ _ _) ?_
  refine ⟨⟨by omega, by omega⟩, fun i H' => ∃ (j : Nat) (d : List Int), i = (j : Int) - 1 ∧ j ≤ n ∧ WIs G H' b d ∧ d ++ beL j x = bs ++ beL n x ∧ ExtP G H H', fun i _ => (i + 1).toNat, ⟨n, bs, rfl, Nat.le_refl _, h, rfl, ExtP.refl _ _⟩, ?_⟩
  rintro _ H4 ⟨j, d, rfl, hj, hw, hd, hx4⟩
  refine ⟨fun h0 => ?_, fun h0 => ?_⟩
  · obtain ⟨k, rfl⟩ : ∃ k, j = k + 1 := ⟨j - 1, by omega⟩
    have hdl : d.length ≤ 1000008 := by
      have := congrArg List.length hd
      simp only [List.length_append, beL_length] at this
      omega
    have hblt := hw.lt
    obtain ⟨g0, a, c, hb, ho, hnb, hg⟩ := hw
    have ek : (8 * (((k + 1 : Nat) : Int) - 1)) = ((8 * k : Nat) : Int) := by omega
    refine ⟨b, 0, rfl, a, _, c, by rw [hb.cell]; rfl, ⟨by omega, by omega⟩, by omega, ?_⟩
    rintro _ rfl _ rfl b12 H13 hn13
    have hq : IntKind.wrap .u8 (Int.fdiv x (2 ^ (min (Int.toNat (8 * (((k + 1 : Nat) : Int) - 1))) (IntKind.bits .u64)))) = x / 256 ^ k % 256 := by
      rw [ek, Int.toNat_natCast, show min (8 * k) (IntKind.bits .u64) = 8 * k from Nat.min_eq_left (by show 8 * k ≤ 64; omega), pow8, wrap_u8, Int.fdiv_eq_ediv_of_nonneg _ (Int.pow_nonneg (by decide))]
    rw [hq] at hn13
    have ho13 := ho.ext hn13.ext (by simp)
    have hb13 := hb.ext hn13.ext (by simp)
    refine ⟨⟨by rw [hb13.cell]; rfl, trivial⟩, u8s d, [.int .u8 (x / 256 ^ k % 256)], ho13.row _ _, ⟨rfl, .inr rfl, fun i u hi => ?_⟩, u8s_one [x / 256 ^ k % 256], by omega, fun hle => by simpa using ho13.room (n := 1) hle, ?_⟩
    · show hcell H13 b12 (0 + i) = some u
      rw [Nat.zero_add, hn13.blk.cell]; exact hi
    intro a16 c17 H18 happ
    obtain ⟨ho18, hx18, hfr18⟩ := happ.own ho13 (ho13.row _ _) rfl rfl
    have hb18 := hb13.ext hx18 hnb
    refine ⟨b, 0, rfl, hb18.cells _ _ (by simp), fun H21 hp => ?_⟩
    have hb21 := hp.blk hb18 (by simp)
    have hs13 := hn13.size
    have hs18 := hx18.size
    have hnb16 : b ∉ blkOf a16 := by
      intro hm
      rcases hfr18 b hm with h' | h'
      · exact hnb h'
      · omega
    have ho21 := ho18.ext hp.ext (fun k hk hm => by simp only [List.mem_singleton] at hm; subst hm; exact hnb16 hk)
    have hx21 : ExtP G H4 H21 := (hn13.ext.anyP.trans (hx18.lift (fun k _ hk => hg k hk))).trans (hp.ext.lift (fun k _ hk => by simp only [List.mem_singleton] at hk; subst hk; exact g0))
    have hs4 := hx4.size
    refine ⟨⟨by omega, by omega⟩, ⟨k, d ++ [x / 256 ^ k % 256], by omega, by omega, ⟨g0, a16, c17, ?_, ?_, hnb16, ?_⟩, ?_, hx4.trans hx21⟩, by simp only []; omega⟩
    · simpa [splice] using hb21
    · rw [u8s_append, List.length_append]; exact ho21
    · intro k' hk'
      rcases hfr18 k' hk' with h' | h'
      · exact hg k' h'
      · exact hG k' (by omega)
    · rw [← hd, List.append_assoc]; rfl
  · have : j = 0 := by omega
    subst this
    have e : d = bs ++ beL n x := by rw [← hd]; simp [beL]
    subst e
    exact ⟨rfl, hw, hx4⟩

theorem wu_ok {G : Nat → Prop} {f n : Nat} {b : Nat} {bs : List Int} {x : Int} {H : Heap} (hf : (f = 95 ∧ n = 2) ∨ (f = 75 ∧ n = 4)) (hG : ∀ k, H.size ≤ k → G k) (hl : bs.length ≤ 1000000) (h : WIs G H b bs) :
    Does Tryz.prog f [.pointer (some ⟨b, 0, none⟩), .int .i64 x] H fun v H' => v = .tuple #[] ∧ WIs G H' b (bs ++ beL n (IntKind.wrap .u64 x)) ∧ ExtP G H H' := by
  rcases hf with ⟨rfl, rfl⟩ | ⟨rfl, rfl⟩
  · refine Fn_of_vc Tryz.mixed (vc_wu16 _ _ _ _) ?_
    rintro _ rfl
    refine (put_ok (n := 2) hG (by omega) hl h).mono ?_
    rintro _ _ ⟨rfl, h1, h2⟩
    exact ⟨rfl, rfl, h1, h2⟩
  · refine Fn_of_vc Tryz.mixed (vc_wu32 _ _ _ _) ?_
    rintro _ rfl
    refine (put_ok (n := 4) hG (by omega) hl h).mono ?_
    rintro _ _ ⟨rfl, h1, h2⟩
    exact ⟨rfl, rfl, h1, h2⟩

/-- Bytes that are told are new. -/
def Told (H : Heap) (H' : Heap) (v : Value) (bs : List Int) : Prop :=
  ∃ a c, v = .slice a bs.length c ∧ Own H' 1 a bs.length c (u8s bs) ∧ ∀ k ∈ blkOf a, H.size ≤ k

theorem fresh_copy {bs : List Int} {H H2 H12 : Heap} {b1 l : Nat} {a10 : Option Addr} {c11 : Nat} (hn : New H b1 [] 5 H2) (hl : bs.length = l) (happ : App H2 1 5 [(.int .u8 0)] (some ⟨b1, 0, none⟩) 0 0 [] (u8s bs) l a10 c11 H12) :
    Own H12 1 a10 (0 + l) c11 (u8s bs) ∧ Ext [] H H12 ∧ ∀ k ∈ blkOf a10, H.size ≤ k := by
  have ho : Own H2 1 (some ⟨b1, 0, none⟩) 0 0 ([] : List Value) := Own.of_new (size := 1) (len := 0) (cap := 0) hn.blk rfl (Nat.le_refl _) (by decide)
  obtain ⟨h1, h2, h3⟩ := happ.own ho (ho.row _ _) (by rw [u8s_length]; omega) rfl
  have := hn.eq
  have := hn.size
  refine ⟨by simpa using h1, ext_new hn.ext h2 (fun k hk => by simp only [blkOf, List.mem_singleton] at hk; omega), fun k hk => ?_⟩
  rcases h3 k hk with h' | h'
  · simp only [blkOf, List.mem_singleton] at h'; omega
  · omega

theorem bytes_ok {G : Nat → Prop} {b : Nat} {bs : List Int} {H : Heap} (hl : bs.length ≤ 1000000) (h : WIs G H b bs) :
    Does Tryz.prog 77 [.pointer (some ⟨b, 0, none⟩)] H fun v H' => Told H H' v bs ∧ Ext [] H H' := by
  refine Fn_of_vc Tryz.mixed (vc_bytes _ _ _) ?_
  intro b1 H2 hn
  obtain ⟨g0, a, c, hb, ho, hnb, hg⟩ := h
  have hb2 := hb.ext hn.ext (by simp)
  have ho2 := ho.ext hn.ext (by simp)
  have hoe : Own H2 1 (some ⟨b1, 0, none⟩) 0 0 ([] : List Value) := Own.of_new (size := 1) (len := 0) (cap := 0) hn.blk rfl (Nat.le_refl _) (by decide)
  refine ⟨b, 0, rfl, a, _, c, by rw [hb2.cell]; rfl, [], u8s bs, hoe.row _ _, ho2.row _ _, u8s_one _, by omega, fun hle => hoe.room (n := bs.length) hle, fun a10 c11 H12 happ => ?_⟩
  obtain ⟨h1, h2, h3⟩ := fresh_copy hn rfl happ
  rw [Nat.zero_add] at h1 ⊢
  exact ⟨⟨_, _, rfl, h1, h3⟩, h2⟩

def be (l : List Int) : Int := l.foldl (fun v c => v * 256 + c) 0
def Byt (l : List Int) : Prop := ∀ z ∈ l, 0 ≤ z ∧ z < 256
theorem pow256 {j k : Nat} (h : j ≤ k) : (256 : Int) ^ j ≤ 256 ^ k := by
  obtain ⟨d, rfl⟩ : ∃ d, k = j + d := ⟨k - j, by omega⟩
  clear h
  induction d with
  | zero => exact Int.le_refl _
  | succ d ih =>
    have := Int.pow_pos (n := 256) (m := j + d) (by decide)
    rw [← Nat.add_assoc, Int.pow_succ]
    omega
theorem be_snoc (l : List Int) (z : Int) : be (l ++ [z]) = be l * 256 + z := by simp [be]
theorem be_lt {l : List Int} (h : Byt l) : 0 ≤ be l ∧ be l < 256 ^ l.length := by
  have key : ∀ (m : List Int) (v : Int) (k : Nat), Byt m → 0 ≤ v → v < 256 ^ k → 0 ≤ m.foldl (fun v c => v * 256 + c) v ∧ m.foldl (fun v c => v * 256 + c) v < 256 ^ (k + m.length) := by
    intro m
    induction m with
    | nil => intro v k _ h0 h1; exact ⟨h0, h1⟩
    | cons z r ih =>
      intro v k hb h0 h1
      have hz := hb z (by simp)
      have := ih (v * 256 + z) (k + 1) (fun y hy => hb y (by simp [hy])) (by omega) (by rw [Int.pow_succ]; omega)
      simpa [List.length_cons, Nat.add_assoc, Nat.add_comm 1] using this
  have := key l 0 0 h (by decide) (by decide)
  rw [Nat.zero_add] at this
  exact this
theorem Byt.take {l : List Int} (h : Byt l) (k : Nat) : Byt (l.take k) := fun z hz => h z (List.mem_of_mem_take hz)
theorem Byt.drop {l : List Int} (h : Byt l) (k : Nat) : Byt (l.drop k) := fun z hz => h z (List.mem_of_mem_drop hz)

theorem SRow.take1 {H : Heap} {n : Nat} {a : Option Addr} {l c l' c' : Nat} {xs : List Value} (h : SRow H 1 n (.slice a l c) xs) {k : Nat} (hk : k ≤ n) : SRow H 1 k (.slice a l' c') (xs.take k) := by
  obtain ⟨h1, h2⟩ := h
  refine ⟨by rw [List.length_take]; omega, ?_⟩
  cases a with
  | none => simp only at h2 ⊢; rw [h2]; simp
  | some ad =>
    obtain ⟨h3, h4⟩ := h2
    refine ⟨?_, fun j u hj => ?_⟩
    · rcases h3 with rfl | h3
      · exact .inl (by simp)
      · exact .inr h3
    · have hjl : j < k := by have := (List.getElem?_eq_some_iff.1 hj).1; simp at this; omega
      rw [List.getElem?_take_of_lt hjl] at hj
      exact h4 j u hj

theorem OwnO.drop {H : Heap} {a : Option Addr} {n c k : Nat} {xs : List Value} (h : OwnO H a n c xs) (hk : k ≤ n) : OwnO H (if c = k then a else Option.map (fun x => Addr.add x (k * 1)) a) (n - k) (c - k) (xs.drop k) := by
  obtain ⟨h1, h2, ⟨rfl, rfl⟩ | ⟨b, o, cs, rfl, hb, h3, h4⟩⟩ := h
  · refine ⟨by simp; omega, by omega, .inl ⟨by split <;> rfl, by omega⟩⟩
  · refine ⟨by simp; omega, by omega, .inr ?_⟩
    by_cases hc : c = k
    · rw [if_pos hc]
      refine ⟨b, o, cs, rfl, hb, by omega, ?_⟩
      have : n - k = 0 := by omega
      rw [this, List.take_zero]; exact (List.drop_eq_nil_of_le (by omega)).symm
    · rw [if_neg hc]
      refine ⟨b, o + k, cs, by rw [Nat.mul_one]; exact congrArg some (add_none b o k), hb, by omega, ?_⟩
      rw [← h4, List.drop_take, List.drop_drop]

theorem Own.ownO {H : Heap} {a : Option Addr} {n c : Nat} {xs : List Value} (h : Own H 1 a n c xs) : OwnO H a n c xs := by
  obtain ⟨h1, h2, h3, ⟨rfl, rfl⟩ | ⟨b, tail, rfl, hb, hl⟩⟩ := h
  · exact ⟨by omega, h2, .inl ⟨rfl, rfl⟩⟩
  · refine ⟨by omega, h2, .inr ⟨b, 0, _, rfl, hb, by omega, ?_⟩⟩
    rw [List.drop_zero, List.take_append_of_le_length (by omega), List.take_of_length_le (by omega)]

theorem OwnO.extP {M : Nat → Prop} {H H' : Heap} {a : Option Addr} {n c : Nat} {xs : List Value} (h : OwnO H a n c xs) (he : ExtP M H H') (hm : ∀ k ∈ blkOf a, ¬ M k) : OwnO H' a n c xs := by
  obtain ⟨h1, h2, h | ⟨b, o, cs, rfl, hb, h3, h4⟩⟩ := h
  · exact ⟨h1, h2, .inl h⟩
  · exact ⟨h1, h2, .inr ⟨b, o, cs, rfl, hb.extP he (hm b (by simp [blkOf])), h3, h4⟩⟩

/-! ### A reader -/
def RIs (G : Nat → Prop) (H : Heap) (b : Nat) (s : List Int × Bool) : Prop :=
  G b ∧ Byt s.1 ∧ ∃ a c, Blk H b [.slice a s.1.length c, .bool s.2] ∧ OwnO H a s.1.length c (u8s s.1) ∧ b ∉ blkOf a ∧ ∀ k ∈ blkOf a, G k

theorem RIs.lt {G : Nat → Prop} {H : Heap} {b : Nat} {s : List Int × Bool} (h : RIs G H b s) : b < H.size := by
  obtain ⟨_, _, a, c, h1, _⟩ := h; exact h1.lt
theorem RIs.mono {G G' : Nat → Prop} {H : Heap} {b : Nat} {s : List Int × Bool} (h : RIs G H b s) (hg : ∀ k, k < H.size → G k → G' k) : RIs G' H b s := by
  have hlt := h.lt
  obtain ⟨h0, hb, a, c, h1, h2, h3, h4⟩ := h
  exact ⟨hg b hlt h0, hb, a, c, h1, h2, h3, fun k hk => hg k (h2.lt k hk) (h4 k hk)⟩
theorem RIs.extP {G M : Nat → Prop} {H H' : Heap} {b : Nat} {s : List Int × Bool} (h : RIs G H b s) (he : ExtP M H H') (hm : ∀ k, G k → ¬ M k) : RIs G H' b s := by
  obtain ⟨h0, hb, a, c, h1, h2, h3, h4⟩ := h
  exact ⟨h0, hb, a, c, h1.extP he (hm b h0), h2.extP he (fun k hk => hm k (h4 k hk)), h3, h4⟩
theorem RIs.ext {G : Nat → Prop} {H H' : Heap} {b : Nat} {s : List Int × Bool} (h : RIs G H b s) (he : Ext [] H H') : RIs G H' b s := by
  obtain ⟨h0, hb, a, c, h1, h2, h3, h4⟩ := h
  exact ⟨h0, hb, a, c, h1.ext he (by simp), h2.ext he (by simp), h3, h4⟩

theorem nr_ok {bs : List Int} {a : Option Addr} {c : Nat} {H : Heap} (hB : Byt bs) (hl : bs.length ≤ 140737488355328) (h : SRow H 1 bs.length (.slice a bs.length c) (u8s bs)) :
    Does Tryz.prog 78 [.slice a bs.length c] H fun v H' => ∃ b, v = .pointer (some ⟨b, 0, none⟩) ∧ RIs (fun k => H.size ≤ k) H' b (bs, false) ∧ Ext [] H H' := by
  refine Fn_of_vc Tryz.mixed (vc_nr _ _ _ _ _) ?_
  intro b1 H2 hn
  have hoe : Own H2 1 (some ⟨b1, 0, none⟩) 0 0 ([] : List Value) := Own.of_new (size := 1) (len := 0) (cap := 0) hn.blk rfl (Nat.le_refl _) (by decide)
  refine ⟨[], u8s bs, hoe.row _ _, h.ext hn.ext (by simp), u8s_one _, by omega, fun hle => hoe.room (n := bs.length) hle, fun a5 c6 H7 happ b8 H9 hn9 => ?_⟩
  obtain ⟨h1, h2, h3⟩ := fresh_copy hn rfl happ
  rw [Nat.zero_add] at h1 hn9
  have e8 := hn9.eq
  have hs7 := h2.size
  refine ⟨b8, rfl, ⟨by omega, hB, a5, c6, hn9.blk, (Own.ownO h1).ext hn9.ext (by simp), fun hm => ?_, h3⟩, h2.trans hn9.ext⟩
  have := h1.lt b8 hm
  omega

/-- What is taken, and what is then left. -/
def rd (s : List Int × Bool) (n : Nat) : List Int × (List Int × Bool) := if s.2 = false ∧ n ≤ s.1.length then (s.1.take n, (s.1.drop n, false)) else ([], ([], true))
theorem rd_byt {s : List Int × Bool} (h : Byt s.1) (n : Nat) : Byt (rd s n).1 := by
  unfold rd; split
  · exact h.take n
  · intro z hz; cases hz
theorem rd_len (s : List Int × Bool) (n : Nat) : (rd s n).1.length ≤ n := by
  unfold rd; split
  · simp; omega
  · simp

theorem fails {G : Nat → Prop} {b : Nat} {H H6 H9 : Heap} {s : List Int × Bool} (h : RIs G H b s) (h6 : Puts H b 0 [.slice none 0 0] H6) (h9 : Puts H6 b (0 + 1) [.bool true] H9) : RIs G H9 b ([], true) ∧ ExtP G H H9 := by
  obtain ⟨g0, hB, a, c, hb, ho, hnb, hg⟩ := h
  have hb6 := h6.blk hb (by simp)
  have hb9 := h9.blk hb6 (by simp [splice])
  have one : ∀ {A B : Heap}, Ext [b] A B → ExtP G A B := fun he => he.lift (fun k _ hk => by simp only [List.mem_singleton] at hk; subst hk; exact g0)
  exact ⟨⟨g0, (fun z hz => by cases hz), none, 0, by simpa [splice] using hb9, ⟨rfl, Nat.le_refl _, .inl ⟨rfl, rfl⟩⟩, by simp [blkOf], by simp [blkOf]⟩, (one h6.ext).trans (one h9.ext)⟩

theorem raw_ok {G : Nat → Prop} {b : Nat} {s : List Int × Bool} {n : Nat} {H : Heap} (hn : n ≤ 1000000) (h : RIs G H b s) :
    Does Tryz.prog 90 [.pointer (some ⟨b, 0, none⟩), .int .i64 n] H fun v H' => ∃ a c, v = .slice a (rd s n).1.length c ∧ SRow H' 1 (rd s n).1.length (.slice a (rd s n).1.length c) (u8s (rd s n).1) ∧ RIs G H' b (rd s n).2 ∧ ExtP G H H' ∧ ∀ k ∈ blkOf a, H.size ≤ k ∧ k < H'.size := by
  refine Fn_of_vc Tryz.mixed (vc_raw _ _ _ _) ?_
  have h0 := h
  obtain ⟨bs, lk⟩ := s
  obtain ⟨g0, hB, a, c, hb, ho, hnb, hg⟩ := h
  simp only at hb ho hB
  have bad : ∀ {H6 H9 : Heap}, Puts H b 0 [.slice none 0 0] H6 → Puts H6 b (0 + 1) [.bool true] H9 → rd (bs, lk) n = ([], ([], true)) →
      ∃ a c, Value.slice none 0 0 = .slice a (rd (bs, lk) n).1.length c ∧ SRow H9 1 (rd (bs, lk) n).1.length (.slice a (rd (bs, lk) n).1.length c) (u8s (rd (bs, lk) n).1) ∧ RIs G H9 b (rd (bs, lk) n).2 ∧ ExtP G H H9 ∧ ∀ k ∈ blkOf a, H.size ≤ k ∧ k < H9.size := by
    intro H6 H9 h6 h9 e
    obtain ⟨h1, h2⟩ := fails h0 h6 h9
    rw [e]
    exact ⟨none, 0, rfl, ⟨rfl, rfl⟩, h1, h2, by simp [blkOf]⟩
  have cl : Cells H b 0 1 := hb.cells _ _ (by simp)
  have cl2 : ∀ {H6 : Heap}, Puts H b 0 [.slice none 0 0] H6 → Cells H6 b (0 + 1) 1 := fun h6 => (h6.blk hb (by simp)).cells _ _ (by simp [splice])
  refine ⟨b, 0, rfl, lk, by rw [hb.cell]; rfl, fun e => ⟨b, 0, rfl, cl, fun H6 h6 => ⟨b, 0, rfl, cl2 h6, fun H9 h9 => bad h6 h9 ?_⟩⟩, fun e => ⟨fun e0 => absurd e0 (by omega), fun _ => ⟨b, 0, rfl, a, _, c, by rw [hb.cell]; rfl, fun e1 => ⟨b, 0, rfl, cl, fun H6 h6 => ⟨b, 0, rfl, cl2 h6, fun H9 h9 => bad h6 h9 ?_⟩⟩, fun e1 b27 H28 hn28 => ?_⟩⟩⟩
  · unfold rd; rw [if_neg (by simp [e])]
  · unfold rd; rw [if_neg (by simp only []; omega)]
  subst e
  have e2 : rd (bs, false) n = (bs.take n, (bs.drop n, false)) := by unfold rd; rw [if_pos ⟨rfl, by simp only []; omega⟩]
  rw [e2]
  have hle : n ≤ bs.length := by omega
  have hb28 := hb.ext hn28.ext (by simp)
  have ho28 := ho.ext hn28.ext (by simp)
  have hoe : Own H28 1 (some ⟨b27, 0, none⟩) 0 0 ([] : List Value) := Own.of_new (size := 1) (len := 0) (cap := 0) hn28.blk rfl (Nat.le_refl _) (by decide)
  have hlen : (bs.take n).length = n := by rw [List.length_take]; omega
  refine ⟨b, 0, rfl, a, _, c, by rw [hb28.cell]; rfl, by omega, by have := ho.2.1; omega, [], u8s (bs.take n), hoe.row _ _, ?_, u8s_one _, by simp; omega, fun hle => hoe.room (n := (n : Int).toNat) hle, ?_⟩
  · rw [Int.toNat_natCast, u8s_take]
    exact SRow.take1 (ho28.row bs.length c) hle
  intro a36 c37 H38 happ
  rw [Int.toNat_natCast] at happ
  obtain ⟨h1, h2, h3⟩ := fresh_copy hn28 hlen happ
  have hb38 := hb.ext h2 (by simp)
  have ho38 := ho.ext h2 (by simp)
  refine ⟨b, 0, rfl, a, _, c, by rw [hb38.cell]; rfl, by omega, by omega, ?_⟩
  rintro _ rfl
  refine ⟨b, 0, rfl, hb38.cells _ _ (by simp), fun H47 hp47 => ?_⟩
  have hb47 := hp47.blk hb38 (by simp)
  have one : ExtP G H38 H47 := hp47.ext.lift (fun k _ hk => by simp only [List.mem_singleton] at hk; subst hk; exact g0)
  rw [Int.toNat_natCast, Nat.zero_add] at *
  have hd := ho38.drop hle
  have hblk : ∀ k ∈ blkOf (if c = n then a else Option.map (fun x => Addr.add x (n * 1)) a), k ∈ blkOf a := by
    intro k hk
    split at hk
    · exact hk
    · obtain ⟨_, _, ⟨rfl, _⟩ | ⟨bb, oo, cs, rfl, _⟩⟩ := ho
      · cases hk
      · simp only [Option.map_some, add_none] at hk; exact hk
  have hblt := hb.lt
  refine ⟨a36, c37, by rw [hlen], ?_, ⟨g0, hB.drop n, _, _, by simpa [splice] using hb47, ?_, fun hm => hnb (hblk _ hm), fun k hk => hg k (hblk k hk)⟩, h2.anyP.trans one, fun k hk => ⟨h3 k hk, by have := h1.lt k hk; have := hp47.size; omega⟩⟩
  · rw [hlen]
    refine (h1.row n c37).ext hp47.ext (fun k hk hm => ?_)
    simp only [List.mem_singleton] at hm; subst hm
    have := h3 _ hk
    omega
  · rw [u8s_drop, List.length_drop]
    refine hd.ext hp47.ext (fun k hk hm => ?_)
    simp only [List.mem_singleton] at hm; subst hm
    exact hnb (hblk _ hk)

theorem get_ok {G : Nat → Prop} {b : Nat} {s : List Int × Bool} {n : Nat} {H : Heap} (hn : n ≤ 7) (h : RIs G H b s) :
    Does Tryz.prog 89 [.pointer (some ⟨b, 0, none⟩), .int .i64 n] H fun v H' => v = .int .u64 (be (rd s n).1) ∧ RIs G H' b (rd s n).2 ∧ ExtP G H H' := by
  have hB : Byt (rd s n).1 := rd_byt h.2.1 n
  have hl := rd_len s n
  refine Fn_of_vc Tryz.mixed (vc_get _ _ _ _) ?_
  refine (raw_ok (by omega) h).mono ?_
  rintro _ H2 ⟨a, c, rfl, hrow, hr, hx, _⟩
  generalize (rd s n).1 = t at *
  refine ⟨_, _, _, rfl, fun v i H' => H' = H2 ∧ ∃ j : Nat, i = j ∧ j ≤ t.length ∧ v = be (t.take j), fun _ i _ => t.length - i.toNat, ⟨rfl, 0, rfl, by omega, rfl⟩, ?_⟩
  rintro _ _ _ ⟨rfl, j, rfl, hj, rfl⟩
  refine ⟨fun hlt => ?_, fun hge => ?_⟩
  · have hi : t[j]? = some t[j] := List.getElem?_eq_getElem (by omega)
    have htk : t.take (j + 1) = t.take j ++ [t[j]] := by rw [List.take_add_one, hi]; rfl
    obtain ⟨z0, z1⟩ := hB t[j] (List.getElem_mem _)
    obtain ⟨b11, o12, e, hc⟩ := SRow.at hrow (u8s_at hi)
    generalize t[j] = z at *
    obtain ⟨v0, v1⟩ := be_lt (hB.take j)
    have hv : be (t.take j) < 256 ^ 6 := by
      refine Int.lt_of_lt_of_le v1 ?_
      rw [List.length_take, Nat.min_eq_left hj]
      exact pow256 (by omega)
    refine ⟨by omega, hlt, b11, o12, e, z, by rw [Int.toNat_natCast]; exact hc, by decide, ?_⟩
    rintro _ rfl _ rfl _ rfl
    have e8 : min (Int.toNat 8) (IntKind.bits .u64) = 8 := by decide
    have e6 : (256 : Int) ^ 6 = 281474976710656 := by decide
    rw [e6] at hv
    have eq : bits .or .u64 (IntKind.wrap .u64 (be (t.take j) * 2 ^ (min (Int.toNat 8) (IntKind.bits .u64)))) (IntKind.wrap .u64 z) = be (t.take (j + 1)) := by
      rw [e8, htk, be_snoc, wrap_u64, wrap_u64, show (2 : Int) ^ 8 = 256 by decide, show (be (t.take j) * 256) % 18446744073709551616 = ((be (t.take j)).toNat : Int) * 256 by omega, show z % 18446744073709551616 = (z.toNat : Int) by omega, or_low _ _ (by omega) (by omega)]
      omega
    exact ⟨⟨by omega, by omega⟩, ⟨rfl, j + 1, by omega, by omega, eq⟩, by simp only []; omega⟩
  · have : j = t.length := by omega
    subst this
    exact ⟨by rw [List.take_length], hr, hx⟩

/-- A number that is read. -/
def num (s : List Int × Bool) (n : Nat) : Int := be (rd s n).1
theorem num_lt {s : List Int × Bool} (h : Byt s.1) {n : Nat} (hn : n ≤ 4) : 0 ≤ num s n ∧ num s n < 4294967296 := by
  obtain ⟨h1, h2⟩ := be_lt (rd_byt h n)
  have := pow256 (j := (rd s n).1.length) (k := 4) (by have := rd_len s n; omega)
  have e : (256 : Int) ^ 4 = 4294967296 := by decide
  rw [e] at this
  exact ⟨h1, Int.lt_of_lt_of_le h2 this⟩

theorem ru_ok {G : Nat → Prop} {f n : Nat} {b : Nat} {s : List Int × Bool} {H : Heap} (hf : (f = 91 ∧ n = 2) ∨ (f = 79 ∧ n = 4)) (h : RIs G H b s) :
    Does Tryz.prog f [.pointer (some ⟨b, 0, none⟩)] H fun v H' => v = .int .i64 (num s n) ∧ RIs G H' b (rd s n).2 ∧ ExtP G H H' := by
  have w : n ≤ 4 → IntKind.wrap .i64 (num s n) = num s n := fun hn => by
    obtain ⟨h1, h2⟩ := num_lt h.2.1 hn
    exact wrap_of_in64 ⟨by omega, by omega⟩
  rcases hf with ⟨rfl, rfl⟩ | ⟨rfl, rfl⟩
  · refine Fn_of_vc Tryz.mixed (vc_ru16 _ _ _) ?_
    refine (get_ok (n := 2) (by omega) h).mono ?_
    rintro _ _ ⟨rfl, h1, h2⟩
    refine ⟨_, rfl, ?_⟩
    rintro _ rfl
    exact ⟨congrArg _ (w (by omega)), h1, h2⟩
  · refine Fn_of_vc Tryz.mixed (vc_ru32 _ _ _) ?_
    refine (get_ok (n := 4) (by omega) h).mono ?_
    rintro _ _ ⟨rfl, h1, h2⟩
    refine ⟨_, rfl, ?_⟩
    rintro _ rfl
    exact ⟨congrArg _ (w (by omega)), h1, h2⟩

theorem lack_ok {G : Nat → Prop} {b : Nat} {s : List Int × Bool} {H : Heap} (h : RIs G H b s) : Does Tryz.prog 100 [.pointer (some ⟨b, 0, none⟩)] H fun v H' => v = .bool s.2 ∧ H = H' := by
  refine Fn_of_vc Tryz.mixed (vc_lack _ _ _) ?_
  obtain ⟨_, _, a, c, hb, _⟩ := h
  exact ⟨b, 0, rfl, s.2, by rw [hb.cell]; rfl, rfl, rfl⟩

theorem eq_ok {xs ys : List Int} {a a' : Option Addr} {c c' : Nat} {H : Heap} (hl : xs.length ≤ 1000000) (h : SRow H 1 xs.length (.slice a xs.length c) (u8s xs)) (k : SRow H 1 ys.length (.slice a' ys.length c') (u8s ys)) :
    Does Tryz.prog 80 [.slice a xs.length c, .slice a' ys.length c'] H fun v H' => v = .bool (decide (xs = ys)) ∧ H = H' := by
  refine Fn_of_vc Tryz.mixed (vc_eq _ _ _ _ _ _ _ _) ?_
  refine ⟨fun e => ⟨?_, rfl⟩, fun e => ?_⟩
  · have : xs ≠ ys := fun e' => e (by rw [e'])
    simp [this]
  refine ⟨fun i H' => H' = H ∧ ∃ j : Nat, i = j ∧ j ≤ xs.length ∧ xs.take j = ys.take j, fun i _ => xs.length - i.toNat, ⟨rfl, 0, rfl, by omega, rfl⟩, ?_⟩
  rintro _ _ ⟨rfl, j, rfl, hj, ht⟩
  refine ⟨fun hlt => ?_, fun hge => ⟨?_, rfl⟩⟩
  · have hi : xs[j]? = some xs[j] := List.getElem?_eq_getElem (by omega)
    have hi' : ys[j]? = some (ys[j]'(by omega)) := List.getElem?_eq_getElem (by omega)
    obtain ⟨b5, o6, e5, c5⟩ := SRow.at h (u8s_at hi)
    obtain ⟨b8, o9, e8, c8⟩ := SRow.at k (u8s_at hi')
    refine ⟨by omega, hlt, b5, o6, e5, _, by rw [Int.toNat_natCast]; exact c5, by omega, by omega, b8, o9, e8, _, by rw [Int.toNat_natCast]; exact c8, fun hne => ⟨?_, rfl⟩, fun heq => ⟨⟨by omega, by omega⟩, ⟨rfl, j + 1, by omega, by omega, ?_⟩, by simp only []; omega⟩⟩
    · have : xs ≠ ys := fun e' => hne (by subst e'; rfl)
      simp [this]
    · rw [List.take_add_one, List.take_add_one, ht, hi, hi']
      have : xs[j] = ys[j]'(by omega) := by simpa using heq
      rw [this]
  · have e1 : j = xs.length := by omega
    subst e1
    rw [List.take_length, List.take_of_length_le (by omega)] at ht
    simp [ht]
end Go.Proofs
end

section
open Go Go.Vc
namespace Go.Proofs

/-! ### Bytes as whole numbers -/
def toI (xs : Octs) : List Int := xs.map fun b => (b.toNat : Int)
theorem u8s_toI (xs : Octs) : u8s (toI xs) = bytesV xs := by unfold u8s bytesV toI; rw [List.map_map]; rfl
theorem toI_len (xs : Octs) : (toI xs).length = xs.length := by simp [toI]
theorem toI_byt (xs : Octs) : Byt (toI xs) := fun z hz => by
  obtain ⟨b, _, rfl⟩ := List.mem_map.1 hz
  have := b.toNat_lt
  omega
theorem toI_append (xs ys : Octs) : toI (xs ++ ys) = toI xs ++ toI ys := by simp [toI]
theorem toI_take (xs : Octs) (k : Nat) : toI (xs.take k) = (toI xs).take k := by simp [toI]
theorem toI_drop (xs : Octs) (k : Nat) : toI (xs.drop k) = (toI xs).drop k := by simp [toI]
def toU (l : List Int) : Octs := l.map fun z => UInt8.ofNat z.toNat
theorem toI_toU {l : List Int} (h : Byt l) : toI (toU l) = l := by
  unfold toI toU
  rw [List.map_map]
  conv => rhs; rw [← List.map_id l]
  refine List.map_congr_left fun z hz => ?_
  obtain ⟨h0, h1⟩ := h z hz
  have : (UInt8.ofNat z.toNat).toNat = z.toNat := by rw [UInt8.toNat_ofNat']; omega
  simp only [Function.comp_apply, this, id]
  omega
theorem toU_toI (xs : Octs) : toU (toI xs) = xs := by
  unfold toI toU
  rw [List.map_map]
  conv => rhs; rw [← List.map_id xs]
  refine List.map_congr_left fun b _ => ?_
  simp
theorem toI_inj {xs ys : Octs} (h : toI xs = toI ys) : xs = ys := by rw [← toU_toI xs, h, toU_toI]
theorem bytesV_append (xs ys : Octs) : bytesV (xs ++ ys) = bytesV xs ++ bytesV ys := by simp [bytesV]
theorem bytesV_zeros (n : Nat) : bytesV (List.replicate n 0) = List.replicate n (.int .u8 0) := by simp [bytesV]

theorem beL_byt : ∀ (n : Nat) (v : Int), Byt (beL n v)
  | 0, _ => fun z hz => by cases hz
  | n + 1, v => fun z hz => by
    rcases List.mem_cons.1 hz with rfl | hz
    · omega
    · exact beL_byt n v z hz
def beU (n : Nat) (v : Int) : Octs := toU (beL n v)
theorem toI_beU (n : Nat) (v : Int) : toI (beU n v) = beL n v := toI_toU (beL_byt n v)
theorem beU_len (n : Nat) (v : Int) : (beU n v).length = n := by rw [← toI_len, toI_beU, beL_length]

/-- A number as the writer has it. -/
def w64 (z : Int) : Int := IntKind.wrap .u64 z

/-! ### A writer, a reader, of bytes -/
def WB (G : Nat → Prop) (H : Heap) (b : Nat) (xs : Octs) : Prop := WIs G H b (toI xs)
def RB (G : Nat → Prop) (H : Heap) (b : Nat) (s : Octs × Bool) : Prop := RIs G H b (toI s.1, s.2)

theorem nwB_ok (H : Heap) : Does Tryz.prog 74 [] H fun v H' => v = .pointer (some ⟨H.size, 0, none⟩) ∧ WB (fun k => H.size ≤ k) H' H.size [] ∧ Ext [] H H' := nw_ok H

theorem wuB_ok {G : Nat → Prop} {f n : Nat} {b : Nat} {xs : Octs} {x : Int} {H : Heap} (hf : (f = 95 ∧ n = 2) ∨ (f = 75 ∧ n = 4)) (hG : ∀ k, H.size ≤ k → G k) (hl : xs.length ≤ 1000000) (h : WB G H b xs) :
    Does Tryz.prog f [.pointer (some ⟨b, 0, none⟩), .int .i64 x] H fun v H' => v = .tuple #[] ∧ WB G H' b (xs ++ beU n (w64 x)) ∧ ExtP G H H' := by
  refine (wu_ok (x := x) hf hG (by rw [toI_len]; exact hl) h).mono ?_
  rintro _ _ ⟨rfl, h1, h2⟩
  refine ⟨rfl, ?_, h2⟩
  unfold WB
  rw [toI_append, toI_beU]
  exact h1

theorem wrawB_ok {G : Nat → Prop} {b : Nat} {xs ys : Octs} {a0 : Option Addr} {c0 : Nat} {H : Heap} (hG : ∀ k, H.size ≤ k → G k) (hl : xs.length ≤ 1000000) (hl' : ys.length ≤ 1000000) (h : WB G H b xs) (hy : SRow H 1 ys.length (.slice a0 ys.length c0) (bytesV ys)) :
    Does Tryz.prog 96 [.pointer (some ⟨b, 0, none⟩), .slice a0 ys.length c0] H fun v H' => v = .tuple #[] ∧ WB G H' b (xs ++ ys) ∧ ExtP G H H' := by
  refine Fn_of_vc Tryz.mixed (vc_wraw _ _ _ _ _ _) ?_
  have hblt := h.lt
  obtain ⟨g0, a, c, hb, ho, hnb, hg⟩ := h
  rw [u8s_toI, toI_len] at *
  refine ⟨b, 0, rfl, a, _, c, by rw [hb.cell]; rfl, bytesV xs, bytesV ys, ho.row _ _, hy, bytesV_one _, by omega, fun hle => ho.room (n := ys.length) hle, fun a8 c9 H10 happ => ?_⟩
  obtain ⟨ho10, hx10, hfr10⟩ := happ.own ho (ho.row _ _) (by rw [bytesV_length]; omega) rfl
  have hb10 := hb.ext hx10 hnb
  refine ⟨b, 0, rfl, hb10.cells _ _ (by simp), fun H13 hp => ?_⟩
  have hb13 := hp.blk hb10 (by simp)
  have hs10 := hx10.size
  have hnb8 : b ∉ blkOf a8 := by
    intro hm
    rcases hfr10 b hm with h' | h'
    · exact hnb h'
    · omega
  have ho13 := ho10.ext hp.ext (fun k hk hm => by simp only [List.mem_singleton] at hm; subst hm; exact hnb8 hk)
  refine ⟨rfl, ⟨g0, a8, c9, ?_, ?_, hnb8, fun k hk => ?_⟩, (hx10.lift (fun k _ hk => hg k hk)).trans (hp.ext.lift (fun k _ hk => by simp only [List.mem_singleton] at hk; subst hk; exact g0))⟩
  · rw [toI_len, List.length_append]; simpa [splice] using hb13
  · rw [toI_len, u8s_toI, bytesV_append, List.length_append]; exact ho13
  · rcases hfr10 k hk with h' | h'
    · exact hg k h'
    · exact hG k (by omega)

/-- Bytes that are told are new. -/
def ToldB (H H' : Heap) (v : Value) (xs : Octs) : Prop := ∃ a c, v = .slice a xs.length c ∧ Own H' 1 a xs.length c (bytesV xs) ∧ ∀ k ∈ blkOf a, H.size ≤ k

theorem bytesB_ok {G : Nat → Prop} {b : Nat} {xs : Octs} {H : Heap} (hl : xs.length ≤ 1000000) (h : WB G H b xs) :
    Does Tryz.prog 77 [.pointer (some ⟨b, 0, none⟩)] H fun v H' => ToldB H H' v xs ∧ Ext [] H H' := by
  refine (bytes_ok (by rw [toI_len]; exact hl) h).mono ?_
  rintro _ _ ⟨⟨a, c, rfl, ho, hf⟩, hx⟩
  rw [u8s_toI, toI_len] at *
  exact ⟨⟨a, c, rfl, ho, hf⟩, hx⟩

def rdU (s : Octs × Bool) (n : Nat) : Octs × (Octs × Bool) := if s.2 = false ∧ n ≤ s.1.length then (s.1.take n, (s.1.drop n, false)) else ([], ([], true))
theorem rd_toI (s : Octs × Bool) (n : Nat) : rd (toI s.1, s.2) n = (toI (rdU s n).1, (toI (rdU s n).2.1, (rdU s n).2.2)) := by
  unfold rd rdU
  simp only [toI_len]
  split
  · simp only [toI_take, toI_drop]
  · rfl
def numU (s : Octs × Bool) (n : Nat) : Int := be (toI (rdU s n).1)
theorem num_toI (s : Octs × Bool) (n : Nat) : num (toI s.1, s.2) n = numU s n := by unfold num numU; rw [rd_toI]

theorem nrB_ok {xs : Octs} {a : Option Addr} {c : Nat} {H : Heap} (hl : xs.length ≤ 140737488355328) (h : SRow H 1 xs.length (.slice a xs.length c) (bytesV xs)) :
    Does Tryz.prog 78 [.slice a xs.length c] H fun v H' => ∃ b, v = .pointer (some ⟨b, 0, none⟩) ∧ RB (fun k => H.size ≤ k) H' b (xs, false) ∧ Ext [] H H' := by
  have := nr_ok (a := a) (c := c) (toI_byt xs) (by rw [toI_len]; exact hl) (by rw [toI_len, u8s_toI]; exact h)
  rw [toI_len] at this
  exact this

theorem ruB_ok {G : Nat → Prop} {f n : Nat} {b : Nat} {s : Octs × Bool} {H : Heap} (hf : (f = 91 ∧ n = 2) ∨ (f = 79 ∧ n = 4)) (h : RB G H b s) :
    Does Tryz.prog f [.pointer (some ⟨b, 0, none⟩)] H fun v H' => v = .int .i64 (numU s n) ∧ RB G H' b (rdU s n).2 ∧ ExtP G H H' := by
  refine (ru_ok hf h).mono ?_
  rintro _ _ ⟨rfl, h1, h2⟩
  rw [num_toI]
  rw [rd_toI] at h1
  exact ⟨rfl, h1, h2⟩

theorem rawB_ok {G : Nat → Prop} {b : Nat} {s : Octs × Bool} {n : Nat} {H : Heap} (hn : n ≤ 1000000) (h : RB G H b s) :
    Does Tryz.prog 90 [.pointer (some ⟨b, 0, none⟩), .int .i64 n] H fun v H' => ∃ a c, v = .slice a (rdU s n).1.length c ∧ SRow H' 1 (rdU s n).1.length (.slice a (rdU s n).1.length c) (bytesV (rdU s n).1) ∧ RB G H' b (rdU s n).2 ∧ ExtP G H H' ∧ ∀ k ∈ blkOf a, H.size ≤ k ∧ k < H'.size := by
  refine (raw_ok hn h).mono ?_
  rintro _ _ ⟨a, c, rfl, h1, h2, h3, h4⟩
  rw [rd_toI] at h1 h2 ⊢
  simp only [toI_len, u8s_toI] at h1 ⊢
  exact ⟨a, c, rfl, h1, h2, h3, h4⟩

theorem lackB_ok {G : Nat → Prop} {b : Nat} {s : Octs × Bool} {H : Heap} (h : RB G H b s) : Does Tryz.prog 100 [.pointer (some ⟨b, 0, none⟩)] H fun v H' => v = .bool s.2 ∧ H = H' := lack_ok h

theorem eqB_ok {xs ys : Octs} {a a' : Option Addr} {c c' : Nat} {H : Heap} (hl : xs.length ≤ 1000000) (h : SRow H 1 xs.length (.slice a xs.length c) (bytesV xs)) (k : SRow H 1 ys.length (.slice a' ys.length c') (bytesV ys)) :
    Does Tryz.prog 80 [.slice a xs.length c, .slice a' ys.length c'] H fun v H' => v = .bool (decide (xs = ys)) ∧ H = H' := by
  have := eq_ok (xs := toI xs) (ys := toI ys) (a := a) (a' := a') (c := c) (c' := c') (H := H) (by rw [toI_len]; exact hl) (by rw [toI_len, u8s_toI]; exact h) (by rw [toI_len, u8s_toI]; exact k)
  rw [toI_len, toI_len] at this
  refine this.mono ?_
  rintro _ _ ⟨rfl, rfl⟩
  refine ⟨?_, rfl⟩
  have : (toI xs = toI ys) ↔ xs = ys := ⟨toI_inj, fun e => by rw [e]⟩
  simp only [this]

/-- Bytes with zeros behind. -/
def padL (xs : Octs) (n : Nat) : Octs := xs ++ List.replicate (n - xs.length) 0

theorem padded_ok {xs : Octs} {a : Option Addr} {c n : Nat} {H : Heap} (hn : n ≤ 1000000000) (hl : xs.length ≤ 1000000) (h : SRow H 1 xs.length (.slice a xs.length c) (bytesV xs)) :
    Does Tryz.prog 76 [.slice a xs.length c, .int .i64 n] H fun v H' => ToldB H H' v (padL xs n) ∧ Ext [] H H' := by
  refine Fn_of_vc Tryz.mixed (vc_padded _ _ _ _ _ _) ?_
  refine (clonel_ok h hl).mono ?_
  rintro _ H2 ⟨a3, c5, rfl, ho2, hx2, hfr2⟩
  have e : Int.toNat (max 0 ((n : Int) - (xs.length : Int))) = n - xs.length := by omega
  refine ⟨_, _, _, rfl, ⟨by omega, by omega⟩, ?_⟩
  rw [e]
  refine ⟨bytesV xs, ho2.row _ _, by omega, by omega, fun hle => ho2.room hle, fun a7 c8 H9 happ => ?_⟩
  obtain ⟨ho9, hx9, hfr9⟩ := happ.own ho2 (ho2.row _ _) (by simp) rfl
  have el : (padL xs n).length = xs.length + (n - xs.length) := by unfold padL; simp
  refine ⟨⟨a7, c8, by rw [el], by rw [el]; unfold padL; rw [bytesV_append, bytesV_zeros]; exact ho9, fun k hk => ?_⟩, ext_new hx2 hx9 hfr2⟩
  rcases hfr9 k hk with h' | h'
  · exact hfr2 k h'
  · have := hx2.size; omega
end Go.Proofs
end

section
open Go Go.Vc
namespace Go.Proofs

theorem rkeep_ok {H : Heap} {F : Nat → Prop} {pd : Nat} {cells : List Value} {ak : Option Addr} {ck : Nat} {kept : List Octs} {ap : Option Addr} {cp : Nat} {pend : List (Int × Octs)} (h : Three H F pd cells ak ck kept none 0 [] ap cp pend)
    (h0 : cells[0]? = some (.slice ak kept.length ck)) (hfew : kept.length ≤ 100000) {at_ : Int} {a : Option Addr} {n c : Nat} {xs : Octs} (hr : bytesE.ok H [.slice a n c] xs) (hf : ∀ k, k ∈ blkOf a → calm F pd ak none ap k) (hat : 0 ≤ at_ ∧ at_ < kept.length) :
    Does Tryz.prog 47 [.pointer (some ⟨pd, 0, none⟩), .agg #[.int .i64 at_, .slice a n c]] H fun v H' => v = .tuple #[] ∧ ∃ ak' ck', Three H' (grow F H H') pd (cells.set 0 (.slice ak' kept.length ck')) ak' ck' (kept.set at_.toNat xs) none 0 [] ap cp pend ∧ Ext [pd] H H' := by
  refine Fn_of_vc Tryz.mixed (vc_rkeep _ _ _ _ _ _ _) ?_
  intro b1 H2 hn2 b3 H4 hn4
  have hx2 := hn2.ext
  have hx4 := hn4.ext
  have hx24 := hx2.trans hx4
  have e1 := hn2.eq
  have s2 := hn2.size
  have e3 := hn4.eq
  have s4 := hn4.size
  have hlt := h.lt
  have hcells : 0 < cells.length := (List.getElem?_eq_some_iff.1 h0).1
  have h4 := h.ext hx24.toP (by simp)
  obtain ⟨flat, ho, hone, hcopy⟩ := h4.sk.copy
  have ho3 : Own H4 1 (some ⟨b3, 0, none⟩) 0 0 [] := ⟨rfl, Nat.le_refl _, by unfold maxLen; omega, .inr ⟨b3, [], rfl, hn4.blk, rfl⟩⟩
  refine ⟨_, _, rfl, ak, _, ck, by rw [h4.head.cell]; exact h0, [], flat, ho3.row 0 0, ho.row _ _, hone, by omega, fun hle => ho3.room (n := kept.length) hle, ?_⟩
  intro a12 c13 H14 happ
  obtain ⟨q1, q2, q3⟩ := happ.own ho3 (ho3.row 0 0) (by have := ho.1; simpa [bytesE] using this) rfl
  simp only [Nat.zero_add, List.nil_append] at q1 ⊢
  have hx14 : Ext [] H2 H14 := hx4.trans' q2 (fun i hi => by simp only [blkOf, List.mem_singleton] at hi; omega)
  have hxx : Ext [] H H14 := hx2.trans hx14
  have hx414 : ExtP (fun k => k ∈ blkOf (some (⟨b3, 0, none⟩ : Addr))) H4 H14 := q2.toP
  have hs14 := hcopy q1 hx414 (fun k hk hk' => by
    simp only [blkOf, List.mem_singleton] at hk'
    have := hlt k hk.1
    omega)
  have s14 := hxx.size
  have h14 := h.swapK hxx.toP (by simp) hs14 (fun k hk => by
    rcases q3 k hk with h5 | h5
    · simp only [blkOf, List.mem_singleton] at h5; exact .inr (by omega)
    · exact .inr (by omega))
  have hb14 := hn2.blk.ext hx14 (by simp)
  obtain ⟨b19, eb, kc, kp⟩ := h14.putK (i := at_.toNat) (by omega)
  refine ⟨at_, hb14.cell 0, a, n, c, hb14.cell 1, hat.1, by omega, b19, 0, eb, kc, fun H21 hput => ?_⟩
  obtain ⟨h21, hx21⟩ := kp (.slice a n c) xs H21 (bytesE.ext hr hxx.toP (by simp)) (fun k hk => by
    have hk' := hf k hk
    refine ⟨.inl hk'.1, hk'.2.1, fun h5 => ?_, hk'.2.2.2⟩
    rcases q3 k h5 with h6 | h6
    · simp only [blkOf, List.mem_singleton] at h6; have := hlt k hk'.1; omega
    · have := hlt k hk'.1; omega) hput
  refine ⟨_, _, rfl, h21.head.cells 1 0 (by omega), fun H24 hp => ?_⟩
  obtain ⟨h24, hx24'⟩ := h21.poke hp hcells
  have s21 := hx21.size
  have s24 := hx24'.size
  refine ⟨trivial, a12, c13, h24.up (fun k hk => ?_) (grow_lt hlt (by omega)), ?_⟩
  · rcases hk with hk | hk
    · exact .inl hk
    · exact .inr ⟨hk.1, by omega⟩
  · refine (hxx.trans' (M := []) hx21 (fun i hi => .inl ?_)).any.trans' hx24' (fun i hi => .inr hi)
    rcases q3 i hi with h5 | h5
    · simp only [blkOf, List.mem_singleton] at h5; omega
    · omega

theorem rdflush_ok {H : Heap} {F : Nat → Prop} {pd : Nat} {D : Dev} {n B : Nat} (h : IsRDev H F pd D) (hw : D.Wf n B) (hB : B ≤ 1000000000) :
    Does Tryz.prog 35 [.pointer (some ⟨pd, 0, none⟩)] H fun v H' => v = .int .i64 (flushD D).2 ∧ IsRDev H' (grow F H H') pd (flushD D).1 ∧ ExtP F H H' := by
  refine Fn_of_vc Tryz.mixed (vc_rdflush _ _ _) ?_
  have hwk := hw.works
  refine (rworks_ok h (by omega) hwk.1 hw.fuse).mono ?_
  rintro _ H2 ⟨rfl, hd2, hx2⟩
  have hlt := h.lt
  have hs2 := hx2.size
  refine ⟨_, rfl, fun h1 => ?_, fun h1 => ?_⟩
  · have e2 : flushD D = ((wk D).1, 4) := by unfold flushD; rw [h1]; rfl
    rw [e2]
    exact ⟨rfl, hd2.up (fun _ => .inl) (grow_lt hlt hs2), hx2⟩
  · have e : (wk D).2 = true := eq_true_of_ne_false h1
    have e2 : flushD D = ({ (wk D).1 with kept := D.now, pend := [] }, 0) := by unfold flushD; rw [e]; rfl
    rw [e2]
    obtain ⟨ak, ck, ap, cp, h2⟩ := hd2
    rw [(wk_kept D).1, (wk_kept D).2] at h2
    have hpd := h2.fh
    have hfew := hw.few
    have hpf := hw.pfew
    refine ⟨fun i H' => ∃ (j : Nat) (ak' : Option Addr) (ck' : Nat), i = j ∧ j ≤ D.pend.length ∧ ExtP F H H' ∧
      Three H' (grow F H H') pd [.slice ak' D.kept.length ck', .slice ap D.pend.length cp, .int .i64 (wk D).1.fuse, .bool (wk D).1.dead, .int .i64 (wk D).1.works] ak' ck' (laid D.kept (D.pend.take j)) none 0 [] ap cp D.pend, fun i _ => D.pend.length - i.toNat,
      ⟨0, ak, ck, rfl, Nat.zero_le _, hx2, h2.up (fun _ => .inl) (grow_lt hlt hs2)⟩, ?_⟩
    rintro _ H7 ⟨j, ak', ck', rfl, hj, hx7, h7⟩
    refine ⟨_, _, rfl, ap, _, cp, h7.head.cell 1, fun h3 => ?_, fun h3 => ?_⟩
    · obtain ⟨w, hwj⟩ : ∃ w, D.pend[j]? = some w := ⟨_, List.getElem?_eq_getElem (by omega)⟩
      obtain ⟨b11, o12, v, eb, hc, ⟨a14, l15, c16, rfl, hle14, hr, hlt14⟩, hf⟩ := h7.sp.get hwj
      have hpin := hw.pin w (List.mem_of_getElem? hwj)
      have hkl : (laid D.kept (D.pend.take j)).length = D.kept.length := laid_length _ _
      refine ⟨_, _, rfl, ap, _, cp, h7.head.cell 1, by omega, h3, b11, o12, eb, w.1, hc 0 _ rfl, a14, l15, c16, hc 1 _ rfl, ?_⟩
      refine (rkeep_ok h7 (by rw [hkl]; rfl) (by rw [hkl, hw.len]; exact hfew) ⟨a14, l15, c16, rfl, hle14, hr, hlt14⟩ hf ⟨hpin.1, by rw [hkl, hw.len]; exact hpin.2.1⟩).mono ?_
      rintro _ H25 ⟨rfl, ak2, ck2, h25, hx25⟩
      have s7 := hx7.size
      have s25 := hx25.size
      refine ⟨rfl, ⟨by omega, by omega⟩, ⟨j + 1, ak2, ck2, by omega, by omega, hx7.trans' hx25.toP (fun i hi => by simp only [List.mem_singleton] at hi; subst hi; exact .inr hpd), ?_⟩, by dsimp only; omega⟩
      rw [take_snoc hwj, laid_snoc]
      rw [hkl] at h25
      exact h25.up (grow_sub s7 s25) (grow_lt hlt (by omega))
    · have ej : j = D.pend.length := by omega
      subst ej
      rw [List.take_length] at h7
      have h7' := h7.swapP (ExtP.refl (fun _ => False) H7) (by simp) (Seq.nil _ _ _) (ap' := none) (cp' := 0) (pend' := []) (fun k hk => by cases hk)
      refine ⟨_, _, rfl, h7'.head.cells 1 1 (by simp), fun H28 hp => ?_⟩
      obtain ⟨h28, hx28⟩ := h7'.poke hp (by simp)
      have s7 := hx7.size
      have s28 := hx28.size
      refine ⟨rfl, ⟨ak', ck', none, 0, ?_⟩, hx7.trans' hx28.toP (fun i hi => by simp only [List.mem_singleton] at hi; subst hi; exact .inr hpd)⟩
      have e3 : ({ (wk D).1 with kept := D.now, pend := [] } : Dev).kept.length = D.kept.length := laid_length _ _
      have h29 := h28.up (F' := grow F H H28) (fun i hi => by
        rcases hi with hi | hi
        · rcases hi with hi | hi
          · exact .inl hi
          · exact .inr ⟨hi.1, by omega⟩
        · exact .inr ⟨by omega, by omega⟩) (grow_lt hlt (by omega))
      rw [e3]
      exact h29

end Go.Proofs
end

section
open Go Go.Vc
namespace Go.Proofs

abbrev Wr := Int × Octs

/-- A header. -/
structure Hd where
  epoch : Int
  seq : Int
  size : Int
def Hd.cells (h : Hd) : List Value := [.int .i64 h.epoch, .int .i64 h.seq, .int .i64 h.size]
def Hd.v (h : Hd) : Value := .agg #[.int .i64 h.epoch, .int .i64 h.seq, .int .i64 h.size]
def Hd.zero : Hd := ⟨0, 0, 0⟩

theorem padL_len (xs : Octs) (n : Nat) : (padL xs n).length = xs.length + (n - xs.length) := by unfold padL; simp

def hdrB (h : Hd) : Octs := padL (beU 4 (w64 1885695604) ++ beU 4 (w64 h.epoch) ++ beU 4 (w64 h.seq) ++ beU 4 (w64 h.size)) 128
theorem hdrB_len (h : Hd) : (hdrB h).length = 128 := by unfold hdrB; rw [padL_len]; simp [beU_len]

theorem hlay_ok (h : Hd) (H : Heap) : Does Tryz.prog 50 [h.v] H fun v H' => ToldB H H' v (hdrB h) ∧ Ext [] H H' := by
  refine Fn_of_vc Tryz.mixed (vc_hlay _ _ _ _ _) ?_
  intro b1 H2 hn2
  have e1 := hn2.eq
  have hs2 := hn2.size
  have hb2 : Blk H2 b1 h.cells := hn2.blk
  refine (nwB_ok H2).mono ?_
  rintro _ H4 ⟨rfl, hw4, hx4⟩
  have hs4 := hx4.size
  have keep : ∀ {A B : Heap}, ExtP (fun k => H2.size ≤ k) A B → Blk A b1 h.cells → Blk B b1 h.cells := fun he hb => hb.extP he (by omega)
  have hb4 := hb2.ext hx4 (by simp)
  have q : ∀ {A : Heap}, Blk A b1 h.cells → hcell A b1 0 = some (.int .i64 h.epoch) ∧ hcell A b1 (0 + 1) = some (.int .i64 h.seq) ∧ hcell A b1 (0 + 2) = some (.int .i64 h.size) := fun hb => ⟨by rw [hb.cell]; rfl, by rw [hb.cell]; rfl, by rw [hb.cell]; rfl⟩
  refine ⟨_, rfl, (wuB_ok (n := 4) (.inr ⟨rfl, rfl⟩) (fun k hk => by show H2.size ≤ k; omega) (by simp) hw4).mono ?_⟩
  rintro _ H7 ⟨rfl, hw7, hx7⟩
  have hs7 := hx7.size
  have hb7 := keep hx7 hb4
  refine ⟨rfl, _, (q hb7).1, (wuB_ok (n := 4) (.inr ⟨rfl, rfl⟩) (fun k hk => by show H2.size ≤ k; omega) (by simp [beU_len]) hw7).mono ?_⟩
  rintro _ H10 ⟨rfl, hw10, hx10⟩
  have hs10 := hx10.size
  have hb10 := keep hx10 hb7
  refine ⟨rfl, _, (q hb10).2.1, (wuB_ok (n := 4) (.inr ⟨rfl, rfl⟩) (fun k hk => by show H2.size ≤ k; omega) (by simp [beU_len]) hw10).mono ?_⟩
  rintro _ H13 ⟨rfl, hw13, hx13⟩
  have hs13 := hx13.size
  have hb13 := keep hx13 hb10
  refine ⟨rfl, _, (q hb13).2.2, (wuB_ok (n := 4) (.inr ⟨rfl, rfl⟩) (fun k hk => by show H2.size ≤ k; omega) (by simp [beU_len]) hw13).mono ?_⟩
  rintro _ H16 ⟨rfl, hw16, hx16⟩
  have hX16 : Ext [] H H16 := hn2.ext.trans (hx4.transP (((hx7.trans hx10).trans hx13).trans hx16) (fun i hi => hi))
  refine ⟨rfl, (bytesB_ok (by simp [beU_len]) hw16).mono ?_⟩
  rintro _ H18 ⟨⟨a19, c21, rfl, ho18, _⟩, hx18⟩
  refine ⟨_, _, _, rfl, (padded_ok (n := 128) (by decide) (by simp [beU_len]) (ho18.row _ _)).mono ?_⟩
  rintro _ H23 ⟨⟨a24, c26, rfl, ho23, hfr23⟩, hx23⟩
  refine ⟨_, _, _, rfl, ⟨a24, c26, ?_, ?_, fun k hk => ?_⟩, (hX16.trans hx18).trans hx23⟩
  · simp only [hdrB, List.nil_append]
  · simpa only [hdrB, List.nil_append] using ho23
  · have := hfr23 k hk
    have := (hX16.trans hx18).size
    omega

def homeN (n : Nat) (size : Int) : Int := if size < 4 ∨ (n : Int) - 1 - 3 < size then -1 else n - 1 - size
theorem home_ok {H : Heap} {F : Nat → Prop} {pd : Nat} {D : Dev} {n B : Nat} (h : IsDev H F pd D) (hw : D.Wf n B) (size : Int) :
    Does Tryz.prog 48 [.pointer (some ⟨pd, 0, none⟩), .int .i64 size] H fun v H' => v = .int .i64 (homeN n size) ∧ H = H' := by
  have hl := hw.len
  have hf := hw.few
  refine Fn_of_vc Tryz.mixed (vc_home _ _ _ _) ?_
  unfold homeN
  refine ⟨fun h1 => ⟨by rw [if_pos (.inl h1)], rfl⟩, fun h1 => (dblocks_ok h).mono ?_⟩
  rintro _ _ ⟨rfl, rfl⟩
  refine ⟨_, rfl, ⟨by omega, by omega⟩, ⟨by omega, by omega⟩, fun h2 => ⟨by rw [if_pos (.inr (by omega))], rfl⟩, fun h2 => (dblocks_ok h).mono ?_⟩
  rintro _ _ ⟨rfl, rfl⟩
  refine ⟨_, rfl, ⟨by omega, by omega⟩, ⟨by omega, by omega⟩, ?_, rfl⟩
  rw [if_neg (by omega), hl]

def needsN (n : Int) : Int := if n < 1 then 0 else (n * 132 + 117) / 116
theorem needs_ok (n : Int) (H : Heap) (hn : n ≤ 1000000000000) : Does Tryz.prog 29 [.int .i64 n] H fun v H' => v = .int .i64 (needsN n) ∧ H = H' := by
  refine Fn_of_vc Tryz.mixed (vc_needs _ _ _) ?_
  unfold needsN
  refine ⟨fun h1 => ⟨by rw [if_pos h1], rfl⟩, fun h1 => ⟨⟨by omega, by omega⟩, ⟨by omega, by omega⟩, ⟨by omega, by omega⟩, ⟨by omega, by omega⟩, by decide, ?_⟩⟩
  rintro q rfl
  refine ⟨?_, rfl⟩
  rw [if_neg h1, wrap_tdiv (by omega) (by decide) (by omega), show 2 + n * 132 + 116 - 1 = n * 132 + 117 by omega]

/-! ### Slices of slices, as they are read -/
def bytesC : Elem Octs where
  sz := 1
  pos := by decide
  ok H v xs := ∃ a n c, v = [.slice a n c] ∧ n ≤ c ∧ SRow H 1 n (.slice a n c) (bytesV xs) ∧ ∀ k, k ∈ blkOf a → k < H.size
  fp v := match v with | [.slice a _ _] => blkOf a | _ => []
  len := by rintro H v x ⟨a, n, c, rfl, _⟩; rfl
  one := by rintro H v x ⟨a, n, c, rfl, _⟩ u hu; simp only [List.mem_singleton] at hu; subst hu; rfl
  lt := by rintro H v x ⟨a, n, c, rfl, _, _, h⟩; exact h
  ext := by rintro M H H' v x ⟨a, n, c, rfl, h0, h1, h2⟩ he hm; exact ⟨a, n, c, rfl, h0, h1.extP he hm, fun k hk => Nat.lt_of_lt_of_le (h2 k hk) he.size⟩

def SeqV {α : Type} (E : Elem α) (H : Heap) (a : Option Addr) (xs : List α) : Prop :=
  ∃ vs : List (List Value), SRow H E.sz xs.length (.slice a xs.length xs.length) vs.flatten ∧ vs.length = xs.length ∧ ∀ (i : Nat) (x : α), xs[i]? = some x → ∃ v, vs[i]? = some v ∧ E.ok H v x

section
variable {α : Type} {E : Elem α} {H H' : Heap} {a : Option Addr} {xs : List α}
theorem _root_.Go.Vc.Seq.view {G : Nat → Prop} {n c : Nat} (h : Seq E H G a n c xs) : SeqV E H a xs := by
  have hn := h.num
  obtain ⟨vs, h1, h2, h3⟩ := h
  subst hn
  exact ⟨vs, h1.row _ _, h2, fun i x hx => by
    obtain ⟨v, q1, q2, _⟩ := h3 i x hx
    exact ⟨v, q1, q2⟩⟩
theorem SeqV.ext (h : SeqV E H a xs) (he : Ext [] H H') : SeqV E H' a xs := by
  obtain ⟨vs, h1, h2, h3⟩ := h
  exact ⟨vs, h1.ext he (by simp), h2, fun i x hx => by
    obtain ⟨v, q1, q2⟩ := h3 i x hx
    exact ⟨v, q1, E.ext q2 he.toP (by simp)⟩⟩
theorem SeqV.get (h : SeqV E H a xs) {i : Nat} {x : α} (hx : xs[i]? = some x) : ∃ b o v, a = some ⟨b, o, none⟩ ∧ (∀ j u, v[j]? = some u → hcell H b (o + i * E.sz + j) = some u) ∧ E.ok H v x := by
  obtain ⟨vs, g1, g2, g3⟩ := h
  obtain ⟨v, q1, q2⟩ := g3 i x hx
  have hrows : ∀ r ∈ vs, r.length = E.sz := by
    intro r hr
    obtain ⟨i, hi, rfl⟩ := List.mem_iff_getElem.1 hr
    obtain ⟨v, h1, h2⟩ := g3 i _ (List.getElem?_eq_getElem (by omega))
    rw [List.getElem?_eq_getElem hi, Option.some.injEq] at h1
    rw [h1]
    exact E.len h2
  have hv := E.len q2
  have hpos := E.pos
  have hcell : ∀ j u, v[j]? = some u → ∃ b o, a = some ⟨b, o, none⟩ ∧ hcell H b (o + (i * E.sz + j)) = some u := fun j u hj => by
    have hlt := (List.getElem?_eq_some_iff.1 hj).1
    have := flatten_at hrows q1 (j := j) (by omega)
    rw [hj] at this
    exact g1.at this
  obtain ⟨b, o, rfl, _⟩ := hcell 0 _ (List.getElem?_eq_getElem (by omega))
  refine ⟨b, o, v, rfl, fun j u hj => ?_, q2⟩
  obtain ⟨b', o', e, hc⟩ := hcell j u hj
  cases e
  rw [Nat.add_assoc]
  exact hc
end

/-- A block among blocks. -/
theorem SeqV.blk {H : Heap} {a : Option Addr} {xs : List Octs} (h : SeqV bytesC H a xs) {i : Nat} {x : Octs} (hx : xs[i]? = some x) : ∃ b o a' c', a = some ⟨b, o, none⟩ ∧ hcell H b (o + i) = some (.slice a' x.length c') ∧ x.length ≤ c' ∧ SRow H 1 x.length (.slice a' x.length c') (bytesV x) ∧ ∀ k ∈ blkOf a', k < H.size := by
  obtain ⟨b, o, v, e, hc, a', n, c', rfl, h0, h1, h2⟩ := h.get hx
  have hn : x.length = n := by have := h1.1; rw [bytesV_length] at this; omega
  subst hn
  have := hc 0 _ rfl
  exact ⟨b, o, a', c', e, by simpa [bytesC] using this, h0, h1, h2⟩
/-- A write among writes. -/
theorem SeqV.wr {H : Heap} {a : Option Addr} {xs : List Wr} (h : SeqV writeE H a xs) {i : Nat} {x : Wr} (hx : xs[i]? = some x) : ∃ b o a' c', a = some ⟨b, o, none⟩ ∧ hcell H b (o + i * 2) = some (.int .i64 x.1) ∧ hcell H b (o + i * 2 + 1) = some (.slice a' x.2.length c') ∧ SRow H 1 x.2.length (.slice a' x.2.length c') (bytesV x.2) ∧ ∀ k ∈ blkOf a', k < H.size := by
  obtain ⟨b, o, v, e, hc, a', n, c', rfl, h1, h2⟩ := h.get hx
  have hn : x.2.length = n := by have := h1.1; rw [bytesV_length] at this; omega
  subst hn
  have q0 := hc 0 _ rfl
  have q1 := hc 1 _ rfl
  exact ⟨b, o, a', c', e, by simpa [writeE] using q0, by simpa [writeE] using q1, h1, h2⟩
theorem SeqV.take1 {H : Heap} {a : Option Addr} {xs : List Octs} (h : SeqV bytesC H a xs) (k : Nat) : SeqV bytesC H a (xs.take k) := by
  obtain ⟨vs, h1, h2, h3⟩ := h
  have hrows : ∀ r ∈ vs, r.length = 1 := by
    intro r hr
    obtain ⟨i, hi, rfl⟩ := List.mem_iff_getElem.1 hr
    obtain ⟨v, q1, q2⟩ := h3 i _ (List.getElem?_eq_getElem (by omega))
    rw [List.getElem?_eq_getElem hi, Option.some.injEq] at q1
    rw [q1]
    exact bytesC.len q2
  have hft : ∀ (vs : List (List Value)) (k : Nat), (∀ r ∈ vs, r.length = 1) → (vs.take k).flatten = vs.flatten.take k := by
    intro vs
    induction vs with
    | nil => intro k _; simp
    | cons r rs ih =>
      intro k hk
      cases k with
      | zero => simp
      | succ k =>
        have h1 := hk r (by simp)
        match r, h1 with
        | [u], _ => simp only [List.take_succ_cons, List.flatten_cons, List.cons_append, List.nil_append]; rw [ih k (fun r hr => hk r (by simp [hr]))]
  refine ⟨vs.take k, ?_, by rw [List.length_take, List.length_take, h2], fun i x hx => ?_⟩
  · rw [hft vs k hrows, List.length_take]
    by_cases hk : k ≤ xs.length
    · rw [Nat.min_eq_left hk]; exact SRow.take1 h1 hk
    · rw [Nat.min_eq_right (by omega), List.take_of_length_le (by have := h1.1; simp only [bytesC] at this; omega)]; exact h1
  · have hlt : i < k := by have := (List.getElem?_eq_some_iff.1 hx).1; simp at this; omega
    rw [List.getElem?_take_of_lt hlt] at hx
    obtain ⟨v, q1, q2⟩ := h3 i x hx
    exact ⟨v, by rw [List.getElem?_take_of_lt hlt]; exact q1, q2⟩

/-- From a place on. -/
theorem SRow.drop1 {H : Heap} {n : Nat} {a : Option Addr} {l c l' c' : Nat} {xs : List Value} (h : SRow H 1 n (.slice a l c) xs) {k : Nat} (hk : k ≤ n) (hc : n ≤ c) : SRow H 1 (n - k) (.slice (if c = k then a else Option.map (fun x => Addr.add x (k * 1)) a) l' c') (xs.drop k) := by
  obtain ⟨h1, h2⟩ := h
  refine ⟨by rw [List.length_drop]; omega, ?_⟩
  cases a with
  | none =>
    have h2 : xs = [] := h2
    subst h2
    have e : (if c = k then (none : Option Addr) else Option.map (fun x => Addr.add x (k * 1)) none) = none := by by_cases h : c = k <;> simp [h]
    rw [e]
    exact List.drop_nil
  | some ad =>
    obtain ⟨h3, h4⟩ := h2
    by_cases he : c = k
    · rw [if_pos he]
      have : xs.drop k = [] := List.drop_eq_nil_of_le (by omega)
      rw [this]
      exact ⟨.inl rfl, fun j u hj => by simp at hj⟩
    · rw [if_neg he]
      rcases h3 with rfl | h3
      · rw [List.drop_nil, Option.map_some]
        exact ⟨.inl rfl, fun j u hj => by simp at hj⟩
      · obtain ⟨b, o, sp⟩ := ad
        simp only at h3
        subst h3
        rw [Option.map_some, add_none, Nat.mul_one]
        refine ⟨.inr rfl, fun j u hj => ?_⟩
        rw [List.getElem?_drop] at hj
        have := h4 (k + j) u hj
        rw [Nat.add_assoc]; exact this
end Go.Proofs
end

section
open Go Go.Vc
namespace Go.Proofs

def wrB (w : Wr) : Octs := beU 4 (w64 w.1) ++ w.2
def streamB (l : List Wr) : Octs := beU 2 (w64 l.length) ++ (l.map wrB).flatten
def Full (l : List Wr) : Prop := ∀ w ∈ l, w.2.length = 128
theorem wrs_len {l : List Wr} (h : Full l) : ((l.map wrB).flatten).length = l.length * 132 := by
  induction l with
  | nil => rfl
  | cons w r ih =>
    have := h w (by simp)
    simp only [List.map_cons, List.flatten_cons, List.length_append, List.length_cons, wrB, beU_len, this, ih (fun x hx => h x (by simp [hx]))]
    omega
theorem streamB_len {l : List Wr} (h : Full l) : (streamB l).length = 2 + l.length * 132 := by
  unfold streamB; rw [List.length_append, beU_len, wrs_len h]
theorem Full.take {l : List Wr} (h : Full l) (k : Nat) : Full (l.take k) := fun w hw => h w (List.mem_of_mem_take hw)

/-- A writer's region, but for one block. -/
theorem WB.but {n b0 : Nat} {A B : Heap} {b : Nat} {xs : Octs} {vs ws : List Value} {e : TypeId} (h : WB (fun k => n ≤ k) A b xs) {C : Heap} (hn : New A b0 vs e B) (hp : Puts B b0 0 ws C) : WB (fun k => n ≤ k ∧ k ≠ b0) C b xs := by
  have e0 := hn.eq
  have h1 : WB (fun k => n ≤ k ∧ k ≠ b0) A b xs := WIs.mono h (fun k hk hg => ⟨hg, by omega⟩)
  exact WIs.extP (WIs.ext h1 hn.ext) hp.ext.toP (fun k hk hm => hk.2 (by simpa using hm))

set_option maxHeartbeats 1000000 in
theorem stream_ok {l : List Wr} {a : Option Addr} {c : Nat} {H : Heap} (hl : l.length ≤ 5000) (hf : Full l) (h : SeqV writeE H a l) :
    Does Tryz.prog 94 [.slice a l.length c] H fun v H' => ToldB H H' v (streamB l) ∧ Ext [] H H' := by
  refine Fn_of_vc Tryz.mixed (vc_stream _ _ _ _ _) ?_
  refine (nwB_ok H).mono ?_
  rintro _ H2 ⟨rfl, hw2, hx2⟩
  refine ⟨_, rfl, (wuB_ok (n := 2) (.inl ⟨rfl, rfl⟩) (fun k hk => by have := hx2.size; show H.size ≤ k; omega) (by simp) hw2).mono ?_⟩
  rintro _ H5 ⟨rfl, hw5, hx5⟩
  have far0 : ∀ {A B : Heap}, ExtP (fun k => H.size ≤ k) A B → Ext [] H A → Ext [] H B := fun he hx => hx.transP he (fun i hi => hi)
  have hX5 := far0 hx5 hx2
  refine ⟨rfl, fun i H' => ∃ j : Nat, i = j ∧ j ≤ l.length ∧ Ext [] H H' ∧ WB (fun k => H.size ≤ k) H' H.size (beU 2 (w64 l.length) ++ ((l.take j).map wrB).flatten), fun i _ => l.length - i.toNat, ⟨0, rfl, by omega, hX5, by simpa using hw5⟩, ?_⟩
  rintro _ H9 ⟨j, rfl, hj, hx9, hw9⟩
  refine ⟨fun hlt => ?_, fun hge => ?_⟩
  · have hi : l[j]? = some l[j] := List.getElem?_eq_getElem (by omega)
    have htk : l.take (j + 1) = l.take j ++ [l[j]] := by rw [List.take_add_one, hi]; rfl
    have hw128 := hf l[j] (List.getElem_mem _)
    have hplen : (beU 2 (w64 l.length) ++ ((l.take j).map wrB).flatten).length ≤ 700000 := by
      rw [List.length_append, beU_len, wrs_len (hf.take j), List.length_take]; omega
    obtain ⟨b10, o11, a13, c15, ea, g0, g1, gr, glt⟩ := h.wr hi
    have g0 := hcell_ext g0 hx9 (by simp)
    have g1 := hcell_ext g1 hx9 (by simp)
    generalize l[j] = w at *
    refine ⟨by omega, hlt, b10, o11, ea, _, by rw [Int.toNat_natCast]; exact g0, a13, _, c15, by rw [Int.toNat_natCast]; exact g1, fun b16 H17 hn17 => ⟨hn17.blk.cells _ _ (by simp), fun H18 hp18 => ?_⟩⟩
    have hb18 : Blk H18 b16 [.int .i64 w.1, .slice a13 w.2.length c15] := by simpa [splice] using hp18.blk hn17.blk (by simp)
    have e16 := hn17.eq
    have hs17 := hn17.size
    have hs18 := hp18.size
    have hs9 := hx9.size
    have hw18 := hw9.but hn17 hp18
    have hx18 : Ext [] H H18 := ext_new (hx9.trans hn17.ext) hp18.ext (by simp; omega)
    generalize hpre : (beU 2 (w64 l.length) ++ ((l.take j).map wrB).flatten) = pre at *
    refine ⟨w.1, by rw [hb18.cell]; rfl, (wuB_ok (n := 4) (.inr ⟨rfl, rfl⟩) (fun k hk => ⟨by omega, by omega⟩) (by omega) hw18).mono ?_⟩
    rintro _ H21 ⟨rfl, hw21, hx21⟩
    have hb21 := hb18.extP hx21 (fun hm => hm.2 rfl)
    have hs21 := hx21.size
    have hx21' : Ext [] H H21 := hx18.transP hx21 (fun i hi => hi.1)
    refine ⟨rfl, a13, _, c15, by rw [hb21.cell]; rfl, (wrawB_ok (fun k hk => ⟨by omega, by omega⟩) (by rw [List.length_append, beU_len]; omega) (by omega) hw21 (gr.ext hx21' (by simp))).mono ?_⟩
    rintro _ H26 ⟨rfl, hw26, hx26⟩
    refine ⟨rfl, ⟨by omega, by omega⟩, ⟨j + 1, by omega, by omega, hx21'.transP hx26 (fun i hi => hi.1), ?_⟩, by simp only []; omega⟩
    rw [htk, List.map_append, List.flatten_append, ← List.append_assoc, hpre, show (List.map wrB [w]).flatten = wrB w by simp]
    have := WIs.mono (G' := fun k => H.size ≤ k) hw26 (fun k _ hk => hk.1)
    unfold WB wrB
    rw [← List.append_assoc]
    exact this
  · have : j = l.length := by omega
    subst this
    rw [List.take_length] at hw9
    refine (bytesB_ok (xs := streamB l) (by rw [streamB_len hf]; omega) hw9).mono ?_
    rintro _ H28 ⟨⟨a29, c31, rfl, ho, hfr⟩, hx28⟩
    exact ⟨_, _, _, rfl, ⟨a29, c31, rfl, ho, fun k hk => by have := hfr k hk; have := hx9.size; omega⟩, hx9.trans hx28⟩
end Go.Proofs
end

section
open Go Go.Vc
namespace Go.Proofs

def cntN (l : List Wr) : Nat := (needsN l.length).toNat
def bodyB (l : List Wr) : Octs := padL (streamB l) (cntN l * 116)
def jblk (h : Hd) (l : List Wr) (k : Nat) : Octs := beU 4 (w64 h.epoch) ++ beU 4 (w64 h.seq) ++ beU 2 (w64 k) ++ beU 2 (w64 (cntN l)) ++ ((bodyB l).drop (k * 116)).take 116
def laidB (h : Hd) (l : List Wr) : List Octs := (List.range (cntN l)).map (jblk h l)

theorem needs_nat (l : List Wr) : needsN l.length = (cntN l : Int) := by
  unfold cntN needsN; split <;> omega
theorem cnt_len {l : List Wr} (h : 0 < l.length) : 2 + l.length * 132 ≤ cntN l * 116 ∧ cntN l * 116 ≤ 2 + l.length * 132 + 115 := by
  have := needs_nat l
  unfold needsN at this
  rw [if_neg (by omega)] at this
  omega
theorem cnt_zero' {l : List Wr} (h : l.length = 0) : cntN l = 0 := by unfold cntN needsN; rw [h]; rfl
theorem bodyB_len {l : List Wr} (hf : Full l) (h : 0 < l.length) : (bodyB l).length = cntN l * 116 := by
  unfold bodyB; rw [padL_len, streamB_len hf]; have := cnt_len h; omega
theorem piece_len {l : List Wr} (hf : Full l) {k : Nat} (hk : k < cntN l) : (((bodyB l).drop (k * 116)).take 116).length = 116 := by
  have h : 0 < l.length := by
    rcases Nat.eq_zero_or_pos l.length with h | h
    · rw [cnt_zero' h] at hk; omega
    · exact h
  have hb := bodyB_len hf h
  have : (k + 1) * 116 ≤ cntN l * 116 := Nat.mul_le_mul_right _ hk
  rw [List.length_take, List.length_drop, hb]; omega
theorem jblk_len {h : Hd} {l : List Wr} (hf : Full l) {k : Nat} (hk : k < cntN l) : (jblk h l k).length = 128 := by
  unfold jblk; rw [List.length_append, piece_len hf hk]; simp [beU_len]
theorem laidB_len (h : Hd) (l : List Wr) : (laidB h l).length = cntN l := by simp [laidB]

/-- A row of blocks that one has made. -/
def MySeq {α : Type} (E : Elem α) (n0 : Nat) (H : Heap) (a : Option Addr) (n c : Nat) (xs : List α) : Prop :=
  ∃ G, Seq E H G a n c xs ∧ (∀ k, G k → n0 ≤ k ∧ k < H.size ∧ k ∉ blkOf a) ∧ ∀ k ∈ blkOf a, n0 ≤ k
theorem MySeq.nil {α : Type} (E : Elem α) (n0 : Nat) (H : Heap) : MySeq E n0 H none 0 0 [] := ⟨fun _ => False, Seq.nil _ _ _, fun k hk => hk.elim, by simp [blkOf]⟩
theorem MySeq.extP {α : Type} {E : Elem α} {n0 : Nat} {H H' : Heap} {a : Option Addr} {n c : Nat} {xs : List α} {M : Nat → Prop} (h : MySeq E n0 H a n c xs) (he : ExtP M H H') (hm : ∀ k, k < H.size → n0 ≤ k → ¬ M k) : MySeq E n0 H' a n c xs := by
  obtain ⟨G, h1, h2, h3⟩ := h
  exact ⟨G, h1.extP he (fun k hk => hm k (h1.lt k hk) (h3 k hk)) (fun k hk => hm k (h2 k hk).2.1 (h2 k hk).1), fun k hk => ⟨(h2 k hk).1, Nat.lt_of_lt_of_le (h2 k hk).2.1 he.size, (h2 k hk).2.2⟩, h3⟩
theorem MySeq.ext {α : Type} {E : Elem α} {n0 : Nat} {H H' : Heap} {a : Option Addr} {n c : Nat} {xs : List α} (h : MySeq E n0 H a n c xs) (he : Ext [] H H') : MySeq E n0 H' a n c xs := h.extP he.toP (by simp)
theorem MySeq.view {α : Type} {E : Elem α} {n0 : Nat} {H : Heap} {a : Option Addr} {n c : Nat} {xs : List α} (h : MySeq E n0 H a n c xs) : SeqV E H a xs := by
  obtain ⟨G, h1, _⟩ := h; exact h1.view
theorem MySeq.num {α : Type} {E : Elem α} {n0 : Nat} {H : Heap} {a : Option Addr} {n c : Nat} {xs : List α} (h : MySeq E n0 H a n c xs) : xs.length = n := by
  obtain ⟨G, h1, _⟩ := h; exact h1.num
theorem MySeq.low {α : Type} {E : Elem α} {n0 n1 : Nat} {H : Heap} {a : Option Addr} {n c : Nat} {xs : List α} (h : MySeq E n0 H a n c xs) (hn : n1 ≤ n0) : MySeq E n1 H a n c xs := by
  obtain ⟨G, h1, h2, h3⟩ := h
  exact ⟨G, h1, fun k hk => ⟨Nat.le_trans hn (h2 k hk).1, (h2 k hk).2⟩, fun k hk => Nat.le_trans hn (h3 k hk)⟩

/-- One element appended to one's own row. -/
theorem MySeq.push {α : Type} {E : Elem α} {n0 : Nat} {H : Heap} {a : Option Addr} {n c : Nat} {xs : List α} (h : MySeq E n0 H a n c xs) {w : Nat} {e e' : TypeId} {z v : List Value} {x : α} (hv : E.ok H v x) (hf : ∀ k ∈ E.fp v, n0 ≤ k ∧ k ∉ blkOf a) (hs0 : n0 ≤ H.size) (hz : z.length = E.sz) (hw : (n + 1) * w ≤ 140737488355328)
    {R : Option Addr → Nat → Heap → Prop} (k : ∀ a' c' H', MySeq E n0 H' a' (n + 1) c' (xs ++ [x]) → Ext [] H H' ∨ (Ext (blkOf a) H H') → (Ext (blkOf a) H H') → R a' c' H') (b : Nat) (H2 : Heap) (hn : New H b v e H2) :
    ∃ old news : List Value, SRow H2 E.sz n (.slice a n c) old ∧ SRow H2 E.sz 1 (.slice (some ⟨b, 0, none⟩) 1 1) news ∧ (∀ u ∈ news, Value.oneCell' u = true) ∧ (n + 1) * w ≤ 140737488355328 ∧
      (n + 1 ≤ c → roomOf H2 a (n * E.sz) (1 * E.sz)) ∧ ∀ a' c' H', App H2 E.sz e' z a n c old news 1 a' c' H' → R a' c' H' := by
  obtain ⟨G, h1, h2, h3⟩ := h
  have hlt := E.lt hv
  have h1' : Seq E H (fun k => G k ∨ k ∈ E.fp v) a n c xs := h1.mono (fun k _ hk => .inl hk)
  refine h1'.push (fun k hk => ?_) hv (fun k hk => .inr hk) hz hw (fun a' c' H' g1 g2 g3 => ?_) b H2 hn
  · rcases hk with hk | hk
    · exact (h2 k hk).2.2
    · exact (hf k hk).2
  · have hsz := g2.size
    have hlt' : ∀ i, (G i ∨ i ∈ E.fp v) → i < H.size := fun i hi => by
      rcases hi with hi | hi
      · exact (h2 i hi).2.1
      · exact hlt i hi
    refine k a' c' H' ⟨_, g1, fun i hi => ⟨?_, by have := hlt' i hi; omega, fun hm => ?_⟩, fun i hi => ?_⟩ (.inr g2) g2
    · rcases hi with hi | hi
      · exact (h2 i hi).1
      · exact (hf i hi).1
    · rcases g3 i hm with h' | h'
      · rcases hi with hi | hi
        · exact (h2 i hi).2.2 h'
        · exact (hf i hi).2 h'
      · have := hlt' i hi; omega
    · rcases g3 i hi with h' | h'
      · exact h3 i h'
      · omega

set_option maxHeartbeats 1000000 in
theorem laid_ok (h : Hd) {l : List Wr} {a : Option Addr} {c : Nat} {H : Heap} (hl : l.length ≤ 5000) (hf : Full l) (hs : SeqV writeE H a l) :
    Does Tryz.prog 82 [h.v, .slice a l.length c] H fun v H' => ∃ a' c', v = .slice a' (cntN l) c' ∧ MySeq bytesC H.size H' a' (cntN l) c' (laidB h l) ∧ Ext [] H H' := by
  refine Fn_of_vc Tryz.mixed (vc_laid _ _ _ _ _ _ _ _) ?_
  intro b1 H2 hn2
  have e1 := hn2.eq
  have hs2 := hn2.size
  have hb2 : Blk H2 b1 h.cells := hn2.blk
  refine (stream_ok hl hf (hs.ext hn2.ext)).mono ?_
  rintro _ H4 ⟨⟨a5, c7, rfl, ho4, _⟩, hx4⟩
  refine ⟨_, _, _, rfl, (needs_ok l.length H4 (by omega)).mono ?_⟩
  rintro _ _ ⟨rfl, rfl⟩
  have hc3 : cntN l ≤ 10000 := by
    rcases Nat.eq_zero_or_pos l.length with h0 | h0
    · rw [cnt_zero' h0]; omega
    · have := cnt_len h0; omega
  refine ⟨_, rfl, ?_⟩
  rw [needs_nat]
  refine ⟨⟨by omega, by omega⟩, ?_⟩
  rw [show ((cntN l : Nat) : Int) * 116 = ((cntN l * 116 : Nat) : Int) by omega]
  refine (padded_ok (by omega) (by rw [streamB_len hf]; omega) (ho4.row _ _)).mono ?_
  rintro _ H12 ⟨⟨a13, c15, rfl, ho12, _⟩, hx12⟩
  rw [show padL (streamB l) (cntN l * 116) = bodyB l from rfl] at ho12 ⊢
  have hX12 : Ext [] H H12 := (hn2.ext.trans hx4).trans hx12
  have hb12 := (hb2.ext hx4 (by simp)).ext hx12 (by simp)
  have hs12 : H2.size ≤ H12.size := by have := hx4.size; have := hx12.size; omega
  refine ⟨_, _, _, rfl, fun a18 l19 c20 n H' => ∃ k : Nat, n = k ∧ k ≤ cntN l ∧ l19 = k ∧ MySeq bytesC H12.size H' a18 l19 c20 ((List.range k).map (jblk h l)) ∧ Ext [] H12 H', fun _ _ _ n _ => cntN l - n.toNat, ⟨0, rfl, by omega, rfl, MySeq.nil _ _ _, Ext.refl _ _⟩, ?_⟩
  rintro a18 l19 c20 _ H22 ⟨k, rfl, hk, el, hm22, hx22⟩
  have el := el.symm
  subst el
  refine ⟨fun hlt => ?_, fun hge => ?_⟩
  · have hkl : k < cntN l := by omega
    have hpos : 0 < l.length := by
      rcases Nat.eq_zero_or_pos l.length with h0 | h0
      · rw [cnt_zero' h0] at hkl; omega
      · exact h0
    have hs22 := hx22.size
    have hb22 := hb12.ext hx22 (by simp)
    have ho22 := ho12.ext hx22 (by simp)
    have q : ∀ {A : Heap}, Blk A b1 h.cells → hcell A b1 0 = some (.int .i64 h.epoch) ∧ hcell A b1 (0 + 1) = some (.int .i64 h.seq) := fun hb => ⟨by rw [hb.cell]; rfl, by rw [hb.cell]; rfl⟩
    have keep : ∀ {A B : Heap}, ExtP (fun k => H22.size ≤ k) A B → Blk A b1 h.cells → Blk B b1 h.cells := fun he hb => hb.extP he (by omega)
    refine (nwB_ok H22).mono ?_
    rintro _ H24 ⟨rfl, hw24, hx24⟩
    have hs24 := hx24.size
    refine ⟨_, rfl, _, (q (hb22.ext hx24 (by simp))).1, (wuB_ok (n := 4) (.inr ⟨rfl, rfl⟩) (fun k hk => by show H22.size ≤ k; omega) (by simp) hw24).mono ?_⟩
    rintro _ H28 ⟨rfl, hw28, hx28⟩
    have hs28 := hx28.size
    have hb28 := keep hx28 (hb22.ext hx24 (by simp))
    refine ⟨rfl, _, (q hb28).2, (wuB_ok (n := 4) (.inr ⟨rfl, rfl⟩) (fun k hk => by show H22.size ≤ k; omega) (by simp [beU_len]) hw28).mono ?_⟩
    rintro _ H31 ⟨rfl, hw31, hx31⟩
    have hs31 := hx31.size
    refine ⟨rfl, (wuB_ok (n := 2) (.inl ⟨rfl, rfl⟩) (fun k hk => by show H22.size ≤ k; omega) (by simp [beU_len]) hw31).mono ?_⟩
    rintro _ H33 ⟨rfl, hw33, hx33⟩
    have hs33 := hx33.size
    refine ⟨rfl, (wuB_ok (n := 2) (.inl ⟨rfl, rfl⟩) (fun k hk => by show H22.size ≤ k; omega) (by simp [beU_len]) hw33).mono ?_⟩
    rintro _ H35 ⟨rfl, hw35, hx35⟩
    have hs35 := hx35.size
    have hX35 : ExtP (fun k => H22.size ≤ k) H24 H35 := ((hx28.trans hx31).trans hx33).trans hx35
    have hx2235 : Ext [] H22 H35 := hx24.transP hX35 (fun i hi => hi)
    have ho35 := ho22.ext hx2235 (by simp)
    have hbl := bodyB_len hf hpos
    have hk1 : (k + 1) * 116 ≤ cntN l * 116 := Nat.mul_le_mul_right _ hkl
    have hcap := ho35.2.1
    have i1 : Int.toNat ((k : Int) * 116) = k * 116 := by omega
    have i2 : Int.toNat (((k : Int) + 1) * 116) = (k + 1) * 116 := by omega
    refine ⟨rfl, ⟨by omega, by omega⟩, ⟨by omega, by omega⟩, ⟨by omega, by omega⟩, by omega, by omega, by rw [hbl] at hcap; omega, ?_⟩
    rintro _ rfl
    rw [i1, i2]
    have hpl := piece_len hf hkl
    have hrow : SRow H35 1 (((bodyB l).drop (k * 116)).take 116).length (.slice (if c15 = k * 116 then a13 else Option.map (fun x => Addr.add x (k * 116 * 1)) a13) (((bodyB l).drop (k * 116)).take 116).length (c15 - k * 116)) (bytesV (((bodyB l).drop (k * 116)).take 116)) := by
      rw [hpl]
      have r1 := SRow.drop1 (l' := 116) (c' := c15 - k * 116) (ho35.row (bodyB l).length c15) (k := k * 116) (by rw [hbl]; omega) hcap
      have r2 := SRow.take1 (l' := 116) (c' := c15 - k * 116) r1 (k := 116) (by rw [hbl]; omega)
      have e : bytesV (((bodyB l).drop (k * 116)).take 116) = ((bytesV (bodyB l)).drop (k * 116)).take 116 := by simp [bytesV]
      rw [e]; exact r2
    have hsub : (k + 1) * 116 - k * 116 = (((bodyB l).drop (k * 116)).take 116).length := by rw [hpl]; omega
    rw [hsub]
    refine (wrawB_ok (fun k hk => by show H22.size ≤ k; omega) (by simp [beU_len]) (by rw [hpl]; decide) hw35 hrow).mono ?_
    rintro _ H38 ⟨rfl, hw38, hx38⟩
    have hs38 := hx38.size
    refine ⟨rfl, ?_⟩
    have hjb : ([] ++ beU 4 (w64 h.epoch) ++ beU 4 (w64 h.seq) ++ beU 2 (w64 (k : Int)) ++ beU 2 (w64 ((cntN l : Nat) : Int)) ++ ((bodyB l).drop (k * 116)).take 116) = jblk h l k := rfl
    rw [hjb] at hw38
    have hjl := jblk_len (h := h) hf hkl
    refine (bytesB_ok (by rw [hjl]; decide) hw38).mono ?_
    rintro _ H40 ⟨⟨a41, c43, rfl, ho40, hfr40⟩, hx40⟩
    have hx2240 : Ext [] H22 H40 := (hx2235.transP hx38 (fun i hi => hi)).trans hx40
    have hm40 := hm22.ext hx2240
    have hs40 := hx40.size
    have hafr : ∀ i ∈ blkOf a41, H12.size ≤ i ∧ i ∉ blkOf a18 := fun i hi => by
      have h1 := hfr40 i hi
      refine ⟨by omega, fun hm => ?_⟩
      obtain ⟨G, g1, _⟩ := hm22
      have := g1.lt i hm
      omega
    refine ⟨_, _, _, rfl, hm40.push (E := bytesC) (v := [.slice a41 (jblk h l k).length c43]) ⟨a41, _, c43, rfl, ho40.2.1, ho40.row _ _, ho40.lt⟩ hafr (by omega) rfl (by omega) (fun a48 c49 H50 g1 _ g2 => ⟨⟨by omega, by omega⟩, ⟨k + 1, by omega, by omega, rfl, ?_, ?_⟩, by simp only []; omega⟩)⟩
    · rw [List.range_succ, List.map_append]; exact g1
    · exact ext_new (hx22.trans hx2240) g2 (fun i hi => by obtain ⟨G, _, _, g3⟩ := hm22; exact g3 i hi)
  · have : k = cntN l := by omega
    subst this
    exact ⟨a18, c20, rfl, hm22.low (by omega), hX12.trans hx22⟩
end Go.Proofs
end

section
open Go Go.Vc
namespace Go.Proofs

def Marks (H : Heap) (r : Nat) (out : List Int) : Prop := ∃ l, MapIs H r l ∧ ∀ k, mapGet l k (.bool false) = .bool (decide (k ∈ out))

theorem MapIs.ext {M : List Nat} {H H' : Heap} {r : Nat} {l : List (Int × Value)} (h : MapIs H r l) (he : Ext M H H') (hm : r ∉ M) : MapIs H' r l := by
  obtain ⟨es, c, h1, h2⟩ := h
  exact ⟨es, c, by rw [he.keep r (Array.getElem?_eq_some_iff.1 h1).1 hm]; exact h1, h2⟩

theorem Marks.ext {M : List Nat} {H H' : Heap} {r : Nat} {out : List Int} (h : Marks H r out) (he : Ext M H H') (hm : r ∉ M) : Marks H' r out := by
  obtain ⟨l, h1, h2⟩ := h
  exact ⟨l, MapIs.ext h1 he hm, h2⟩

theorem mapGet_set (l : List (Int × Value)) (k j : Int) (v z : Value) : mapGet (mapSet l k v) j z = if j = k then v else mapGet l j z := by
  induction l with
  | nil =>
    simp only [mapSet, mapGet]
    by_cases h : j = k
    · rw [if_pos h, if_pos h.symm]
    · rw [if_neg h, if_neg (fun e => h e.symm)]
  | cons p r ih =>
    simp only [mapSet]
    by_cases hp : p.1 = k
    · rw [if_pos hp]
      simp only [mapGet]
      by_cases h : j = k
      · rw [if_pos h, if_pos h.symm]
      · rw [if_neg h, if_neg (fun e => h e.symm), if_neg (fun e => h (by rw [← e, hp]))]
    · rw [if_neg hp]
      simp only [mapGet, ih]
      by_cases h : j = k
      · rw [if_pos h, if_neg (fun e => hp (by rw [e, h])), if_pos h]
      · rw [if_neg h, if_neg h]

theorem MapPut.is {H H' : Heap} {r : Nat} {l : List (Int × Value)} (h : MapPut H r l H') (hr : r < H.size) : MapIs H' r l ∧ Ext [r] H H' := by
  obtain ⟨es, c, h1, rfl, hs⟩ := h
  refine ⟨⟨es, c, by rw [Array.getElem?_setIfInBounds, if_pos rfl, if_pos hr], h1, hs⟩, by rw [Array.size_setIfInBounds]; exact Nat.le_refl _, fun k hk hm => ?_⟩
  rw [Array.getElem?_setIfInBounds, if_neg (fun e => hm (by simp [e]))]

theorem not_blk_map {H : Heap} {b r : Nat} {cs : List Value} {out : List Int} (hb : Blk H b cs) (hm : Marks H r out) : b ≠ r := by
  rintro rfl
  obtain ⟨e, h1⟩ := hb
  obtain ⟨l, ⟨es, c, h2, _⟩, _⟩ := hm
  rw [h1] at h2
  cases h2

theorem _root_.Go.Vc.NewMap.ext {H H' : Heap} {r : Nat} (h : NewMap H r H') : Ext [] H H' := by
  obtain ⟨rfl, rfl⟩ := h
  exact ⟨by simp, fun k hk _ => by rw [Array.getElem?_push, if_neg (by omega)]⟩

theorem marks_new {H H' : Heap} {r : Nat} (h : NewMap H r H') : Marks H' r [] := by
  obtain ⟨rfl, rfl⟩ := h
  exact ⟨[], ⟨#[], 0, by simp, rfl, MapKept.stamped_empty _⟩, fun k => by simp [mapGet]⟩

theorem nodup_le : ∀ (ids out : List Int), out.Nodup → (∀ k ∈ out, k ∈ ids) → out.length ≤ ids.length
  | [], out, _, h => by
    cases out with
    | nil => simp
    | cons x r => exact absurd (h x (by simp)) (by simp)
  | x :: ids, out, hn, h => by
    by_cases hx : x ∈ out
    · have h1 := nodup_le ids (out.erase x) (hn.erase x) (fun k hk => by
        rw [hn.mem_erase_iff] at hk
        rcases List.mem_cons.1 (h k hk.2) with e | e
        · exact absurd e hk.1
        · exact e)
      rw [List.length_erase_of_mem hx] at h1
      have : 0 < out.length := List.length_pos_of_mem hx
      simp only [List.length_cons]; omega
    · have h1 := nodup_le ids out hn (fun k hk => by
        rcases List.mem_cons.1 (h k hk) with e | e
        · subst e; exact absurd hk hx
        · exact e)
      simp only [List.length_cons]; omega
end Go.Proofs
end

section
open Go Go.Vc
namespace Go.Proofs

/-- The writes that are read. -/
def parseW : Nat → Octs × Bool → List Wr
  | 0, _ => []
  | n + 1, s => if s.2 = true then [] else (numU s 4, (rdU (rdU s 4).2 128).1) :: parseW n (rdU (rdU s 4).2 128).2
def writesM (b : Octs) : List Wr := parseW (numU (b, false) 2).toNat (rdU (b, false) 2).2

theorem rdU_len (s : Octs × Bool) (n : Nat) : (rdU s n).1.length ≤ n := by
  unfold rdU; split
  · simp; omega
  · simp
theorem numU_lt2 (s : Octs × Bool) : 0 ≤ numU s 2 ∧ numU s 2 < 65536 := by
  obtain ⟨h1, h2⟩ := be_lt (toI_byt (rdU s 2).1)
  have := pow256 (j := (toI (rdU s 2).1).length) (k := 2) (by rw [toI_len]; exact rdU_len s 2)
  have e : (256 : Int) ^ 2 = 65536 := by decide
  rw [e] at this
  exact ⟨h1, Int.lt_of_lt_of_le h2 this⟩
theorem numU_lt4 (s : Octs × Bool) : 0 ≤ numU s 4 ∧ numU s 4 < 4294967296 := by
  obtain ⟨h1, h2⟩ := be_lt (toI_byt (rdU s 4).1)
  have := pow256 (j := (toI (rdU s 4).1).length) (k := 4) (by rw [toI_len]; exact rdU_len s 4)
  have e : (256 : Int) ^ 4 = 4294967296 := by decide
  rw [e] at this
  exact ⟨h1, Int.lt_of_lt_of_le h2 this⟩
theorem parseW_lack (n : Nat) {s : Octs × Bool} (h : s.2 = true) : parseW n s = [] := by
  cases n with
  | zero => rfl
  | succ n => simp only [parseW, if_pos h]

theorem writes_ok {b : Octs} {a : Option Addr} {c : Nat} {H : Heap} (hl : b.length ≤ 140737488355328) (h : SRow H 1 b.length (.slice a b.length c) (bytesV b)) :
    Does Tryz.prog 92 [.slice a b.length c] H fun v H' => ∃ a' c', v = .slice a' (writesM b).length c' ∧ MySeq writeE H.size H' a' (writesM b).length c' (writesM b) ∧ Ext [] H H' := by
  refine Fn_of_vc Tryz.mixed (vc_writes _ _ _ _ _) ?_
  refine (nrB_ok hl h).mono ?_
  rintro _ H2 ⟨p, rfl, hr2, hx2⟩
  refine ⟨_, rfl, (ruB_ok (n := 2) (.inl ⟨rfl, rfl⟩) hr2).mono ?_⟩
  rintro _ H5 ⟨rfl, hr5, hx5⟩
  have hX5 : Ext [] H H5 := hx2.transP hx5 (fun i hi => hi)
  have hs5 := hX5.size
  obtain ⟨n0, n1⟩ := numU_lt2 (b, false)
  have hr5' : RB (fun k => H.size ≤ k ∧ k < H5.size) H5 p (rdU (b, false) 2).2 := RIs.mono hr5 (fun k hk hg => ⟨hg, hk⟩)
  show ∃ _, _
  unfold writesM
  generalize numU (b, false) 2 = n at *
  generalize (rdU (b, false) 2).2 = s0 at *
  refine ⟨_, rfl, fun a9 l10 c11 n12 H13 => ∃ (L : List Wr) (s : Octs × Bool) (m : Nat), n12 = m ∧ m + L.length ≤ 65535 ∧ L.length = l10 ∧ MySeq writeE H5.size H13 a9 l10 c11 L ∧ RB (fun k => H.size ≤ k ∧ k < H5.size) H13 p s ∧ L ++ parseW m s = parseW n.toNat s0 ∧ Ext [] H H13 ∧ H5.size ≤ H13.size, fun _ _ _ n _ => n.toNat,
    ⟨[], s0, n.toNat, by omega, by simp; omega, rfl, MySeq.nil _ _ _, hr5', rfl, hX5, Nat.le_refl _⟩, ?_⟩
  rintro a9 l10 c11 _ H13 ⟨L, s, m, rfl, hmL, e10, hm13, hr13, hL, hx13, hs13⟩
  subst e10
  have fin : parseW m s = [] → ∃ a' c', Value.slice a9 L.length c11 = .slice a' (parseW n.toNat s0).length c' ∧ MySeq writeE H.size H13 a' (parseW n.toNat s0).length c' (parseW n.toNat s0) ∧ Ext [] H H13 := by
    intro e
    rw [e, List.append_nil] at hL
    rw [← hL]
    exact ⟨a9, c11, rfl, hm13.low hs5, hx13⟩
  refine ⟨fun hlt => ?_, fun hge => fin (by rw [show m = 0 by omega]; rfl)⟩
  obtain ⟨m, rfl⟩ : ∃ k, m = k + 1 := ⟨m - 1, by omega⟩
  refine (lackB_ok hr13).mono ?_
  rintro _ _ ⟨rfl, rfl⟩
  refine ⟨_, rfl, fun el => ?_, fun el => fin (parseW_lack _ (by simpa using el))⟩
  rw [parseW, if_neg (by rw [el]; simp)] at hL
  refine (ruB_ok (n := 4) (.inr ⟨rfl, rfl⟩) hr13).mono ?_
  rintro _ H18 ⟨rfl, hr18, hx18⟩
  refine ⟨_, rfl, (rawB_ok (n := 128) (by decide) hr18).mono ?_⟩
  rintro _ H21 ⟨a22, c24, rfl, hrow, hr21, hx21, hfr21⟩
  refine ⟨_, _, _, rfl, ?_⟩
  have hxx := hx18.trans hx21
  have hX21 : Ext [] H H21 := hx13.transP hxx (fun i hi => hi.1)
  have hs18 := hx18.size
  have hs21 := hx21.size
  have hm21 : MySeq writeE H5.size H21 a9 L.length c11 L := hm13.extP hxx (fun k _ hk hm => by omega)
  have hafr : ∀ i ∈ blkOf a22, H5.size ≤ i ∧ i ∉ blkOf a9 := fun i hi => by
    have h1 := hfr21 i hi
    refine ⟨by omega, fun hm => ?_⟩
    obtain ⟨G, g1, _⟩ := hm13
    have := g1.lt i hm
    omega
  refine hm21.push (E := writeE) (x := (numU s 4, (rdU (rdU s 4).2 128).1)) (v := [.int .i64 (numU s 4), .slice a22 (rdU (rdU s 4).2 128).1.length c24]) ⟨a22, _, c24, rfl, hrow, fun k hk => (hfr21 k hk).2⟩ hafr (by omega) rfl (by omega) (fun a29 c30 H31 g1 _ g2 => ⟨⟨by omega, by omega⟩, ⟨L ++ [(numU s 4, (rdU (rdU s 4).2 128).1)], (rdU (rdU s 4).2 128).2, m, by omega, by simp; omega, by simp, g1, ?_, by rw [← hL]; simp, ?_, by have := g2.size; omega⟩, by simp only []; omega⟩)
  · exact RIs.extP hr21 g2.toP (fun k hk hm => by obtain ⟨G, _, _, g3⟩ := hm13; have := g3 k hm; omega)
  · exact ext_new hX21 g2 (fun i hi => by obtain ⟨G, _, _, g3⟩ := hm13; have := g3 i hi; omega)

/-! ### May it be? -/
def MayP (l : List Wr) (homes : Int) : Prop := l ≠ [] ∧ (∀ w ∈ l, 0 ≤ w.1 ∧ w.1 < homes ∧ w.2.length = 128) ∧ (l.map (·.1)).Nodup
instance (l : List Wr) (homes : Int) : Decidable (MayP l homes) := by unfold MayP; infer_instance
def mayB (l : List Wr) (homes : Int) : Bool := decide (MayP l homes)
theorem MayP.full {l : List Wr} {homes : Int} (h : MayP l homes) : Full l := fun w hw => (h.2.1 w hw).2.2

theorem nodup_bound (l : List Int) (n : Nat) (hn : l.Nodup) (hb : ∀ k ∈ l, 0 ≤ k ∧ k < n) : l.length ≤ n := by
  have h1 : ∀ k ∈ l, k ∈ (List.range n).map (fun i : Nat => (i : Int)) := fun k hk => by
    obtain ⟨h0, h1⟩ := hb k hk
    exact List.mem_map.2 ⟨k.toNat, by simp; omega, by omega⟩
  have := nodup_le _ l hn h1
  simpa using this
theorem MayP.few {l : List Wr} {homes : Int} {n : Nat} (h : MayP l homes) (hn : homes ≤ n) : l.length ≤ n := by
  have := nodup_bound (l.map (·.1)) n h.2.2 (fun k hk => by
    obtain ⟨w, hw, rfl⟩ := List.mem_map.1 hk
    have := h.2.1 w hw
    omega)
  simpa using this

theorem may_ok {l : List Wr} {a : Option Addr} {c : Nat} (homes : Int) {H : Heap} (hl : l.length ≤ 9000000000000) (h : SeqV writeE H a l) :
    Does Tryz.prog 53 [.slice a l.length c, .int .i64 homes] H fun v H' => v = .bool (mayB l homes) ∧ Ext [] H H' := by
  refine Fn_of_vc Tryz.mixed (vc_may _ _ _ _ _ _) ?_
  intro r1 H2 hm
  have er : r1 = H.size := hm.1
  have hx2 := hm.ext
  have hs2 : H2.size = H.size + 1 := by obtain ⟨_, rfl⟩ := hm; simp
  refine ⟨fun i H' => ∃ j : Nat, i = j ∧ j ≤ l.length ∧ Marks H' r1 ((l.take j).map (·.1)) ∧ (∀ w ∈ l.take j, 0 ≤ w.1 ∧ w.1 < homes ∧ w.2.length = 128) ∧ ((l.take j).map (·.1)).Nodup ∧ Ext [] H H' ∧ H2.size ≤ H'.size, fun i _ => l.length - i.toNat, ⟨0, rfl, by omega, marks_new hm, by simp, by simp, hx2, Nat.le_refl _⟩, ?_⟩
  rintro _ H6 ⟨j, rfl, hj, hmk, hgood, hnd, hx6, hs6⟩
  refine ⟨fun hlt => ?_, fun hge => ⟨?_, hx6⟩⟩
  · have hi : l[j]? = some l[j] := List.getElem?_eq_getElem (by omega)
    have htk : l.take (j + 1) = l.take j ++ [l[j]] := by rw [List.take_add_one, hi]; rfl
    have hmem : l[j] ∈ l := List.getElem_mem _
    have hsub : ∀ w ∈ l.take j, w ∈ l := fun w hw => List.mem_of_mem_take hw
    obtain ⟨b7, o8, a10, c12, ea, g0, g1, gr, _⟩ := (h.ext hx6).wr hi
    have bad : ∀ {H' : Heap}, ¬ MayP l homes → Ext [] H H' → Value.bool false = .bool (mayB l homes) ∧ Ext [] H H' := fun hn he => ⟨by unfold mayB; rw [decide_eq_false hn], he⟩
    have hpre : MayP l homes → ((l.take j ++ [l[j]]).map (·.1)).Nodup := fun hp => by
      rw [← htk, List.map_take]
      exact (List.take_sublist _ _).nodup hp.2.2
    generalize l[j] = w at *
    refine ⟨by omega, hlt, b7, o8, ea, _, by rw [Int.toNat_natCast]; exact g0, a10, _, c12, by rw [Int.toNat_natCast]; exact g1, fun b13 H14 hn14 => ⟨hn14.blk.cells _ _ (by simp), fun H15 hp15 => ?_⟩⟩
    have hb15 : Blk H15 b13 [.int .i64 w.1, .slice a10 w.2.length c12] := by simpa [splice] using hp15.blk hn14.blk (by simp)
    have e13 := hn14.eq
    have hs14 := hn14.size
    have hs15 := hp15.size
    have hX15 : Ext [] H6 H15 := ext_new hn14.ext hp15.ext (by simp; omega)
    have hx15 : Ext [] H H15 := hx6.trans hX15
    have q0 : hcell H15 b13 0 = some (.int .i64 w.1) := by rw [hb15.cell]; rfl
    refine ⟨_, q0, fun e => bad (fun hp => by have := hp.2.1 w hmem; omega) hx15, fun e1 => ⟨_, q0, fun e => bad (fun hp => by have := hp.2.1 w hmem; omega) hx15, fun e2 => ⟨a10, _, c12, by rw [hb15.cell]; rfl, fun e => bad (fun hp => by have := hp.2.1 w hmem; omega) hx15, fun e3 => ?_⟩⟩⟩
    obtain ⟨lm, hml, hget⟩ := hmk.ext hX15 (by simp)
    refine ⟨_, q0, r1, lm, rfl, hml, decide (w.1 ∈ (l.take j).map (·.1)), (hget w.1).symm, fun e => bad (fun hp => ?_) hx15, fun e => ⟨_, q0, r1, lm, rfl, hml, fun H28 hput => ?_⟩⟩
    · have := hpre hp
      rw [List.map_append, List.nodup_append] at this
      exact this.2.2 _ (of_decide_eq_true e) w.1 (by simp) rfl
    · have hnin : w.1 ∉ (l.take j).map (·.1) := of_decide_eq_false e
      obtain ⟨hm28, hx28⟩ := MapPut.is hput (by omega)
      refine ⟨⟨by omega, by omega⟩, ⟨j + 1, by omega, by omega, ⟨_, hm28, fun k => ?_⟩, fun x hx => ?_, ?_, ext_new hx15 hx28 (by simp; omega), by have := hx28.size; omega⟩, by simp only []; omega⟩
      · rw [mapGet_set, hget, htk, List.map_append]
        by_cases hk : k = w.1
        · subst hk; simp
        · rw [if_neg hk]; simp [hk]
      · rw [htk] at hx
        rcases List.mem_append.1 hx with hx | hx
        · exact hgood x hx
        · simp only [List.mem_singleton] at hx; subst hx; exact ⟨by omega, by omega, by omega⟩
      · rw [htk, List.map_append, List.nodup_append]
        refine ⟨hnd, by simp, fun x hx y hy => ?_⟩
        simp only [List.map_cons, List.map_nil, List.mem_singleton] at hy
        subst hy
        exact fun e => hnin (e ▸ hx)
  · have : j = l.length := by omega
    subst this
    rw [List.take_length] at hgood hnd
    refine congrArg Value.bool (dec_bool ?_)
    unfold mayB
    rw [decide_eq_true_eq]
    constructor
    · intro h0
      exact ⟨fun e => by rw [e] at h0; simp at h0, hgood, hnd⟩
    · intro hp
      have := List.length_pos_iff.2 hp.1
      omega

theorem eqfunc_ok {xs ys : List Octs} {a a' : Option Addr} {c c' : Nat} {H : Heap} (hl : xs.length ≤ 1000000) (hx : ∀ x ∈ xs, x.length ≤ 1000000) (h : SeqV bytesC H a xs) (k : SeqV bytesC H a' ys) :
    Does Tryz.prog 93 [.slice a xs.length c, .slice a' ys.length c', .func (.func 80) #[] #[]] H fun v H' => v = .bool (decide (xs = ys)) ∧ H = H' := by
  refine Fn_of_vc Tryz.mixed (vc_eqfunc _ _ _ _ _ _ _ _) ?_
  refine ⟨fun e => ⟨?_, rfl⟩, fun e => ?_⟩
  · have : xs ≠ ys := fun e' => e (by rw [e'])
    simp [this]
  refine ⟨fun i H' => H' = H ∧ ∃ j : Nat, i = j ∧ j ≤ xs.length ∧ xs.take j = ys.take j, fun i _ => xs.length - i.toNat, ⟨rfl, 0, rfl, by omega, rfl⟩, ?_⟩
  rintro _ _ ⟨rfl, j, rfl, hj, ht⟩
  refine ⟨fun hlt => ?_, fun hge => ⟨?_, rfl⟩⟩
  · have hi : xs[j]? = some xs[j] := List.getElem?_eq_getElem (by omega)
    have hi' : ys[j]? = some (ys[j]'(by omega)) := List.getElem?_eq_getElem (by omega)
    obtain ⟨b5, o6, a7, c9, e5, d0, _, dr, _⟩ := h.blk hi
    obtain ⟨b8, o9, a10, c12, e8, f0, _, fr, _⟩ := k.blk hi'
    refine ⟨by omega, hlt, b5, o6, e5, a7, _, c9, by rw [Int.toNat_natCast]; exact d0, by omega, by omega, b8, o9, e8, a10, _, c12, by rw [Int.toNat_natCast]; exact f0, (eqB_ok (hx _ (List.getElem_mem _)) dr fr).mono ?_⟩
    rintro _ _ ⟨rfl, rfl⟩
    refine ⟨_, rfl, fun hne => ⟨?_, rfl⟩, fun heq => ⟨⟨by omega, by omega⟩, ⟨rfl, j + 1, by omega, by omega, ?_⟩, by simp only []; omega⟩⟩
    · have : xs ≠ ys := fun e' => by subst e'; simp at hne
      simp [this]
    · rw [List.take_add_one, List.take_add_one, ht, hi, hi']
      have : xs[j] = ys[j]'(by omega) := by simpa using heq
      rw [this]
  · have e1 : j = xs.length := by omega
    subst e1
    rw [List.take_length, List.take_of_length_le (by omega)] at ht
    simp [ht]
end Go.Proofs
end

